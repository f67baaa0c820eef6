/- The reference's contracts: in memory; best, without. -/
import Derived.Test.YtpffofliemooiaaBuU
open Go.RowKit Go.Own
namespace Go.Proofs.Ytpffofliemooiaa

def RS.cells (T : RS) (v : Value) : List Value := [.int .i64 T.d, .int .i64 T.lo, .int .i64 T.hi, .int .i64 T.cp, v, .bool T.marked, .int .i64 T.high]
def rfA (r : Nat) (T : RS) : Asn := exA fun p : Option Addr × Nat => starA (cellsA r 73 (T.cells (.slice p.1 T.L.length p.2))) (rowA 59 2 p.1 T.L.length p.2 (ents T.L))
theorem rf_open {w : World} {r : Nat} {T : RS} {L : List Asn} (h : Hold w (rfA r T :: L)) : ∃ ao cap, Hold w (cellsA r 73 (T.cells (.slice ao T.L.length cap)) :: rowA 59 2 ao T.L.length cap (ents T.L) :: L) := by
  obtain ⟨⟨ao, cap⟩, h1⟩ := Hold.ex.1 h
  exact ⟨ao, cap, Hold.star.1 h1⟩
theorem rf_close {w : World} {r : Nat} {T : RS} {L : List Asn} {ao : Option Addr} {cap : Nat} (h : Hold w (cellsA r 73 (T.cells (.slice ao T.L.length cap)) :: rowA 59 2 ao T.L.length cap (ents T.L) :: L)) : Hold w (rfA r T :: L) :=
  Hold.ex.2 ⟨(ao, cap), Hold.star.2 h⟩
theorem ents_at : ∀ {L : List (Int × Int)} {j : Nat}, j < L.length → (ents L)[2 * j]? = some (.int .i64 (bk L j)) ∧ (ents L)[2 * j + 1]? = some (.int .i64 (L.getD j (0, 0)).2)
  | x :: L, 0, _ => ⟨rfl, rfl⟩
  | x :: L, j + 1, h => by
    have := ents_at (L := L) (j := j) (by simpa using h)
    refine ⟨?_, ?_⟩
    · rw [show 2 * (j + 1) = 2 * j + 1 + 1 by omega, ents]
      simpa [bk] using this.1
    · rw [show 2 * (j + 1) + 1 = 2 * j + 1 + 1 + 1 by omega, ents]
      simpa using this.2

theorem i59s : (Try.prog.info? 59).map (·.size) = some 2 := by kernel_rfl
/-- k is best among the places from i on. -/
def PartBest (L : List (Int × Int)) (i k : Nat) : Prop := k < L.length ∧ i ≤ k + 1 ∧ ∀ j, i ≤ j → j < L.length → bk L j ≤ bk L k ∧ (k < j → bk L j < bk L k)
def BestRel (L : List (Int × Int)) (T : List Asn) (kv iv : Value) (wr : World) : Prop := ∃ i k : Nat, i ≤ L.length ∧ kv = .int .i64 k ∧ iv = .int .i64 ((i : Int) - 1) ∧ PartBest L i k ∧ Hold wr T

set_option maxRecDepth 20000 in
theorem best_ok (r : Nat) (T : RS) (hn : 0 < T.L.length) (hl : T.L.length ≤ 65537) (w : World) (L : List Asn) (h : Hold w (rfA r T :: L)) :
    Calls Try.prog 32 #[.pointer (some ⟨r, 0, none⟩)] w fun e w' => ∃ k : Nat, e = .returned (.int .i64 k) ∧ IsBest T.L k ∧ Hold w' (rfA r T :: L) := by
  obtain ⟨ao, cap, h1⟩ := rf_open h
  obtain ⟨rb, ro, rfl, -, -⟩ := (h1.mv 1).at hn
  obtain ⟨n, hnn⟩ : ∃ n, n = T.L.length := ⟨_, rfl⟩
  have G : ∀ W, Hold W (cellsA r 73 (T.cells (.slice (some ⟨rb, ro, none⟩) T.L.length cap)) :: rowA 59 2 (some ⟨rb, ro, none⟩) T.L.length cap (ents T.L) :: L) → W.cell? ⟨r, 4, none⟩ = some (.slice (some ⟨rb, ro, none⟩) n cap) ∧ ∀ j, j < n → W.cell? ⟨rb, ro + j * 2, none⟩ = some (.int .i64 (bk T.L j)) := fun W hW =>
    ⟨by rw [hnn]; exact hW.cell 4, fun j hj => by rw [(row_at (hW.mv 1) hn).1 (j * 2) (by omega), Nat.mul_comm]; exact (ents_at (by omega)).1⟩
  have HG := Lib.hid G
  obtain ⟨c4, -⟩ := G _ h1
  have hn1 : (n : Int) ≤ 65537 := by omega
  have hn0 : 1 ≤ (n : Int) := by omega
  have HN := Lib.hid hnn
  clear h G hnn hn hl
  go_enter Try.func32, Try.ntmps32
  go_upto_block 0 with (fail)
  clear c4
  go_wp2
  go_loopw [3, 4] (fun kv iv wr => BestRel T.L (cellsA r 73 (T.cells (.slice (some ⟨rb, ro, none⟩) T.L.length cap)) :: rowA 59 2 (some ⟨rb, ro, none⟩) T.L.length cap (ents T.L) :: L) kv iv wr) (fun _ iv _ => (intOf iv + 1).toNat)
  case atStart => exact ⟨n, n - 1, by rw [HN.out]; exact Nat.le_refl _, by rw [show ((n - 1 : Nat) : Int) = (n : Int) - 1 by omega], rfl, ⟨by rw [← HN.out]; omega, by omega, fun j h1 h2 => by rw [← HN.out] at h2; omega⟩, h1⟩
  case round =>
    clear h1
    obtain ⟨i, k, hi, rfl, rfl, ⟨hk, hik, hpb⟩, hr⟩ := hrel
    rw [← HN.out] at hi hk
    rcases i with _ | i
    · have e0 : (((0 : Nat) : Int) - 1) = -1 := rfl
      rw [e0]
      go_wp2
      go_ret
      exact ⟨k, rfl, ⟨by rw [← HN.out]; exact hk, fun j hj => hpb j (Nat.zero_le _) hj⟩, rf_close hr⟩
    · have e0 : (((i + 1 : Nat) : Int) - 1) = i := by omega
      rw [e0]
      have hi0 : 0 ≤ (i : Int) := by omega
      have hin : (i : Int) < n := by omega
      have hk0 : 0 ≤ (k : Int) := by omega
      have hkn : (k : Int) < n := by omega
      have hS := hr.drew
      obtain ⟨c4, cj⟩ := HG.out _ hS
      have ci := cj i (by omega)
      have ck := cj k hk
      have HPB := Lib.hid hpb
      clear cj hpb
      go_upto_region 5 with (fail)
      refine wp_region_Z (fun W => W.cell? ⟨r, 4, none⟩ = some (.slice (some ⟨rb, ro, none⟩) n cap) ∧ W.cell? ⟨rb, ro + i * 2, none⟩ = some (.int .i64 (bk T.L i)) ∧ W.cell? ⟨rb, ro + k * 2, none⟩ = some (.int .i64 (bk T.L k))) [3, 7, 11, 15] [] [0, 1, 2, 4, 5, 6, 8, 9, 10, 12, 13, 14, 16] [0, 1, 2, 3, 4, 5, 6, 7, 8, 9, 10, 11, 12, 13, 14, 15, 16] (by kernel_rfl) (by kernel_rfl) ?_
      (repeat (first | (refine wpZ_st (v := ?_) _ (by rfl) (by rfl) (by rfl) (fun W hW => ?_) (by exact ⟨c4, ci, ck⟩) ?_; (rotate_left; (focus ((try dsimp only at hW); go_simp; (try with_reducible rfl); done))); try simp only [Act.put, List.getElem_toArray, List.getElem_cons_zero, List.getElem_cons_succ, List.setIfInBounds_toArray, List.set_cons_zero, List.set_cons_succ]) | (refine wpZ_pu (v := ?_) _ (by rfl) (by rfl) (by rfl) (by rfl) (fun W => ?_) ?_; (rotate_left; (focus ((try dsimp only at hW); go_simp; (try with_reducible rfl); done))); try simp only [Act.put, List.getElem_toArray, List.getElem_cons_zero, List.getElem_cons_succ, List.setIfInBounds_toArray, List.set_cons_zero, List.set_cons_succ]) | (refine wpZ_no _ (by rfl) (by rfl) (by rfl) (by rfl) ?_; try simp only [Act.put, List.getElem_toArray, List.getElem_cons_zero, List.getElem_cons_succ, List.setIfInBounds_toArray, List.set_cons_zero, List.set_cons_succ]) | (refine wpZ_noS _ (by rfl) (by rfl) (by rfl) (by exact ⟨c4, ci, ck⟩) ?_; try simp only [Act.put, List.getElem_toArray, List.getElem_cons_zero, List.getElem_cons_succ, List.setIfInBounds_toArray, List.set_cons_zero, List.set_cons_succ])))
      (simp only [wpZ])
      by_cases hgt : bk T.L k < bk T.L i
      · go_wp2
        go_roundw
        case rel =>
          refine ⟨i, i, by rw [← HN.out]; omega, rfl, by go_num, ⟨by rw [← HN.out]; omega, by omega, fun j h1 h2 => ?_⟩, hS⟩
          by_cases e : j = i
          · rw [e]; exact ⟨Int.le_refl _, fun h => absurd h (Nat.lt_irrefl _)⟩
          · have := (HPB.out j (by omega) h2).1
            exact ⟨by omega, fun _ => by omega⟩
        case measure => (simp [intOf] <;> omega)
      · have hle : bk T.L i ≤ bk T.L k := by omega
        go_wp2
        go_roundw
        case rel =>
          refine ⟨i, k, by rw [← HN.out]; omega, rfl, by go_num, ⟨by rw [← HN.out]; exact hk, by omega, fun j h1 h2 => ?_⟩, hS⟩
          by_cases e : j = i
          · rw [e]; exact ⟨hle, fun h => by omega⟩
          · exact HPB.out j (by omega) h2
        case measure => (simp [intOf] <;> omega)

theorem ents_one (L : List (Int × Int)) : ∀ u ∈ ents L, u.oneCell' = true := by
  induction L with
  | nil => simp [ents]
  | cons x L ih =>
    intro u hu
    rcases List.mem_cons.1 hu with rfl | hu
    · rfl
    rcases List.mem_cons.1 hu with rfl | hu
    · rfl
    exact ih u hu
theorem ents_take : ∀ (L : List (Int × Int)) (k : Nat), (ents L).take (k * 2) = ents (L.take k)
  | [], k => by simp [ents]
  | x :: L, 0 => by simp [ents]
  | x :: L, k + 1 => by rw [show (k + 1) * 2 = k * 2 + 1 + 1 by omega, ents, List.take_succ_cons, List.take_succ_cons, ents_take L k]; rfl
theorem ents_drop : ∀ (L : List (Int × Int)) (k : Nat), (ents L).drop (k * 2) = ents (L.drop k)
  | [], k => by simp [ents]
  | x :: L, 0 => by simp
  | x :: L, k + 1 => by rw [show (k + 1) * 2 = k * 2 + 1 + 1 by omega, ents, List.drop_succ_cons, List.drop_succ_cons, ents_drop L k]; rfl
theorem best0 (r : Nat) (T : RS) (hn : T.L = []) (w : World) (L : List Asn) (h : Hold w (rfA r T :: L)) :
    Calls Try.prog 32 #[.pointer (some ⟨r, 0, none⟩)] w fun e w' => e = .returned (.int .i64 (-1)) ∧ w = w' := by
  obtain ⟨ao, cap, h1⟩ := rf_open h
  have c4 : w.cell? ⟨r, 4, none⟩ = some (.slice ao 0 cap) := by rw [show (0 : Nat) = T.L.length by rw [hn]; rfl]; exact h1.cell 4
  clear h h1
  go_enter Try.func32, Try.ntmps32
  go_upto_block 0 with (fail)
  go_wp2
  go_loopw [3, 4] (fun kv iv wr => kv = .int .i64 (-1) ∧ iv = .int .i64 (-1) ∧ wr = w) (fun _ iv _ => (intOf iv + 1).toNat)
  case atStart => exact ⟨rfl, rfl, rfl⟩
  case round =>
    obtain ⟨rfl, rfl, rfl⟩ := hrel
    go_wp2
    go_ret
    exact ⟨rfl, rfl⟩

set_option maxHeartbeats 2000000 in
set_option maxRecDepth 20000 in
theorem without_ok (r : Nat) (T : RS) (k : Nat) (x : Int × Int) (hx : T.L[k]? = some x) (hl : T.L.length ≤ 65537) (w : World) (L : List Asn) (h : Hold w (rfA r T :: L)) :
    Calls Try.prog 31 #[.pointer (some ⟨r, 0, none⟩), .int .i64 k] w fun e w' => e = .returned (.agg #[.int .i64 x.1, .int .i64 x.2]) ∧ Hold w' (rfA r { T with L := T.L.eraseIdx k } :: L) := by
  obtain ⟨i59, hi, hz0, hz1, hz2⟩ := info_parts info59
  obtain ⟨ao, cap, h1⟩ := rf_open h
  have hk : k < T.L.length := (List.getElem?_eq_some_iff.1 hx).1
  obtain ⟨n, hnn⟩ : ∃ n, n = T.L.length := ⟨_, rfl⟩
  obtain ⟨rb, ro, rfl, -, -⟩ := (h1.mv 1).at (by omega)
  have hq1 := h1.box 59 [.int .i64 0, .int .i64 0]
  obtain ⟨q, hq⟩ : ∃ q, w.heap.size = q := ⟨_, rfl⟩
  simp only [hq] at hq1
  have hq2 := hq1.box 59 [.int .i64 0, .int .i64 0]
  have hL9 : ∃ L9, n - (k + 1) = L9 := ⟨_, rfl⟩
  obtain ⟨L9, hL9⟩ := hL9
  have hb2 := (h1.mv 1).bounds.2
  have hcap1 : n ≤ cap := by rw [hnn]; exact hb2.1
  have hcap2 : (cap : Int) ≤ 9223372036854775807 := by have := hb2.2; unfold maxLen at this; omega
  have hcap3 : (n : Int) ≤ (cap : Int) := by omega
  have hn1 : (n : Int) ≤ 65537 := by omega
  have hk0 : 0 ≤ (k : Int) := by omega
  have hkn : (k : Int) < n := by omega
  have hkc : (k : Int) ≤ cap := by omega
  have hk1 : (k : Int) + 1 ≤ (n : Int) := by omega
  have hk2 : ((k : Int) + 1).toNat = k + 1 := by omega
  have hk3 : ¬ ((k : Int) + 1 < 0) := by omega
  have hk4 : 0 ≤ (k : Int) + 1 := by omega
  have hk5 : k ≤ cap := by omega
  have hk6 : k + 1 ≤ n := by omega
  have hk7 : (k : Int) ≤ (k : Int) + 1 := by omega
  have W1 : IntKind.i64.wrap ((k : Int) + 1) = (k : Int) + 1 := IntWalk.i64_in _ (by omega)
  have HNN := Lib.hid hnn
  have HL9 := Lib.hid hL9
  have HX := Lib.hid hx
  have G : ∀ W A B, Hold W (A :: B :: cellsA r 73 (T.cells (.slice (some ⟨rb, ro, none⟩) T.L.length cap)) :: rowA 59 2 (some ⟨rb, ro, none⟩) T.L.length cap (ents T.L) :: L) → W.cell? ⟨r, 4, none⟩ = some (.slice (some ⟨rb, ro, none⟩) n cap) ∧ W.cell? ⟨rb, ro + k * 2, none⟩ = some (.int .i64 x.1) ∧ W.cell? ⟨rb, ro + k * 2 + 1, none⟩ = some (.int .i64 x.2) := fun W A B hW => by
    have h3 := (row_at (hW.mv 3) (by omega)).1
    have hb : bk T.L k = x.1 ∧ (T.L.getD k (0, 0)).2 = x.2 := by simp [bk, List.getD, hx]
    refine ⟨by rw [hnn]; exact (hW.mv 2).cell 4, ?_, ?_⟩
    · rw [h3 (k * 2) (by omega), Nat.mul_comm, (ents_at hk).1, hb.1]
    · rw [Nat.add_assoc, h3 (k * 2 + 1) (by omega), Nat.mul_comm, (ents_at hk).2, hb.2]
  have HG := Lib.hid G
  have hl9 : T.L.length ≤ 65537 := hl
  have hL9b : (L9 : Int) ≤ 65537 := by omega
  clear h G hx hk hnn hb2 hl hl9
  go_enter Try.func31, Try.ntmps31
  go_upto_region 1 with (fail)
  refine gen_world hq1 (fun w1 hq1 => ?_)
  try simp only [hq]
  clear hq hq2
  obtain ⟨p, hp⟩ : ∃ p, w1.heap.size = p := ⟨_, rfl⟩
  have hq2 := hq1.box 59 [.int .i64 x.1, .int .i64 x.2]
  rw [hp] at hq2
  have hb0 : Hold w1 (pureA True :: cellsA q 59 [.int .i64 0, .int .i64 0] :: cellsA r 73 (T.cells (.slice (some ⟨rb, ro, none⟩) T.L.length cap)) :: rowA 59 2 (some ⟨rb, ro, none⟩) T.L.length cap (ents T.L) :: L) := Hold.pure.2 ⟨trivial, hq1⟩
  obtain ⟨c4, cA, cB⟩ := HG.out _ _ _ hb0
  clear hb0
  go_upto_region 2 with (fail)
  refine gen_world hq2 (fun w2 hq2 => ?_)
  clear hp hq1 c4 cA cB
  have h6 := hq2.drew
  have hS := (HG.out _ _ _ h6).1
  obtain ⟨S1, r1⟩ := (h6.mv 3).rd
  have r2 := r1.sliced (l := 0) (u := k) (m := cap) (by omega) (by rw [← HNN.out]; omega) (by omega) (by omega)
  have e1 : sliced (some ⟨rb, ro, none⟩) 0 k cap 2 = .slice (some ⟨rb, ro, none⟩) k cap := by
    unfold sliced; rw [if_neg (by omega)]; simp [Addr.add]
  have e2 : ((ents T.L).drop (0 * 2)).take ((k - 0) * 2) = ents (T.L.take k) := by rw [Nat.zero_mul, List.drop_zero, Nat.sub_zero, ents_take]
  rw [e1, e2, Nat.sub_zero] at r2
  have HN1 := Lib.hid (ents_one (T.L.take k))
  have HN2 := Lib.hid (ents_one (T.L.drop (k + 1)))
  have r3 := fun (W : World) (hW : ∃ S, Rd W 2 (.slice (some ⟨rb, ro, none⟩) T.L.length cap) T.L.length (ents T.L) S) => hW.choose_spec.sliced (l := k + 1) (u := T.L.length) (m := cap) (by rw [← HNN.out]; omega) (Nat.le_refl _) (by rw [← HNN.out]; omega) (by omega)
  have e3 : ((ents T.L).drop ((k + 1) * 2)).take ((T.L.length - (k + 1)) * 2) = ents (T.L.drop (k + 1)) := by
    rw [ents_drop, List.take_of_length_le (by simp)]
  rw [e3, ← HNN.out, HL9.out] at r3
  have hfin : ∀ (ao2 : Option Addr) (cap2 : Nat) (wz : World), Hold wz (rowA 59 2 ao2 (k + L9) cap2 (ents (T.L.take k) ++ ents (T.L.drop (k + 1))) :: cellsA p 59 [.int .i64 x.1, .int .i64 x.2] :: cellsA q 59 [.int .i64 0, .int .i64 0] :: cellsA r 73 (T.cells (.slice (some ⟨rb, ro, none⟩) T.L.length cap)) :: rowA 59 2 (some ⟨rb, ro, none⟩) T.L.length cap (ents T.L) :: L) →
      Hold (wz.setCell ⟨r, 4, none⟩ (.slice ao2 (k + L9) cap2)) (cellsA p 59 [.int .i64 x.1, .int .i64 x.2] :: cellsA q 59 [.int .i64 0, .int .i64 0] :: rfA r { T with L := T.L.eraseIdx k } :: L) := fun ao2 cap2 wz hW => by
    have el : (T.L.eraseIdx k).length = k + L9 := by
      rw [List.length_eraseIdx_of_lt (by rw [← HNN.out]; omega), ← HNN.out, ← HL9.out]; omega
    have h7 := (hW.mv 3).st 4 (.slice ao2 (k + L9) cap2)
    have h8 := h7.arr [0, 1, 4, 2, 3]
    (try dsimp only [Go.Own.front, Go.Own.arrA, Go.Own.atA, Go.Own.dropA, List.length_cons, List.length_nil, Nat.zero_add, Nat.reduceAdd] at h8)
    have h9 := (h8.mv 2).drop
    (try dsimp only [Go.Own.front, Go.Own.arrA, Go.Own.atA, Go.Own.dropA, List.length_cons, List.length_nil, Nat.zero_add, Nat.reduceAdd] at h9)
    have h10 : Hold (wz.setCell ⟨r, 4, none⟩ (.slice ao2 (k + L9) cap2)) (rfA r { T with L := T.L.eraseIdx k } :: cellsA p 59 [.int .i64 x.1, .int .i64 x.2] :: cellsA q 59 [.int .i64 0, .int .i64 0] :: L) := by
      refine rf_close (ao := ao2) (cap := cap2) ?_
      rw [show ({ T with L := T.L.eraseIdx k } : RS).L = T.L.eraseIdx k from rfl, el, List.eraseIdx_eq_take_drop_succ, ents_append]
      exact h9
    exact h10.arr [1, 2, 0]
  have HFIN := Lib.hid hfin
  have hSj := (HG.out _ _ _ (hq2.junk (.cells #[] 59)).drew).1
  clear e1 e2 e3 hfin hq2
  by_cases hce : cap = k + 1
  · subst hce
    have e4 : sliced (some ⟨rb, ro, none⟩) (k + 1) n (k + 1) 2 = .slice (some ⟨rb, ro, none⟩) L9 0 := by
      unfold sliced; rw [if_pos rfl, HL9.out, Nat.sub_self]
    rw [e4] at r3
    clear e4
    obtain rfl : L9 = 0 := by omega
    refine wp_region_Z (fun W => W.cell? ⟨r, 4, none⟩ = some (.slice (some ⟨rb, ro, none⟩) n (k + 1))) [5, 12] [19] [0, 2, 3, 4, 6, 7, 9, 10, 11, 13, 14, 15, 17, 18] [0, 2, 3, 4, 5, 6, 7, 9, 10, 11, 12, 13, 14, 15, 1, 8, 16, 17, 18, 19] (by kernel_rfl) (by kernel_rfl) ?_
    (repeat (first | (refine wpZ_st (v := ?_) _ (by rfl) (by rfl) (by rfl) (fun W hW => ?_) (by exact hS) ?_; (rotate_left; (focus ((try dsimp only at hW); go_simp; (try with_reducible rfl); done))); try simp only [Act.put, List.getElem_toArray, List.getElem_cons_zero, List.getElem_cons_succ, List.setIfInBounds_toArray, List.set_cons_zero, List.set_cons_succ]) | (refine wpZ_pu (v := ?_) _ (by rfl) (by rfl) (by rfl) (by rfl) (fun W => ?_) ?_; (rotate_left; (focus ((try dsimp only at hW); go_simp; (try with_reducible rfl); done))); try simp only [Act.put, List.getElem_toArray, List.getElem_cons_zero, List.getElem_cons_succ, List.setIfInBounds_toArray, List.set_cons_zero, List.set_cons_succ]) | (refine wpZ_no _ (by rfl) (by rfl) (by rfl) (by rfl) ?_; try simp only [Act.put, List.getElem_toArray, List.getElem_cons_zero, List.getElem_cons_succ, List.setIfInBounds_toArray, List.set_cons_zero, List.set_cons_succ]) | (refine wpZ_noS _ (by rfl) (by rfl) (by rfl) (by exact hS) ?_; try simp only [Act.put, List.getElem_toArray, List.getElem_cons_zero, List.getElem_cons_succ, List.setIfInBounds_toArray, List.set_cons_zero, List.set_cons_succ])))
    (refine wpZ_eff _ (by rfl) (by rfl) (by rfl) (by rfl) (fun K hK => ?_); go_simp; refine hK _ _ (fun hl => ?_) ?_; (first | (focus (cases hl; done)) | exact hSj); clear hK K; try simp only [Act.put, List.getElem_toArray, List.getElem_cons_zero, List.getElem_cons_succ, List.setIfInBounds_toArray, List.set_cons_zero, List.set_cons_succ])
    refine wpZ_eff _ (by rfl) (by rfl) (by rfl) (by rfl) (fun K hK => ?_)
    refine wp_append_new_h (w := w2.drew) _ _ 53 (by rfl) 59 i59 (.agg #[.int .i64 0, .int .i64 0]) 2 16 Try.underlying53 hi hz0 hz1 hz2 (by rfl) h6 (by rfl) ⟨rfl, rfl, rfl, rfl⟩ _ (by rfl) k (ents (T.L.take k)) S1 r2 HN1.out (by unfold maxLen; omega) (by omega) (fun a3 c3 w7 h7 hc7 => ?_)
    have r4 := r3 w7 (by rw [HNN.out]; exact (h7.mv 4).rd)
    have hS7 : w7.cell? ⟨r, 4, none⟩ = some (.slice (some ⟨rb, ro, none⟩) n (k + 1)) := by rw [HNN.out]; exact (h7.mv 3).cell 4
    (refine hK _ _ (fun hl => ?_) ?_; (first | (focus (cases hl; done)) | exact hS7); clear hK K; try simp only [Act.put, List.getElem_toArray, List.getElem_cons_zero, List.getElem_cons_succ, List.setIfInBounds_toArray, List.set_cons_zero, List.set_cons_succ])
    refine wpZ_eff _ (by rfl) (by rfl) (by rfl) (by rfl) (fun K hK => ?_)
    refine wp_append_src_h (w := w7) _ _ 53 (by rfl) 59 i59 (.agg #[.int .i64 0, .int .i64 0]) 2 16 Try.underlying53 hi hz0 hz1 hz2 (by rfl) a3 k c3 _ (by rfl) h7 _ (by rfl) 0 (ents (T.L.drop (k + 1))) _ r4 HN2.out (by unfold maxLen; omega) (by omega) (fun a4 c4 w8 h8 hc8 => ?_)
    have hS8 : w8.cell? ⟨r, 4, none⟩ = some (.slice (some ⟨rb, ro, none⟩) n (k + 1)) := by rw [HNN.out]; exact (h8.mv 3).cell 4
    have fS8 := (h8.mv 3).frozen 4
    (refine hK _ _ (fun hl => ?_) ?_; (first | (focus (cases hl; done)) | exact hS8); clear hK K; try simp only [Act.put, List.getElem_toArray, List.getElem_cons_zero, List.getElem_cons_succ, List.setIfInBounds_toArray, List.set_cons_zero, List.set_cons_succ])
    (repeat (first | (refine wpZ_st (v := ?_) _ (by rfl) (by rfl) (by rfl) (fun W hW => ?_) (by exact hS8) ?_; (rotate_left; (focus ((try dsimp only at hW); go_simp; (try with_reducible rfl); done))); try simp only [Act.put, List.getElem_toArray, List.getElem_cons_zero, List.getElem_cons_succ, List.setIfInBounds_toArray, List.set_cons_zero, List.set_cons_succ]) | (refine wpZ_pu (v := ?_) _ (by rfl) (by rfl) (by rfl) (by rfl) (fun W => ?_) ?_; (rotate_left; (focus ((try dsimp only at hW); go_simp; (try with_reducible rfl); done))); try simp only [Act.put, List.getElem_toArray, List.getElem_cons_zero, List.getElem_cons_succ, List.setIfInBounds_toArray, List.set_cons_zero, List.set_cons_succ]) | (refine wpZ_no _ (by rfl) (by rfl) (by rfl) (by rfl) ?_; try simp only [Act.put, List.getElem_toArray, List.getElem_cons_zero, List.getElem_cons_succ, List.setIfInBounds_toArray, List.set_cons_zero, List.set_cons_succ]) | (refine wpZ_noS _ (by rfl) (by rfl) (by rfl) (by exact hS8) ?_; try simp only [Act.put, List.getElem_toArray, List.getElem_cons_zero, List.getElem_cons_succ, List.setIfInBounds_toArray, List.set_cons_zero, List.set_cons_succ])))
    (refine wpZ_eff _ (by rfl) (by rfl) (by rfl) (by rfl) (fun K hK => ?_); go_simp; refine hK _ _ (fun hl => ?_) ?_; (first | (focus (cases hl; done)) | trivial); clear hK K; try simp only [Act.put, List.getElem_toArray, List.getElem_cons_zero, List.getElem_cons_succ, List.setIfInBounds_toArray, List.set_cons_zero, List.set_cons_succ])
    (repeat (first | (refine wpZ_st (v := ?_) _ (by rfl) (by rfl) (by rfl) (fun W hW => ?_) (by trivial) ?_; (rotate_left; (focus ((try dsimp only at hW); go_simp; (try with_reducible rfl); done))); try simp only [Act.put, List.getElem_toArray, List.getElem_cons_zero, List.getElem_cons_succ, List.setIfInBounds_toArray, List.set_cons_zero, List.set_cons_succ]) | (refine wpZ_pu (v := ?_) _ (by rfl) (by rfl) (by rfl) (by rfl) (fun W => ?_) ?_; (rotate_left; (focus ((try dsimp only at hW); go_simp; (try with_reducible rfl); done))); try simp only [Act.put, List.getElem_toArray, List.getElem_cons_zero, List.getElem_cons_succ, List.setIfInBounds_toArray, List.set_cons_zero, List.set_cons_succ]) | (refine wpZ_no _ (by rfl) (by rfl) (by rfl) (by rfl) ?_; try simp only [Act.put, List.getElem_toArray, List.getElem_cons_zero, List.getElem_cons_succ, List.setIfInBounds_toArray, List.set_cons_zero, List.set_cons_succ]) | (refine wpZ_noS _ (by rfl) (by rfl) (by rfl) (by trivial) ?_; try simp only [Act.put, List.getElem_toArray, List.getElem_cons_zero, List.getElem_cons_succ, List.setIfInBounds_toArray, List.set_cons_zero, List.set_cons_succ])))
    (simp only [wpZ])
    have h9 := HFIN.out a4 c4 w8 h8
    clear r4 h7 h8 r2 r3 h6 hS hS7 hS8 fS8 hSj
    have d0 : (w8.setCell ⟨r, 4, none⟩ (.slice a4 (k + 0) c4)).cell? ⟨p, 0, none⟩ = some (.int .i64 x.1) := h9.cell 0
    have d1 : (w8.setCell ⟨r, 4, none⟩ (.slice a4 (k + 0) c4)).cell? ⟨p, 1, none⟩ = some (.int .i64 x.2) := h9.cell 1
    have d2 : (w8.setCell ⟨r, 4, none⟩ (.slice a4 (k + 0) c4)).cell? ⟨q, 0, none⟩ = some (.int .i64 0) := (h9.mv 1).cell 0
    have d3 : (w8.setCell ⟨r, 4, none⟩ (.slice a4 (k + 0) c4)).cell? ⟨q, 1, none⟩ = some (.int .i64 0) := (h9.mv 1).cell 1
    have f2 := (h9.mv 1).frozen 0
    have f3 := (h9.mv 1).frozen 1
    generalize w8.setCell ⟨r, 4, none⟩ (.slice a4 (k + 0) c4) = w9 at *
    go_wp2
    have hZ : Hold _ (cellsA q 59 [.int .i64 x.1, .int .i64 x.2] :: cellsA p 59 [.int .i64 x.1, .int .i64 x.2] :: rfA r { T with L := T.L.eraseIdx k } :: L) := ((h9.mv 1).st 0 (.int .i64 x.1)).st 1 (.int .i64 x.2)
    exact bodyPost_ret (res_cell (hZ.loadVarAll 59 _ Try.underlying59 rfl (by rw [i59s]; rfl)) (by rfl) (by rfl)) rfl ⟨rfl, hZ.drop.drop⟩
  · have e4 : sliced (some ⟨rb, ro, none⟩) (k + 1) n cap 2 = .slice (some ⟨rb, ro + (k + 1) * 2, none⟩) L9 (cap - (k + 1)) := by
      unfold sliced; rw [if_neg hce, HL9.out]; simp [Addr.add]
    rw [e4] at r3
    clear e4
    refine wp_region_Z (fun W => W.cell? ⟨r, 4, none⟩ = some (.slice (some ⟨rb, ro, none⟩) n cap)) [5, 12] [19] [0, 2, 3, 4, 6, 7, 9, 10, 11, 13, 14, 15, 17, 18] [0, 2, 3, 4, 5, 6, 7, 9, 10, 11, 12, 13, 14, 15, 1, 8, 16, 17, 18, 19] (by kernel_rfl) (by kernel_rfl) ?_
    (repeat (first | (refine wpZ_st (v := ?_) _ (by rfl) (by rfl) (by rfl) (fun W hW => ?_) (by exact hS) ?_; (rotate_left; (focus ((try dsimp only at hW); go_simp; (try with_reducible rfl); done))); try simp only [Act.put, List.getElem_toArray, List.getElem_cons_zero, List.getElem_cons_succ, List.setIfInBounds_toArray, List.set_cons_zero, List.set_cons_succ]) | (refine wpZ_pu (v := ?_) _ (by rfl) (by rfl) (by rfl) (by rfl) (fun W => ?_) ?_; (rotate_left; (focus ((try dsimp only at hW); go_simp; (try with_reducible rfl); done))); try simp only [Act.put, List.getElem_toArray, List.getElem_cons_zero, List.getElem_cons_succ, List.setIfInBounds_toArray, List.set_cons_zero, List.set_cons_succ]) | (refine wpZ_no _ (by rfl) (by rfl) (by rfl) (by rfl) ?_; try simp only [Act.put, List.getElem_toArray, List.getElem_cons_zero, List.getElem_cons_succ, List.setIfInBounds_toArray, List.set_cons_zero, List.set_cons_succ]) | (refine wpZ_noS _ (by rfl) (by rfl) (by rfl) (by exact hS) ?_; try simp only [Act.put, List.getElem_toArray, List.getElem_cons_zero, List.getElem_cons_succ, List.setIfInBounds_toArray, List.set_cons_zero, List.set_cons_succ])))
    (refine wpZ_eff _ (by rfl) (by rfl) (by rfl) (by rfl) (fun K hK => ?_); go_simp; refine hK _ _ (fun hl => ?_) ?_; (first | (focus (cases hl; done)) | exact hSj); clear hK K; try simp only [Act.put, List.getElem_toArray, List.getElem_cons_zero, List.getElem_cons_succ, List.setIfInBounds_toArray, List.set_cons_zero, List.set_cons_succ])
    refine wpZ_eff _ (by rfl) (by rfl) (by rfl) (by rfl) (fun K hK => ?_)
    refine wp_append_new_h (w := w2.drew) _ _ 53 (by rfl) 59 i59 (.agg #[.int .i64 0, .int .i64 0]) 2 16 Try.underlying53 hi hz0 hz1 hz2 (by rfl) h6 (by rfl) ⟨rfl, rfl, rfl, rfl⟩ _ (by rfl) k (ents (T.L.take k)) S1 r2 HN1.out (by unfold maxLen; omega) (by omega) (fun a3 c3 w7 h7 hc7 => ?_)
    have r4 := r3 w7 (by rw [HNN.out]; exact (h7.mv 4).rd)
    have hS7 : w7.cell? ⟨r, 4, none⟩ = some (.slice (some ⟨rb, ro, none⟩) n cap) := by rw [HNN.out]; exact (h7.mv 3).cell 4
    (refine hK _ _ (fun hl => ?_) ?_; (first | (focus (cases hl; done)) | exact hS7); clear hK K; try simp only [Act.put, List.getElem_toArray, List.getElem_cons_zero, List.getElem_cons_succ, List.setIfInBounds_toArray, List.set_cons_zero, List.set_cons_succ])
    refine wpZ_eff _ (by rfl) (by rfl) (by rfl) (by rfl) (fun K hK => ?_)
    refine wp_append_src_h (w := w7) _ _ 53 (by rfl) 59 i59 (.agg #[.int .i64 0, .int .i64 0]) 2 16 Try.underlying53 hi hz0 hz1 hz2 (by rfl) a3 k c3 _ (by rfl) h7 _ (by rfl) L9 (ents (T.L.drop (k + 1))) _ r4 HN2.out (by unfold maxLen; omega) (by omega) (fun a4 c4 w8 h8 hc8 => ?_)
    have hS8 : w8.cell? ⟨r, 4, none⟩ = some (.slice (some ⟨rb, ro, none⟩) n cap) := by rw [HNN.out]; exact (h8.mv 3).cell 4
    have fS8 := (h8.mv 3).frozen 4
    (refine hK _ _ (fun hl => ?_) ?_; (first | (focus (cases hl; done)) | exact hS8); clear hK K; try simp only [Act.put, List.getElem_toArray, List.getElem_cons_zero, List.getElem_cons_succ, List.setIfInBounds_toArray, List.set_cons_zero, List.set_cons_succ])
    (repeat (first | (refine wpZ_st (v := ?_) _ (by rfl) (by rfl) (by rfl) (fun W hW => ?_) (by exact hS8) ?_; (rotate_left; (focus ((try dsimp only at hW); go_simp; (try with_reducible rfl); done))); try simp only [Act.put, List.getElem_toArray, List.getElem_cons_zero, List.getElem_cons_succ, List.setIfInBounds_toArray, List.set_cons_zero, List.set_cons_succ]) | (refine wpZ_pu (v := ?_) _ (by rfl) (by rfl) (by rfl) (by rfl) (fun W => ?_) ?_; (rotate_left; (focus ((try dsimp only at hW); go_simp; (try with_reducible rfl); done))); try simp only [Act.put, List.getElem_toArray, List.getElem_cons_zero, List.getElem_cons_succ, List.setIfInBounds_toArray, List.set_cons_zero, List.set_cons_succ]) | (refine wpZ_no _ (by rfl) (by rfl) (by rfl) (by rfl) ?_; try simp only [Act.put, List.getElem_toArray, List.getElem_cons_zero, List.getElem_cons_succ, List.setIfInBounds_toArray, List.set_cons_zero, List.set_cons_succ]) | (refine wpZ_noS _ (by rfl) (by rfl) (by rfl) (by exact hS8) ?_; try simp only [Act.put, List.getElem_toArray, List.getElem_cons_zero, List.getElem_cons_succ, List.setIfInBounds_toArray, List.set_cons_zero, List.set_cons_succ])))
    (refine wpZ_eff _ (by rfl) (by rfl) (by rfl) (by rfl) (fun K hK => ?_); go_simp; refine hK _ _ (fun hl => ?_) ?_; (first | (focus (cases hl; done)) | trivial); clear hK K; try simp only [Act.put, List.getElem_toArray, List.getElem_cons_zero, List.getElem_cons_succ, List.setIfInBounds_toArray, List.set_cons_zero, List.set_cons_succ])
    (repeat (first | (refine wpZ_st (v := ?_) _ (by rfl) (by rfl) (by rfl) (fun W hW => ?_) (by trivial) ?_; (rotate_left; (focus ((try dsimp only at hW); go_simp; (try with_reducible rfl); done))); try simp only [Act.put, List.getElem_toArray, List.getElem_cons_zero, List.getElem_cons_succ, List.setIfInBounds_toArray, List.set_cons_zero, List.set_cons_succ]) | (refine wpZ_pu (v := ?_) _ (by rfl) (by rfl) (by rfl) (by rfl) (fun W => ?_) ?_; (rotate_left; (focus ((try dsimp only at hW); go_simp; (try with_reducible rfl); done))); try simp only [Act.put, List.getElem_toArray, List.getElem_cons_zero, List.getElem_cons_succ, List.setIfInBounds_toArray, List.set_cons_zero, List.set_cons_succ]) | (refine wpZ_no _ (by rfl) (by rfl) (by rfl) (by rfl) ?_; try simp only [Act.put, List.getElem_toArray, List.getElem_cons_zero, List.getElem_cons_succ, List.setIfInBounds_toArray, List.set_cons_zero, List.set_cons_succ]) | (refine wpZ_noS _ (by rfl) (by rfl) (by rfl) (by trivial) ?_; try simp only [Act.put, List.getElem_toArray, List.getElem_cons_zero, List.getElem_cons_succ, List.setIfInBounds_toArray, List.set_cons_zero, List.set_cons_succ])))
    (simp only [wpZ])
    have h9 := HFIN.out a4 c4 w8 h8
    clear r4 h7 h8 r2 r3 h6 hS hS7 hS8 fS8 hSj
    have d0 : (w8.setCell ⟨r, 4, none⟩ (.slice a4 (k + L9) c4)).cell? ⟨p, 0, none⟩ = some (.int .i64 x.1) := h9.cell 0
    have d1 : (w8.setCell ⟨r, 4, none⟩ (.slice a4 (k + L9) c4)).cell? ⟨p, 1, none⟩ = some (.int .i64 x.2) := h9.cell 1
    have d2 : (w8.setCell ⟨r, 4, none⟩ (.slice a4 (k + L9) c4)).cell? ⟨q, 0, none⟩ = some (.int .i64 0) := (h9.mv 1).cell 0
    have d3 : (w8.setCell ⟨r, 4, none⟩ (.slice a4 (k + L9) c4)).cell? ⟨q, 1, none⟩ = some (.int .i64 0) := (h9.mv 1).cell 1
    have f2 := (h9.mv 1).frozen 0
    have f3 := (h9.mv 1).frozen 1
    generalize w8.setCell ⟨r, 4, none⟩ (.slice a4 (k + L9) c4) = w9 at *
    go_wp2
    have hZ : Hold _ (cellsA q 59 [.int .i64 x.1, .int .i64 x.2] :: cellsA p 59 [.int .i64 x.1, .int .i64 x.2] :: rfA r { T with L := T.L.eraseIdx k } :: L) := ((h9.mv 1).st 0 (.int .i64 x.1)).st 1 (.int .i64 x.2)
    exact bodyPost_ret (res_cell (hZ.loadVarAll 59 _ Try.underlying59 rfl (by rw [i59s]; rfl)) (by rfl) (by rfl)) rfl ⟨rfl, hZ.drop.drop⟩


/-! ### Looks, Pop, All. -/
theorem rhighest_ok (r : Nat) (T : RS) (hn : 0 < T.L.length) (hl : T.L.length ≤ 65537) (w : World) (L : List Asn) (h : Hold w (rfA r T :: L)) :
    Calls Try.prog 34 #[.pointer (some ⟨r, 0, none⟩)] w fun e w' => (∃ k, IsBest T.L k ∧ e = .returned (.tuple #[.int .i64 (bk T.L k), .bool true])) ∧ Hold w' (rfA r T :: L) := by
  have P := best_ok r T hn hl w L h
  clear h
  go_enter Try.func34, Try.ntmps34
  go_upto_region 2 with (go_at_call 32; refine P.mono ?_; rintro e w1 ⟨k, rfl, hb, h1⟩)
  obtain ⟨ao, cap, h2⟩ := rf_open h1
  obtain ⟨rb, ro, rfl, -, -⟩ := (h2.mv 1).at hn
  have c4 : w1.cell? ⟨r, 4, none⟩ = some (.slice (some ⟨rb, ro, none⟩) T.L.length cap) := h2.cell 4
  have ck : w1.cell? ⟨rb, ro + k * 2, none⟩ = some (.int .i64 (bk T.L k)) := by rw [(row_at (h2.mv 1) hn).1 (k * 2) (by have := hb.1; omega), Nat.mul_comm]; exact (ents_at hb.1).1
  have hkn : (k : Int) < T.L.length := by have := hb.1; omega
  have hk0 : 0 ≤ (k : Int) := by omega
  have HB := Lib.hid hb
  clear hb P h2
  go_wp2
  go_ret2
  exact ⟨⟨k, HB.out, rfl⟩, h1⟩
theorem rhighest0 (r : Nat) (T : RS) (hn : T.L = []) (w : World) (L : List Asn) (h : Hold w (rfA r T :: L)) :
    Calls Try.prog 34 #[.pointer (some ⟨r, 0, none⟩)] w fun e w' => e = .returned (.tuple #[.int .i64 0, .bool false]) ∧ Hold w' (rfA r T :: L) := by
  have P := best0 r T hn w L h
  go_enter Try.func34, Try.ntmps34
  go_wp2_with (go_at_call 32; refine P.mono ?_; rintro e w1 ⟨rfl, rfl⟩)
  go_ret2
  exact ⟨rfl, h⟩
theorem rpop0 (r : Nat) (T : RS) (hn : T.L = []) (w : World) (L : List Asn) (h : Hold w (rfA r T :: L)) :
    Calls Try.prog 22 #[.pointer (some ⟨r, 0, none⟩)] w fun e w' => e = .returned (.tuple #[.int .i64 0, .int .i64 0, .bool false]) ∧ Hold w' (rfA r T :: L) := by
  have P := best0 r T hn w L h
  go_enter Try.func22, Try.ntmps22
  go_wp2_with (go_at_call 32; refine P.mono ?_; rintro e w1 ⟨rfl, rfl⟩)
  go_ret3
  exact ⟨rfl, h⟩
theorem rmark_ok (r : Nat) (T : RS) (w : World) (L : List Asn) (h : Hold w (rfA r T :: L)) :
    Calls Try.prog 36 #[.pointer (some ⟨r, 0, none⟩)] w fun e w' => e = .returned (.tuple #[.int .i64 T.high, .bool T.marked]) ∧ Hold w' (rfA r T :: L) := by
  obtain ⟨ao, cap, h2⟩ := rf_open h
  have c5 : w.drew.cell? ⟨r, 5, none⟩ = some (.bool T.marked) := h2.drew.cell 5
  have c6 : w.drew.cell? ⟨r, 6, none⟩ = some (.int .i64 T.high) := h2.drew.cell 6
  clear h2
  go_enter Try.func36, Try.ntmps36
  go_upto_region 1 with (fail)
  refine wp_region_Z (fun W => W.cell? ⟨r, 5, none⟩ = some (.bool T.marked) ∧ W.cell? ⟨r, 6, none⟩ = some (.int .i64 T.high)) [3, 7] [] [0, 1, 2, 4, 5, 6, 8, 9] [0, 1, 2, 3, 4, 5, 6, 7, 8, 9] (by kernel_rfl) (by kernel_rfl) ?_
  (repeat (first | (refine wpZ_st (v := ?_) _ (by rfl) (by rfl) (by rfl) (fun W hW => ?_) (by exact ⟨c5, c6⟩) ?_; (rotate_left; (focus ((try dsimp only at hW); go_simp; (try with_reducible rfl); done))); try simp only [Act.put, List.getElem_toArray, List.getElem_cons_zero, List.getElem_cons_succ, List.setIfInBounds_toArray, List.set_cons_zero, List.set_cons_succ]) | (refine wpZ_pu (v := ?_) _ (by rfl) (by rfl) (by rfl) (by rfl) (fun W => ?_) ?_; (rotate_left; (focus ((try dsimp only at hW); go_simp; (try with_reducible rfl); done))); try simp only [Act.put, List.getElem_toArray, List.getElem_cons_zero, List.getElem_cons_succ, List.setIfInBounds_toArray, List.set_cons_zero, List.set_cons_succ]) | (refine wpZ_no _ (by rfl) (by rfl) (by rfl) (by rfl) ?_; try simp only [Act.put, List.getElem_toArray, List.getElem_cons_zero, List.getElem_cons_succ, List.setIfInBounds_toArray, List.set_cons_zero, List.set_cons_succ]) | (refine wpZ_noS _ (by rfl) (by rfl) (by rfl) (by exact ⟨c5, c6⟩) ?_; try simp only [Act.put, List.getElem_toArray, List.getElem_cons_zero, List.getElem_cons_succ, List.setIfInBounds_toArray, List.set_cons_zero, List.set_cons_succ])))
  (simp only [wpZ])
  go_wp2
  go_ret2
  exact ⟨rfl, h.drew⟩
theorem rlen_ok (r : Nat) (T : RS) (w : World) (L : List Asn) (h : Hold w (rfA r T :: L)) :
    Calls Try.prog 37 #[.pointer (some ⟨r, 0, none⟩)] w fun e w' => e = .returned (.int .i64 T.L.length) ∧ w = w' := by
  obtain ⟨ao, cap, h2⟩ := rf_open h
  have c4 : w.cell? ⟨r, 4, none⟩ = some (.slice ao T.L.length cap) := h2.cell 4
  clear h2 h
  go_enter Try.func37, Try.ntmps37
  go_wp2
  go_ret
  exact ⟨rfl, rfl⟩

/-- The least bucket among the first i. -/
def LowRel (L : List (Int × Int)) (T : List Asn) (lv iv : Value) (wr : World) : Prop := ∃ (i k : Nat), i ≤ L.length ∧ k < L.length ∧ lv = .int .i64 (bk L k) ∧ iv = .int .i64 i ∧ (∀ j, j < i → bk L k ≤ bk L j) ∧ Hold wr T
set_option maxRecDepth 20000 in
theorem rlowest_ok (r : Nat) (T : RS) (hn : 0 < T.L.length) (hl : T.L.length ≤ 65537) (w : World) (L : List Asn) (h : Hold w (rfA r T :: L)) :
    Calls Try.prog 35 #[.pointer (some ⟨r, 0, none⟩)] w fun e w' => (∃ k, (k < T.L.length ∧ ∀ j, j < T.L.length → bk T.L k ≤ bk T.L j) ∧ e = .returned (.tuple #[.int .i64 (bk T.L k), .bool true])) ∧ Hold w' (rfA r T :: L) := by
  obtain ⟨ao, cap, h1⟩ := rf_open h
  obtain ⟨rb, ro, rfl, -, -⟩ := (h1.mv 1).at hn
  obtain ⟨n, hnn⟩ : ∃ n, n = T.L.length := ⟨_, rfl⟩
  have G : ∀ W, Hold W (cellsA r 73 (T.cells (.slice (some ⟨rb, ro, none⟩) T.L.length cap)) :: rowA 59 2 (some ⟨rb, ro, none⟩) T.L.length cap (ents T.L) :: L) → W.cell? ⟨r, 4, none⟩ = some (.slice (some ⟨rb, ro, none⟩) n cap) ∧ ∀ j, j < n → W.cell? ⟨rb, ro + j * 2, none⟩ = some (.int .i64 (bk T.L j)) := fun W hW =>
    ⟨by rw [hnn]; exact hW.cell 4, fun j hj => by rw [(row_at (hW.mv 1) hn).1 (j * 2) (by omega), Nat.mul_comm]; exact (ents_at (by omega)).1⟩
  have HG := Lib.hid G
  obtain ⟨c4, cj⟩ := G _ h1
  have c0 := cj 0 (by omega)
  rw [Nat.zero_mul, Nat.add_zero] at c0
  have hn1 : (n : Int) ≤ 65537 := by omega
  have hn0 : (0 : Int) < (n : Int) := by omega
  have hn2 : ((n : Int) == 0) = false := by rw [beq_eq_false_iff_ne]; omega
  have HN := Lib.hid hnn
  clear h G hnn hn hl cj
  go_enter Try.func35, Try.ntmps35
  go_upto_block 0 with (fail)
  clear c4 c0
  go_wp2
  go_loopw [4, 5] (fun lv iv wr => LowRel T.L (cellsA r 73 (T.cells (.slice (some ⟨rb, ro, none⟩) T.L.length cap)) :: rowA 59 2 (some ⟨rb, ro, none⟩) T.L.length cap (ents T.L) :: L) lv iv wr) (fun _ iv _ => n - (intOf iv).toNat)
  case atStart => exact ⟨0, 0, Nat.zero_le _, by rw [← HN.out]; omega, rfl, rfl, fun j h => by omega, h1⟩
  case round =>
    clear h1
    obtain ⟨i, k, hi, hk, rfl, rfl, hp, hr⟩ := hrel
    rw [← HN.out] at hi hk
    obtain ⟨c4, cj⟩ := HG.out _ hr
    by_cases hlt : i < n
    · have hin : (i : Int) < n := by omega
      have hi0 : 0 ≤ (i : Int) := by omega
      have ci := cj i hlt
      have HP := Lib.hid hp
      clear cj hp
      by_cases hb : bk T.L i < bk T.L k
      · go_wp2
        go_roundw
        case rel =>
          refine ⟨i + 1, i, by rw [← HN.out]; omega, by rw [← HN.out]; exact hlt, rfl, by go_num, fun j h => ?_, hr⟩
          by_cases e : j = i
          · rw [e]; exact Int.le_refl _
          · have := HP.out j (by omega); omega
        case measure => (simp [intOf] <;> omega)
      · have hle : bk T.L k ≤ bk T.L i := by omega
        go_wp2
        go_roundw
        case rel =>
          refine ⟨i + 1, k, by rw [← HN.out]; omega, by rw [← HN.out]; exact hk, rfl, by go_num, fun j h => ?_, hr⟩
          by_cases e : j = i
          · rw [e]; exact hle
          · exact HP.out j (by omega)
        case measure => (simp [intOf] <;> omega)
    · obtain rfl : i = n := by omega
      have HP := Lib.hid hp
      clear cj hp
      go_wp2
      go_ret2
      exact ⟨⟨k, ⟨by rw [← HN.out]; exact hk, fun j hj => HP.out j (by rw [HN.out]; exact hj)⟩, rfl⟩, rf_close hr⟩
theorem rlowest0 (r : Nat) (T : RS) (hn : T.L = []) (w : World) (L : List Asn) (h : Hold w (rfA r T :: L)) :
    Calls Try.prog 35 #[.pointer (some ⟨r, 0, none⟩)] w fun e w' => e = .returned (.tuple #[.int .i64 0, .bool false]) ∧ Hold w' (rfA r T :: L) := by
  obtain ⟨ao, cap, h2⟩ := rf_open h
  have c4 : w.cell? ⟨r, 4, none⟩ = some (.slice ao 0 cap) := by rw [show (0 : Nat) = T.L.length by rw [hn]; rfl]; exact h2.cell 4
  clear h2
  go_enter Try.func35, Try.ntmps35
  go_wp2
  go_ret2
  exact ⟨rfl, h⟩

def SizeRel (L : List (Int × Int)) (v : Int) (T : List Asn) (nv iv : Value) (wr : World) : Prop := ∃ i : Nat, i ≤ L.length ∧ nv = .int .i64 (((L.take i).filter fun e => e.1 == v).length : Nat) ∧ iv = .int .i64 i ∧ Hold wr T
set_option maxRecDepth 20000 in
theorem rsize_ok (r : Nat) (T : RS) (v : Int) (hl : T.L.length ≤ 65537) (w : World) (L : List Asn) (h : Hold w (rfA r T :: L)) :
    Calls Try.prog 39 #[.pointer (some ⟨r, 0, none⟩), .int .i64 v] w fun e w' => e = .returned (.int .i64 ((T.L.filter fun e => e.1 == v).length : Nat)) ∧ Hold w' (rfA r T :: L) := by
  obtain ⟨ao, cap, h1⟩ := rf_open h
  obtain ⟨n, hnn⟩ : ∃ n, n = T.L.length := ⟨_, rfl⟩
  have G : ∀ W, Hold W (cellsA r 73 (T.cells (.slice ao T.L.length cap)) :: rowA 59 2 ao T.L.length cap (ents T.L) :: L) → W.cell? ⟨r, 4, none⟩ = some (.slice ao n cap) ∧ ∀ j, j < n → ∃ rb ro, ao = some ⟨rb, ro, none⟩ ∧ W.cell? ⟨rb, ro + j * 2, none⟩ = some (.int .i64 (bk T.L j)) := fun W hW =>
    ⟨by rw [hnn]; exact hW.cell 4, fun j hj => by
      obtain ⟨rb, ro, he, hc, -⟩ := (hW.mv 1).at (by omega)
      exact ⟨rb, ro, he, by rw [hc (j * 2) (by omega), Nat.mul_comm]; exact (ents_at (by omega)).1⟩⟩
  have HG := Lib.hid G
  have hn1 : (n : Int) ≤ 65537 := by omega
  have HN := Lib.hid hnn
  clear h G hnn hl
  go_enter Try.func39, Try.ntmps39
  go_upto_block 0 with (fail)
  go_wp2
  go_loopw [5, 6] (fun nv iv wr => SizeRel T.L v (cellsA r 73 (T.cells (.slice ao T.L.length cap)) :: rowA 59 2 ao T.L.length cap (ents T.L) :: L) nv iv wr) (fun _ iv _ => n - (intOf iv).toNat)
  case atStart => exact ⟨0, Nat.zero_le _, rfl, rfl, h1⟩
  case round =>
    clear h1
    obtain ⟨i, hi, rfl, rfl, hr⟩ := hrel
    rw [← HN.out] at hi
    obtain ⟨c4, cj⟩ := HG.out _ hr
    by_cases hlt : i < n
    · have hin : (i : Int) < n := by omega
      have hi0 : 0 ≤ (i : Int) := by omega
      obtain ⟨rb, ro, rfl, ci⟩ := cj i hlt
      have e2 : T.L.take (i + 1) = T.L.take i ++ [T.L[i]'(by rw [← HN.out]; exact hlt)] := by rw [List.take_add_one, List.getElem?_eq_getElem]; rfl
      have e3 : (T.L[i]'(by rw [← HN.out]; exact hlt)).1 = bk T.L i := by simp [bk, List.getD, List.getElem?_eq_getElem (show i < T.L.length by rw [← HN.out]; exact hlt)]
      have hcb : ((T.L.take i).filter fun e => e.1 == v).length ≤ i := Nat.le_trans (List.length_filter_le _ _) (by rw [List.length_take]; exact Nat.min_le_left _ _)
      obtain ⟨m, hm⟩ : ∃ m, ((T.L.take i).filter fun e => e.1 == v).length = m := ⟨_, rfl⟩
      have e4 : ((T.L.take (i + 1)).filter fun e => e.1 == v).length = m + if bk T.L i = v then 1 else 0 := by
        rw [e2, List.filter_append, List.length_append, hm]
        by_cases e : bk T.L i = v <;> simp [e3, e]
      rw [hm] at hcb ⊢
      have hm0 : 0 ≤ (m : Int) := by omega
      have hm1 : (m : Int) ≤ (i : Int) := by omega
      have HE := Lib.hid e4
      clear cj e2 e3 e4 hm hcb
      by_cases hb : bk T.L i = v
      · have hb2 : (bk T.L i == v) = true := by simpa using hb
        have HB := Lib.hid hb
        clear hb
        go_wp2
        go_roundw
        case rel => exact ⟨i + 1, by rw [← HN.out]; omega, by rw [HE.out, if_pos HB.out]; go_num, by go_num, hr⟩
        case measure => (simp [intOf] <;> omega)
      · have hb2 : (bk T.L i == v) = false := by simpa using hb
        have HB := Lib.hid hb
        clear hb
        go_wp2
        go_roundw
        case rel => exact ⟨i + 1, by rw [← HN.out]; omega, by rw [HE.out, if_neg HB.out]; rfl, by go_num, hr⟩
        case measure => (simp [intOf] <;> omega)
    · obtain rfl : i = n := by omega
      clear cj
      rw [show T.L.take i = T.L from List.take_of_length_le (by rw [HN.out]; exact Nat.le_refl _)]
      go_wp2
      go_ret
      exact ⟨rfl, rf_close hr⟩

end Go.Proofs.Ytpffofliemooiaa
