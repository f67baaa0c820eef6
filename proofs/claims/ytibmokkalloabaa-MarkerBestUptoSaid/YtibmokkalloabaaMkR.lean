/- Contracts: the reference's levels, and what a marker is worth at a place. -/
import Derived.Test.YtibmokkalloabaaMkO
open Go.RowKit Go.Own
namespace Go.Proofs.Ytibmokkalloabaa

theorem allB_get {N : Int} {ys : List UInt8} {p n : Nat} (h : allB N ((ys.drop p).take n) = true) (hl : p + n ≤ ys.length) {j : Nat} (hj : j < n) : (((ys.drop p).getD j 0).toNat : Int) < N := by
  rw [allB, List.all_eq_true] at h
  have e : ((ys.drop p).take n)[j]'(by simp; omega) = (ys.drop p).getD j 0 := by
    simp [List.getD, List.getElem?_eq_getElem (show p + j < ys.length by omega)]
  have := h _ (List.getElem_mem (show j < ((ys.drop p).take n).length by simp; omega))
  rw [e] at this
  simpa using this
theorem allB_take_no {N : Int} {ys : List UInt8} {p n : Nat} {j : Nat} (hj : p ≤ j) (hjn : j < p + n) (hl : j < ys.length) (h : N ≤ ((ys[j]).toNat : Int)) : allB N ((ys.drop p).take n) = false := by
  rw [allB, List.all_eq_false]
  refine ⟨ys[j], ?_, by simp; omega⟩
  rw [List.mem_iff_getElem?]
  exact ⟨j - p, by rw [List.getElem?_take, if_pos (by omega), List.getElem?_drop, show p + (j - p) = j by omega, List.getElem?_eq_getElem hl]⟩
theorem allB_take_yes {N : Int} {ys : List UInt8} {p n : Nat} (hl : p + n ≤ ys.length) (h : ∀ j (hj : j < ys.length), p ≤ j → j < p + n → ((ys[j]).toNat : Int) < N) : allB N ((ys.drop p).take n) = true := by
  refine allB_yes fun k hk => ?_
  simp at hk
  simp
  exact h _ _ (by omega) (by omega)

def OverRel (lo hi : Nat) (N : Int) (ys : List UInt8) (R : List Asn) (i : Value) (wr : World) : Prop := ∃ k : Nat, lo ≤ k ∧ k ≤ hi ∧ i = .int .i64 k ∧ (∀ j (hj : j < ys.length), lo ≤ j → j < k → ((ys[j]).toNat : Int) < N) ∧ Hold wr R

set_option maxRecDepth 20000 in
theorem over_ok (N : Int) (ys : List UInt8) (C : Asn) (ao : Option Addr) (m cap : Nat) (hR : Reads C 1 (.slice ao m cap) m (ub ys)) (lo hi : Nat) (h1 : lo ≤ hi) (h2 : hi ≤ m) (w : World) (L : List Asn) (h : Hold w (C :: L)) :
    Calls Try.prog 41 #[.int .i64 N, .slice ao m cap, .int .i64 lo, .int .i64 hi] w fun e w' => e = .returned (.bool (!allB N ((ys.drop lo).take (hi - lo)))) ∧ w = w' := by
  obtain ⟨S0, r0⟩ := h.reads hR
  obtain ⟨b1, b2, b3⟩ := r0.bounds
  unfold maxLen at b3
  have hyn : ys.length = m := by simpa using b1
  have HY := Lib.hid hyn
  clear r0 b1 hyn
  go_enter Try.func41, Try.ntmps41
  go_wp2
  go_loop [9] (fun i => OverRel lo hi N ys (C :: L) i w) (fun i => hi - (intOf i).toNat)
  case atStart => exact ⟨lo, by omega, h1, rfl, fun j _ _ _ => by omega, h⟩
  case round =>
    clear h
    obtain ⟨k, hk0, hk, rfl, hlow, hr⟩ := hrel
    have HLow := Lib.hid hlow
    clear hlow
    by_cases hlt : k < hi
    · have hki : (k : Int) < hi := by omega
      have hkm : (k : Int) < m := by omega
      have hky : k < ys.length := by have := HY.out; omega
      obtain ⟨S, hrd⟩ := hr.reads hR
      obtain ⟨rb, ro, rfl, -, -, hcs⟩ := hrd.addr (by omega)
      have c0 : w.cell? ⟨rb, ro + k, none⟩ = some (.int .u8 ((ys[k]).toNat : Nat)) := (hcs k (by omega)).trans (ub_get ys k hky)
      have hx : (ys[k]).toNat < 256 := (ys[k]).toNat_lt
      clear hcs hrd
      by_cases hb : N ≤ ((ys[k]).toNat : Int)
      · have HE := Lib.hid (allB_take_no (N := N) (p := lo) (n := hi - lo) hk0 (by omega) hky hb)
        generalize (ys[k]).toNat = z at *
        go_wp2
        go_ret
        exact ⟨by rw [HE.out]; rfl, rfl⟩
      · have hb2 : ((ys[k]).toNat : Int) < N := by omega
        have HB := Lib.hid hb2
        have hs : ∀ j (hj : j < ys.length), lo ≤ j → j < k + 1 → ((ys[j]).toNat : Int) < N := fun j hj hl hjk => by
          rcases Nat.lt_or_ge j k with h1 | h1
          · exact HLow.out j hj hl h1
          · obtain rfl : j = k := by omega
            exact HB.out
        have HS := Lib.hid hs
        clear hb hs
        generalize (ys[k]).toNat = z at *
        go_wp2
        go_round
        case rel => exact ⟨k + 1, by omega, by omega, by go_num, HS.out, hr⟩
        case measure => simp [intOf]; omega
    · obtain rfl : hi = k := by omega
      have e : allB N ((ys.drop lo).take (hi - lo)) = true := allB_take_yes (by have := HY.out; omega) fun j hj a b => HLow.out j hj a (by omega)
      have HE := Lib.hid e
      clear e
      go_wp2
      go_ret
      exact ⟨by rw [HE.out]; rfl, rfl⟩

theorem worthE_zero {N : Int} {b l : Nat} (h1 : 2 ≤ N) (h2 : N ≤ 16) (hb : b ≤ 1) (hl : (l : Int) < N) : worthE N b l = 0 := by
  unfold worthE
  rw [if_neg (by omega), if_neg (by omega), if_neg (by omega)]

def ValRel (N : Int) (B n : Nat) (ys : List UInt8) (R : List Asn) (s i : Value) (wr : World) : Prop := ∃ k : Nat, k ≤ n ∧ i = .int .i64 k ∧ s = .int .i64 (atS N B n ys k) ∧ Hold wr R

set_option maxHeartbeats 1000000 in
set_option maxRecDepth 20000 in
theorem value_ok (N : Int) (B n : Nat) (h0 : 2 ≤ N) (h1 : N ≤ 16) (hB : B < 18446744073709551616) (hn : n ≤ 64) (ys : List UInt8) (C : Asn) (ao : Option Addr) (m cap : Nat) (hR : Reads C 1 (.slice ao m cap) m (ub ys)) (p : Nat) (hp : p + n ≤ m) (hA : allB N ((ys.drop p).take n) = true) (w : World) (L : List Asn) (h : Hold w (C :: L)) :
    Calls Try.prog 42 #[.agg #[.int .u64 B, .int .i64 n], .int .i64 N, .slice ao m cap, .int .i64 p] w fun e w' => e = .returned (.int .i64 (valAt N B n ys p)) ∧ Hold w' (C :: L) := by
  obtain ⟨S0, r0⟩ := h.reads hR
  obtain ⟨b1, b2, b3⟩ := r0.bounds
  unfold maxLen at b3
  have hyn : ys.length = m := by simpa using b1
  have HY := Lib.hid hyn
  have HAA := Lib.hid (fun j (hj : j < n) => allB_get hA (by omega) hj)
  clear r0 b1 hyn hA
  have hb := h.box 24 [.int .u64 B, .int .i64 n]
  go_enter Try.func42, Try.ntmps42
  go_upto_region 1 with (fail)
  refine gen_world hb (fun w1 hb => ?_)
  generalize w.heap.size = q at *
  go_wp2
  go_loopw [9, 10] (fun s i wr => ValRel N B n (ys.drop p) (cellsA q 24 [.int .u64 B, .int .i64 n] :: C :: L) s i wr) (fun _ i _ => n - (intOf i).toNat)
  case atStart => exact ⟨0, by omega, rfl, rfl, hb⟩
  case round =>
    clear h hb
    obtain ⟨k, hk, rfl, rfl, hr⟩ := hrel
    obtain ⟨k0, k1⟩ := loadM hr
    by_cases hlt : k < n
    · have hki : (k : Int) < n := by omega
      have hkm : (p : Int) + k < m := by omega
      have hkm0 : 0 ≤ (p : Int) + k := by omega
      have hkt : ((p : Int) + k).toNat = p + k := by omega
      have hky : p + k < ys.length := by have := HY.out; omega
      obtain ⟨S, hrd⟩ := (hr.mv 1).reads hR
      obtain ⟨rb, ro, rfl, -, -, hcs⟩ := hrd.addr (by omega)
      have eg : (ys.drop p).getD k 0 = ys[p + k] := by simp [List.getD, hky]
      have G : ∀ W, Hold W (cellsA q 24 [.int .u64 B, .int .i64 n] :: C :: L) → W.cell? ⟨rb, ro + (p + k), none⟩ = some (.int .u8 (((ys.drop p).getD k 0).toNat : Nat)) := fun W hW => by
        obtain ⟨S2, hrd2⟩ := (hW.mv 1).reads hR
        obtain ⟨rb2, ro2, he, -, -, hcs2⟩ := hrd2.addr (by omega)
        simp only [Option.some.injEq, Addr.mk.injEq, and_true] at he
        obtain ⟨rfl, rfl⟩ := he
        rw [eg]
        exact (hcs2 (p + k) (by omega)).trans (ub_get ys (p + k) hky)
      have hs := atS_bound (N := N) (by omega) h1 B n (ys.drop p) k
      have hw := wgt_bound (N := N) (by omega) h1 (bitOf B n k) ((ys.drop p).getD k 0).toNat (UInt8.toNat_lt _)
      have hS := hr.drew
      have c0 := G _ hS
      have hz : ((ys.drop p).getD k 0).toNat < 256 := UInt8.toNat_lt _
      have hzN := HAA.out k hlt
      have hbit : bitOf B n k ≤ 1 := by unfold bitOf; omega
      have P1 := fun w L h => rbit_ok B n k hB hn hlt w L h
      have HN : atS N B n (ys.drop p) (k + 1) = atS N B n (ys.drop p) k + wgt N (bitOf B n k) ((ys.drop p).getD k 0).toNat := rfl
      have HN2 := Lib.hid HN
      clear HN
      generalize ((ys.drop p).getD k 0).toNat = z at *
      have P2 := fun w L h => rworth_ok N (bitOf B n k) z (by omega) hz w L h
      have e0 := worthE_zero (N := N) h0 h1 hbit hzN
      unfold worthV at P2
      rw [if_pos e0, e0] at P2
      generalize bitOf B n k = bb at *
      generalize wgt N bb z = wz at *
      generalize atS N B n (ys.drop p) k = s at *
      have W2 : IntKind.i64.wrap ((p : Int) + k) = (p : Int) + k := IntWalk.i64_in _ (by omega)
      have HG := Lib.hid G
      clear G hcs hrd eg e0
      obtain ⟨g0, g1⟩ := loadM hS
      go_upto_region 5 with (fail)
      refine wp_region_Z (fun W => W.cell? ⟨q, 0, none⟩ = some (.int .u64 B) ∧ W.cell? ⟨q, 1, none⟩ = some (.int .i64 n) ∧ W.cell? ⟨rb, ro + (p + k), none⟩ = some (.int .u8 z)) [1, 9] [] [0, 2, 4, 5, 6, 7, 8, 11, 12, 13, 14, 15] [0, 1, 2, 4, 5, 6, 7, 8, 9, 3, 10, 11, 12, 13, 14, 15] (by kernel_rfl) (by kernel_rfl) ?_
      (repeat (first | (refine wpZ_st (v := ?_) _ (by rfl) (by rfl) (by rfl) (fun W hW => ?_) ⟨g0, g1, c0⟩ ?_; (rotate_left; (focus ((try dsimp only at hW); go_simp; (try with_reducible rfl); done))); try simp only [Act.put, List.getElem_toArray, List.getElem_cons_zero, List.getElem_cons_succ, List.setIfInBounds_toArray, List.set_cons_zero, List.set_cons_succ]) | (refine wpZ_pu (v := ?_) _ (by rfl) (by rfl) (by rfl) (by rfl) (fun W => ?_) ?_; (rotate_left; (focus ((try dsimp only at hW); go_simp; (try with_reducible rfl); done))); try simp only [Act.put, List.getElem_toArray, List.getElem_cons_zero, List.getElem_cons_succ, List.setIfInBounds_toArray, List.set_cons_zero, List.set_cons_succ]) | (refine wpZ_no _ (by rfl) (by rfl) (by rfl) (by rfl) ?_; try simp only [Act.put, List.getElem_toArray, List.getElem_cons_zero, List.getElem_cons_succ, List.setIfInBounds_toArray, List.set_cons_zero, List.set_cons_succ]) | (refine wpZ_noS _ (by rfl) (by rfl) (by rfl) ⟨g0, g1, c0⟩ ?_; try simp only [Act.put, List.getElem_toArray, List.getElem_cons_zero, List.getElem_cons_succ, List.setIfInBounds_toArray, List.set_cons_zero, List.set_cons_succ])))
      refine wpZ_eff _ (by rfl) (by rfl) (by rfl) (by rfl) (fun K hK => ?_)
      go_simp
      refine (P1 _ _ hS).mono ?_
      rintro e w5 ⟨rfl, h5⟩
      have c5 := HG.out _ h5
      dsimp only
      (refine hK _ _ (fun hl => ?_) ?_; (first | (focus (cases hl; done)) | exact ⟨(loadM h5).1, (loadM h5).2, c5⟩); clear hK K; try simp only [Act.put, List.getElem_toArray, List.getElem_cons_zero, List.getElem_cons_succ, List.setIfInBounds_toArray, List.set_cons_zero, List.set_cons_succ])
      (repeat (first | (refine wpZ_st (v := ?_) _ (by rfl) (by rfl) (by rfl) (fun W hW => ?_) (⟨(loadM h5).1, (loadM h5).2, c5⟩ : w5.cell? ⟨q, 0, none⟩ = some (.int .u64 B) ∧ w5.cell? ⟨q, 1, none⟩ = some (.int .i64 n) ∧ w5.cell? ⟨rb, ro + (p + k), none⟩ = some (.int .u8 z)) ?_; (rotate_left; (focus ((try dsimp only at hW); go_simp; (try with_reducible rfl); done))); try simp only [Act.put, List.getElem_toArray, List.getElem_cons_zero, List.getElem_cons_succ, List.setIfInBounds_toArray, List.set_cons_zero, List.set_cons_succ]) | (refine wpZ_pu (v := ?_) _ (by rfl) (by rfl) (by rfl) (by rfl) (fun W => ?_) ?_; (rotate_left; (focus ((try dsimp only at hW); go_simp; (try with_reducible rfl); done))); try simp only [Act.put, List.getElem_toArray, List.getElem_cons_zero, List.getElem_cons_succ, List.setIfInBounds_toArray, List.set_cons_zero, List.set_cons_succ]) | (refine wpZ_no _ (by rfl) (by rfl) (by rfl) (by rfl) ?_; try simp only [Act.put, List.getElem_toArray, List.getElem_cons_zero, List.getElem_cons_succ, List.setIfInBounds_toArray, List.set_cons_zero, List.set_cons_succ]) | (refine wpZ_noS _ (by rfl) (by rfl) (by rfl) (⟨(loadM h5).1, (loadM h5).2, c5⟩ : w5.cell? ⟨q, 0, none⟩ = some (.int .u64 B) ∧ w5.cell? ⟨q, 1, none⟩ = some (.int .i64 n) ∧ w5.cell? ⟨rb, ro + (p + k), none⟩ = some (.int .u8 z)) ?_; try simp only [Act.put, List.getElem_toArray, List.getElem_cons_zero, List.getElem_cons_succ, List.setIfInBounds_toArray, List.set_cons_zero, List.set_cons_succ])))
      refine wpZ_eff _ (by rfl) (by rfl) (by rfl) (by rfl) (fun K hK => ?_)
      go_simp
      refine (P2 _ _ h5).mono ?_
      rintro e w6 ⟨rfl, h6⟩
      have c6 := HG.out _ h6
      dsimp only
      (refine hK _ _ (fun hl => ?_) ?_; (first | (focus (cases hl; done)) | exact ⟨(loadM h6).1, (loadM h6).2, c6⟩); clear hK K; try simp only [Act.put, List.getElem_toArray, List.getElem_cons_zero, List.getElem_cons_succ, List.setIfInBounds_toArray, List.set_cons_zero, List.set_cons_succ])
      (repeat (first | (refine wpZ_st (v := ?_) _ (by rfl) (by rfl) (by rfl) (fun W hW => ?_) (⟨(loadM h6).1, (loadM h6).2, c6⟩ : w6.cell? ⟨q, 0, none⟩ = some (.int .u64 B) ∧ w6.cell? ⟨q, 1, none⟩ = some (.int .i64 n) ∧ w6.cell? ⟨rb, ro + (p + k), none⟩ = some (.int .u8 z)) ?_; (rotate_left; (focus ((try dsimp only at hW); go_simp; (try with_reducible rfl); done))); try simp only [Act.put, List.getElem_toArray, List.getElem_cons_zero, List.getElem_cons_succ, List.setIfInBounds_toArray, List.set_cons_zero, List.set_cons_succ]) | (refine wpZ_pu (v := ?_) _ (by rfl) (by rfl) (by rfl) (by rfl) (fun W => ?_) ?_; (rotate_left; (focus ((try dsimp only at hW); go_simp; (try with_reducible rfl); done))); try simp only [Act.put, List.getElem_toArray, List.getElem_cons_zero, List.getElem_cons_succ, List.setIfInBounds_toArray, List.set_cons_zero, List.set_cons_succ]) | (refine wpZ_no _ (by rfl) (by rfl) (by rfl) (by rfl) ?_; try simp only [Act.put, List.getElem_toArray, List.getElem_cons_zero, List.getElem_cons_succ, List.setIfInBounds_toArray, List.set_cons_zero, List.set_cons_succ]) | (refine wpZ_noS _ (by rfl) (by rfl) (by rfl) (⟨(loadM h6).1, (loadM h6).2, c6⟩ : w6.cell? ⟨q, 0, none⟩ = some (.int .u64 B) ∧ w6.cell? ⟨q, 1, none⟩ = some (.int .i64 n) ∧ w6.cell? ⟨rb, ro + (p + k), none⟩ = some (.int .u8 z)) ?_; try simp only [Act.put, List.getElem_toArray, List.getElem_cons_zero, List.getElem_cons_succ, List.setIfInBounds_toArray, List.set_cons_zero, List.set_cons_succ])))
      (simp only [wpZ])
      clear c5 c6 c0 W2 P1 P2
      go_wp2
      go_roundw
      case rel => exact ⟨k + 1, by omega, by go_num, by rw [HN2.out], h6⟩
      case measure => simp [intOf]; omega
    · obtain rfl : n = k := by omega
      go_wp2
      go_ret
      exact ⟨rfl, hr.drop⟩

end Go.Proofs.Ytibmokkalloabaa
