/- Contracts: rows of one's own, kept; rows of numbers alike; what is a marker. -/
import Derived.Test.YtibmokkalloabaaMkT
open Go.RowKit Go.Own
namespace Go.Proofs.Ytibmokkalloabaa

theorem Reads.front {E : TypeId} {ao : Option Addr} {n m cap : Nat} {xs ys : List Value} (hn : xs.length = n) : Reads (rowA E 1 ao (n + m) cap (xs ++ ys)) 1 (.slice ao n cap) n xs := by
  intro B w hB
  have h := Own.rd hB
  obtain ⟨h1, ao', cap', hv, h2, h3, h4⟩ := h
  simp only [Value.slice.injEq] at hv
  obtain ⟨rfl, -, rfl⟩ := hv
  refine ⟨B, ⟨by omega, ao, cap, rfl, by omega, h3, ?_⟩, fun _ h => h⟩
  rcases h4 with h4 | ⟨b, o, e1, e2, e3, h4⟩
  · exact .inl (by omega)
  · exact .inr ⟨b, o, e1, e2, e3, fun j hj => by rw [h4 j (by omega), List.getElem?_append_left (by omega)]⟩

/-- A row of one's own, with two marks behind it. -/
def ownA (ao : Option Addr) (n cap : Nat) (ys : List UInt8) : Asn := rowA 5 1 ao (n + 2) cap (ub ys ++ [.int .u8 201, .int .u8 202])
theorem ownA_reads {ao : Option Addr} {n cap : Nat} {ys : List UInt8} (hn : ys.length = n) : Reads (ownA ao n cap ys) 1 (.slice ao n cap) n (ub ys) := Reads.front (by simpa using hn)

set_option maxRecDepth 20000 in
theorem own_ok (ys : List UInt8) (C : Asn) (ao : Option Addr) (n cap : Nat) (hR : Reads C 1 (.slice ao n cap) n (ub ys)) (hn : n ≤ 140737488351232) (w : World) (L : List Asn) (h : Hold w (C :: L)) :
    Calls Try.prog 20 #[.slice ao n cap] w fun e w' => ∃ ao' cap', e = .returned (.slice ao' n cap') ∧ Hold w' (ownA ao' n cap' ys :: C :: L) := by
  obtain ⟨i5, hi, hz0, hz1, hz2⟩ := info_parts info5
  obtain ⟨S0, r0⟩ := h.reads hR
  have hb := h.box 5 []
  have HU := Lib.hid (ub_one ys)
  go_enter Try.func20, Try.ntmps20
  go_wp2_with (first
    | ((with_reducible refine wpList_plain (o := ⟨some 5, _, _, _, _, _⟩) rfl (fun K hK => ?_)); refine wp_append_new_h (w := w) _ _ 38 (by rfl) 5 i5 (.int .u8 0) 1 1 Try.underlying38 hi hz0 hz1 hz2 (by rfl) h (by rfl) ⟨rfl, rfl, rfl, rfl⟩ _ (by rfl) n (ub ys) S0 r0 HU.out (by unfold maxLen; omega) (by omega) (fun ao1 cap1 w1 h1 hc1 => ?_); refine hK _ _ ?_; clear hK K; have h2 := h1.box 5 [.int .u8 201, .int .u8 202]; obtain ⟨S1, r1⟩ := h2.reads (cells_reads 5 w1.heap.size 2 1 _ (by rfl) (by unfold maxLen; omega)))
    | ((with_reducible refine wpList_plain (o := ⟨some 7, _, _, _, _, _⟩) rfl (fun K hK => ?_)); refine wp_append_src_h _ _ 38 (by rfl) 5 i5 (.int .u8 0) 1 1 Try.underlying38 hi hz0 hz1 hz2 (by rfl) _ n _ _ (by rfl) (h2.mv 1) _ (by rfl) 2 [.int .u8 201, .int .u8 202] S1 r1 (by simp [Value.oneCell']) (by unfold maxLen; omega) (by omega) (fun ao2 cap2 w2 h3 hc2 => ?_); refine hK _ _ ?_; clear hK K))
  go_ret
  exact ⟨ao2, cap2, rfl, (h3.mv 1).drop⟩

/-- The mark at a place of such a row. -/
theorem ownA_at {ao : Option Addr} {n cap : Nat} {ys : List UInt8} (hn : ys.length = n) {w : World} {L : List Asn} (h : Hold w (ownA ao n cap ys :: L)) : ∃ b o, ao = some ⟨b, o, none⟩ ∧ w.cell? ⟨b, o + n, none⟩ = some (.int .u8 201) ∧ w.cell? ⟨b, o + (n + 1), none⟩ = some (.int .u8 202) ∧ n + 2 ≤ cap ∧ cap ≤ maxLen := by
  obtain ⟨b, o, e, hc, -⟩ := Hold.at h (by omega)
  have hl : (ub ys).length = n := by simpa using hn
  refine ⟨b, o, e, ?_, ?_, (Hold.bounds h).2.1, (Hold.bounds h).2.2⟩
  · rw [hc n (by omega), List.getElem?_append_right (by omega), hl, Nat.sub_self]; rfl
  · rw [hc (n + 1) (by omega), List.getElem?_append_right (by omega), hl, Nat.add_sub_cancel_left]; rfl

set_option maxRecDepth 20000 in
theorem kept_ok (ys : List UInt8) (ao ax : Option Addr) (n cap cx : Nat) (hl : ys.length = n) (hn : n ≤ 140737488351232) (w : World) (L : List Asn) (h : Hold w (ownA ao n cap ys :: L)) (hx : ∃ S, Rd w 1 (.slice ax n cx) n (ub ys) S) :
    Calls Try.prog 33 #[.slice ao n cap, .slice ax n cx] w fun e w' => e = .returned (.bool true) ∧ w = w' := by
  obtain ⟨b, o, rfl, c0, c1, hc, hcm⟩ := ownA_at hl h
  have hr := h.reads (ownA_reads hl)
  unfold maxLen at hcm
  go_enter Try.func33, Try.ntmps33
  go_wp2_with (go_at_call 21; refine (same_eq ys _ _ n cap n cx _ hr hx).mono ?_; rintro e w6 ⟨rfl, rfl⟩)
  go_ret
  exact ⟨rfl, rfl⟩

/-- Rows of numbers. -/
def is (xs : List Int) : List Value := xs.map fun x => .int .i64 x
@[simp] theorem is_length (xs : List Int) : (is xs).length = xs.length := by simp [is]
theorem is_get {xs : List Int} {i : Nat} (h : i < xs.length) : (is xs)[i]? = some (.int .i64 xs[i]) := by simp [is, h]

def IntsRel (n : Nat) (i : Value) : Prop := ∃ k : Nat, k ≤ n ∧ i = .int .i64 k

set_option maxRecDepth 20000 in
theorem ints_ok (xs : List Int) (ax ay : Option Addr) (n cx cy : Nat) (w : World) (hx : ∃ S, Rd w 1 (.slice ax n cx) n (is xs) S) (hy : ∃ S, Rd w 1 (.slice ay n cy) n (is xs) S) :
    Calls Try.prog 32 #[.slice ax n cx, .slice ay n cy] w fun e w' => e = .returned (.bool true) ∧ ∃ k, w' = w.drewN k := by
  obtain ⟨S, hx⟩ := hx
  obtain ⟨S2, hy⟩ := hy
  obtain ⟨b1, b2, b3⟩ := hx.bounds
  unfold maxLen at b3
  have hln : xs.length = n := by simpa using b1
  have HL := Lib.hid hln
  clear b1 hln
  go_enter Try.func32, Try.ntmps32
  go_wp2
  go_loopw [5] (fun i wr => IntsRel n i ∧ ∃ k, wr = w.drewN k) (fun i _ => n - (intOf i).toNat)
  case atStart => exact ⟨⟨0, by omega, rfl⟩, 0, rfl⟩
  case round =>
    obtain ⟨⟨k, hk, rfl⟩, dr, rfl⟩ := hrel
    by_cases hlt : k < n
    · have hki : (k : Int) < n := by omega
      have hkx : k < xs.length := by have := HL.out; omega
      obtain ⟨bx, ox, rfl, -, -, hcx⟩ := hx.addr (by omega)
      obtain ⟨by_, oy, rfl, -, -, hcy⟩ := hy.addr (by omega)
      have c0 : w.cell? ⟨bx, ox + k, none⟩ = some (.int .i64 xs[k]) := (hcx k (by omega)).trans (is_get hkx)
      have c1 : w.cell? ⟨by_, oy + k, none⟩ = some (.int .i64 xs[k]) := (hcy k (by omega)).trans (is_get hkx)
      clear hcx hcy
      generalize xs[k] = z at *
      go_upto_region 6 with (fail)
      refine wp_region_Z (fun W => W.cell? ⟨bx, ox + k, none⟩ = some (.int .i64 z) ∧ W.cell? ⟨by_, oy + k, none⟩ = some (.int .i64 z)) [3, 7] [] [0, 1, 2, 4, 5, 6, 8] [0, 1, 2, 3, 4, 5, 6, 7, 8] (by kernel_rfl) (by kernel_rfl) ?_
      (repeat (first | (refine wpZ_st (v := ?_) _ (by rfl) (by rfl) (by rfl) (fun W hW => ?_) (by exact ⟨c0, c1⟩) ?_; (rotate_left; (focus ((try dsimp only at hW); go_simp; (try with_reducible rfl); done))); try simp only [Act.put, List.getElem_toArray, List.getElem_cons_zero, List.getElem_cons_succ, List.setIfInBounds_toArray, List.set_cons_zero, List.set_cons_succ]) | (refine wpZ_pu (v := ?_) _ (by rfl) (by rfl) (by rfl) (by rfl) (fun W => ?_) ?_; (rotate_left; (focus ((try dsimp only at hW); go_simp; (try with_reducible rfl); done))); try simp only [Act.put, List.getElem_toArray, List.getElem_cons_zero, List.getElem_cons_succ, List.setIfInBounds_toArray, List.set_cons_zero, List.set_cons_succ]) | (refine wpZ_no _ (by rfl) (by rfl) (by rfl) (by rfl) ?_; try simp only [Act.put, List.getElem_toArray, List.getElem_cons_zero, List.getElem_cons_succ, List.setIfInBounds_toArray, List.set_cons_zero, List.set_cons_succ]) | (refine wpZ_noS _ (by rfl) (by rfl) (by rfl) (by exact ⟨c0, c1⟩) ?_; try simp only [Act.put, List.getElem_toArray, List.getElem_cons_zero, List.getElem_cons_succ, List.setIfInBounds_toArray, List.set_cons_zero, List.set_cons_succ])))
      (simp only [wpZ])
      go_wp2
      go_roundw
      case rel => exact ⟨⟨k + 1, by omega, by go_num⟩, dr + 1, rfl⟩
      case measure => simp [intOf]; omega
    · obtain rfl : n = k := by omega
      go_wp2
      go_ret
      exact ⟨rfl, dr, rfl⟩

end Go.Proofs.Ytibmokkalloabaa
