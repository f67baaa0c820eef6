/- Contracts: what a marker is worth at a place, whatever is asked. -/
import Derived.Test.YtibmokkalloabaaMkR
open Go.RowKit Go.Own
namespace Go.Proofs.Ytibmokkalloabaa

def corrE (B : Nat) (n N : Int) (ys : List UInt8) (p : Int) : Nat :=
  if chkE B n N ≠ 0 then chkE B n N else if p < 0 ∨ (ys.length : Int) - n < p then 11 else if allB N ((ys.drop p.toNat).take n.toNat) = true then 0 else 91
def corrV (B : Nat) (n N : Int) (ys : List UInt8) (p : Int) : Int := if corrE B n N ys p = 0 then valAt N B n.toNat ys p.toNat else 0

/-- What is checked of a marker and levels. -/
theorem chk_view (B : Nat) (n N : Int) : (chkE B n N = 220 ∧ markE B n = 220) ∨ (chkE B n N = 1 ∧ markE B n = 0 ∧ (N < 2 ∨ 16 < N)) ∨ (chkE B n N = 0 ∧ markE B n = 0 ∧ 2 ≤ N ∧ N ≤ 16 ∧ ∃ k : Nat, n = k ∧ 1 ≤ k ∧ k ≤ 64) := by
  unfold chkE
  rcases markE_or B n with h | h
  · rw [if_neg (by omega)]
    by_cases hN : N < 2 ∨ 16 < N
    · exact .inr (.inl ⟨if_pos hN, h, hN⟩)
    · exact .inr (.inr ⟨if_neg hN, h, by omega, by omega, markE_zero h⟩)
  · exact .inl ⟨by rw [if_pos (by omega), h], h⟩

theorem corr_view (B : Nat) (n N : Int) (ys : List UInt8) (p : Int) :
    (chkE B n N = 220 ∧ markE B n = 220 ∧ corrE B n N ys p = 220 ∧ corrV B n N ys p = 0) ∨
    (chkE B n N = 1 ∧ markE B n = 0 ∧ (N < 2 ∨ 16 < N) ∧ corrE B n N ys p = 1 ∧ corrV B n N ys p = 0) ∨
    (chkE B n N = 0 ∧ markE B n = 0 ∧ 2 ≤ N ∧ N ≤ 16 ∧ ∃ m : Nat, n = m ∧ 1 ≤ m ∧ m ≤ 64 ∧
      (((p < 0 ∨ (ys.length : Int) - m < p) ∧ corrE B n N ys p = 11 ∧ corrV B n N ys p = 0) ∨
       ∃ k : Nat, p = k ∧ k + m ≤ ys.length ∧
        ((allB N ((ys.drop k).take m) = false ∧ corrE B n N ys p = 91 ∧ corrV B n N ys p = 0) ∨
         (allB N ((ys.drop k).take m) = true ∧ corrE B n N ys p = 0 ∧ corrV B n N ys p = valAt N B m ys k)))) := by
  rcases chk_view B n N with ⟨h1, h2⟩ | ⟨h1, h2, h3⟩ | ⟨h1, h2, h3, h4, m, rfl, h5, h6⟩
  · have e : corrE B n N ys p = 220 := by rw [corrE, if_pos (by omega), h1]
    exact .inl ⟨h1, h2, e, by rw [corrV, e, if_neg (by omega)]⟩
  · have e : corrE B n N ys p = 1 := by rw [corrE, if_pos (by omega), h1]
    exact .inr (.inl ⟨h1, h2, h3, e, by rw [corrV, e, if_neg (by omega)]⟩)
  · refine .inr (.inr ⟨h1, h2, h3, h4, m, rfl, h5, h6, ?_⟩)
    by_cases hp : p < 0 ∨ (ys.length : Int) - m < p
    · have e : corrE B m N ys p = 11 := by rw [corrE, if_neg (by omega), if_pos hp]
      exact .inl ⟨hp, e, by rw [corrV, e, if_neg (by omega)]⟩
    · obtain ⟨k, rfl⟩ : ∃ k : Nat, p = k := ⟨p.toNat, by omega⟩
      refine .inr ⟨k, rfl, by omega, ?_⟩
      cases ha : allB N ((ys.drop k).take m) with
      | false =>
        have e : corrE B m N ys k = 91 := by rw [corrE, if_neg (by omega), if_neg hp]; simp [ha]
        exact .inl ⟨rfl, e, by rw [corrV, e, if_neg (by omega)]⟩
      | true =>
        have e : corrE B m N ys k = 0 := by rw [corrE, if_neg (by omega), if_neg hp]; simp [ha]
        exact .inr ⟨rfl, e, by rw [corrV, e, if_pos rfl]; simp⟩

set_option maxHeartbeats 1000000 in
set_option maxRecDepth 20000 in
theorem corr_ok (B : Nat) (n N : Int) (hB : B < 18446744073709551616) (ys : List UInt8) (C : Asn) (ao : Option Addr) (M cap : Nat) (hR : Reads C 1 (.slice ao M cap) M (ub ys)) (hM : M ≤ 140737488351232) (p : Int) (w : World) (L : List Asn) (h : Hold w (C :: L)) :
    Calls Try.prog 19 #[.agg #[.int .u64 B, .int .i64 n], .int .i64 N, .slice ao M cap, .int .i64 p] w fun e w' => e = .returned (.tuple #[.int .i64 (corrV B n N ys p), .int .i64 (corrE B n N ys p)]) ∧ Hold w' (C :: L) := by
  obtain ⟨S0, r0⟩ := h.reads hR
  obtain ⟨b1, b2, b3⟩ := r0.bounds
  unfold maxLen at b3
  have hyn : ys.length = M := by simpa using b1
  clear r0 b1
  have hb := h.box 24 [.int .u64 B, .int .i64 n]
  have PC := fun w L h => mcheck_ok B n N hB w L h
  rcases corr_view B n N ys p with ⟨h1, -, e1, e2⟩ | ⟨h1, -, -, e1, e2⟩ | ⟨h1, h2, h3, h4, m, rfl, h5, h6, hv⟩
  · rw [e1, e2]
    rw [h1] at PC
    clear hyn
    go_enter Try.func19, Try.ntmps19
    go_upto_region 1 with (fail)
    refine gen_world hb (fun w1 hb => ?_)
    generalize w.heap.size = q at *
    obtain ⟨g0, g1⟩ := loadM hb
    go_wp2_with (go_at_call 37; refine (PC _ _ hb).mono ?_; rintro e w2 ⟨rfl, h2⟩)
    go_ret2
    exact ⟨rfl, h2.drop⟩
  · rw [e1, e2]
    rw [h1] at PC
    clear hyn
    go_enter Try.func19, Try.ntmps19
    go_upto_region 1 with (fail)
    refine gen_world hb (fun w1 hb => ?_)
    generalize w.heap.size = q at *
    obtain ⟨g0, g1⟩ := loadM hb
    go_wp2_with (go_at_call 37; refine (PC _ _ hb).mono ?_; rintro e w2 ⟨rfl, h2⟩)
    go_ret2
    exact ⟨rfl, h2.drop⟩
  · rw [h1] at PC
    clear h1
    rcases hv with ⟨hp, e1, e2⟩ | ⟨k, rfl, hk, hv⟩
    · rw [e1, e2]
      rw [hyn] at hp
      clear e1 e2 hyn
      have hp3 : p < 0 ∨ 0 ≤ p ∧ (M : Int) < m ∨ 0 ≤ p ∧ (m : Int) ≤ M ∧ (M : Int) - m < p := by omega
      clear hp
      rcases hp3 with hp | ⟨hp, hq⟩ | ⟨hp, hq, hs⟩
      all_goals
        go_enter Try.func19, Try.ntmps19
        go_upto_region 1 with (fail)
        refine gen_world hb (fun w1 hb => ?_)
        generalize w.heap.size = q at *
        obtain ⟨g0, g1⟩ := loadM hb
        go_upto_region 4 with (go_at_call 37; refine (PC _ _ hb).mono ?_; rintro e w2 ⟨rfl, h2⟩)
        obtain ⟨g0, g1⟩ := loadM h2
        go_wp2
        go_ret2
        exact ⟨rfl, h2.drop⟩
    · rw [hyn] at hk
      have k0 : 0 ≤ (k : Int) := by omega
      have k2 : (m : Int) ≤ M := by omega
      have k3 : (k : Int) ≤ M - m := by omega
      have A1 := Reads.sliced hR (l := k) (u := k + m) (m := cap) (by omega) (by omega) (by omega) (by omega)
      simp only [sliced, Nat.mul_one, ← ub_drop, ← ub_take] at A1
      rw [if_neg (by omega), Nat.add_sub_cancel_left] at A1
      have PA := fun w L h => allBelow_ok N _ C _ _ _ A1 w L h
      have W1 : IntKind.i64.wrap ((k : Int) + m) = (k : Int) + m := IntWalk.i64_in _ (by omega)
      rcases hv with ⟨ha, e1, e2⟩ | ⟨ha, e1, e2⟩
      · rw [ha] at PA
        rw [e1, e2]
        clear A1 e1 e2 ha hyn
        go_enter Try.func19, Try.ntmps19
        go_upto_region 1 with (fail)
        refine gen_world hb (fun w1 hb => ?_)
        generalize w.heap.size = q at *
        obtain ⟨g0, g1⟩ := loadM hb
        go_upto_region 4 with (go_at_call 37; refine (PC _ _ hb).mono ?_; rintro e w2 ⟨rfl, h2⟩)
        obtain ⟨g0, g1⟩ := loadM h2
        go_wp2_with (go_at_call 38; refine (PA _ _ (h2.mv 1)).mono ?_; rintro e w3 ⟨rfl, h3⟩)
        go_ret2
        exact ⟨rfl, (h3.mv 1).drop⟩
      · rw [ha] at PA
        rw [e1, e2]
        have A2 := Reads.sliced hR (l := k) (u := M) (m := cap) (by omega) (by omega) (by omega) (by omega)
        simp only [sliced, Nat.mul_one, ← ub_drop, ← ub_take] at A2
        rw [if_neg (by omega), List.take_of_length_le (by simp; omega)] at A2
        have PV := fun f w L h => at_ok N B m (by omega) h4 hB h6 _ C _ _ _ A2 (by omega) f w L h
        have hcc : ¬ cap = k := by omega
        have hkM : (k : Int) ≤ M := by omega
        have HE := Lib.hid (show valAt N B m ys k = atS N B m (ys.drop k) m from rfl)
        clear A1 A2 e1 e2 ha hyn
        go_enter Try.func19, Try.ntmps19
        go_upto_region 1 with (fail)
        refine gen_world hb (fun w1 hb => ?_)
        generalize w.heap.size = q at *
        obtain ⟨g0, g1⟩ := loadM hb
        go_upto_region 4 with (go_at_call 37; refine (PC _ _ hb).mono ?_; rintro e w2 ⟨rfl, h2⟩)
        obtain ⟨g0, g1⟩ := loadM h2
        go_upto_region 8 with (go_at_call 38; refine (PA _ _ (h2.mv 1)).mono ?_; rintro e w3 ⟨rfl, h3⟩)
        have hS := (h3.mv 1).drew
        obtain ⟨g0, g1⟩ := loadM hS
        refine wp_region_Z (fun W => W.cell? ⟨q, 0, none⟩ = some (.int .u64 B) ∧ W.cell? ⟨q, 1, none⟩ = some (.int .i64 m)) [0] [6] [1, 2, 3, 4, 7, 8] [0, 1, 2, 3, 4, 5, 6, 7, 8] (by kernel_rfl) (by kernel_rfl) ?_
        (repeat (first | (refine wpZ_st (v := ?_) _ (by rfl) (by rfl) (by rfl) (fun W hW => ?_) ⟨g0, g1⟩ ?_; (rotate_left; (focus ((try dsimp only at hW); go_simp; (try with_reducible rfl); done))); try simp only [Act.put, List.getElem_toArray, List.getElem_cons_zero, List.getElem_cons_succ, List.setIfInBounds_toArray, List.set_cons_zero, List.set_cons_succ]) | (refine wpZ_pu (v := ?_) _ (by rfl) (by rfl) (by rfl) (by rfl) (fun W => ?_) ?_; (rotate_left; (focus ((try dsimp only at hW); go_simp; (try with_reducible rfl); done))); try simp only [Act.put, List.getElem_toArray, List.getElem_cons_zero, List.getElem_cons_succ, List.setIfInBounds_toArray, List.set_cons_zero, List.set_cons_succ]) | (refine wpZ_no _ (by rfl) (by rfl) (by rfl) (by rfl) ?_; try simp only [Act.put, List.getElem_toArray, List.getElem_cons_zero, List.getElem_cons_succ, List.setIfInBounds_toArray, List.set_cons_zero, List.set_cons_succ]) | (refine wpZ_noS _ (by rfl) (by rfl) (by rfl) ⟨g0, g1⟩ ?_; try simp only [Act.put, List.getElem_toArray, List.getElem_cons_zero, List.getElem_cons_succ, List.setIfInBounds_toArray, List.set_cons_zero, List.set_cons_succ])))
        refine wpZ_eff _ (by rfl) (by rfl) (by rfl) (by rfl) (fun K hK => ?_)
        go_simp
        refine (weigher_ok N _ _ hS).mono ?_
        rintro e w5 ⟨f, rfl, h5⟩
        dsimp only
        (refine hK _ _ (fun hl => ?_) ?_; (first | (focus (cases hl; done)) | exact (loadM (h5.mv 1))); clear hK K; try simp only [Act.put, List.getElem_toArray, List.getElem_cons_zero, List.getElem_cons_succ, List.setIfInBounds_toArray, List.set_cons_zero, List.set_cons_succ])
        (repeat (first | (refine wpZ_st (v := ?_) _ (by rfl) (by rfl) (by rfl) (fun W hW => ?_) (loadM (h5.mv 1)) ?_; (rotate_left; (focus ((try dsimp only at hW); go_simp; (try with_reducible rfl); done))); try simp only [Act.put, List.getElem_toArray, List.getElem_cons_zero, List.getElem_cons_succ, List.setIfInBounds_toArray, List.set_cons_zero, List.set_cons_succ]) | (refine wpZ_pu (v := ?_) _ (by rfl) (by rfl) (by rfl) (by rfl) (fun W => ?_) ?_; (rotate_left; (focus ((try dsimp only at hW); go_simp; (try with_reducible rfl); done))); try simp only [Act.put, List.getElem_toArray, List.getElem_cons_zero, List.getElem_cons_succ, List.setIfInBounds_toArray, List.set_cons_zero, List.set_cons_succ]) | (refine wpZ_no _ (by rfl) (by rfl) (by rfl) (by rfl) ?_; try simp only [Act.put, List.getElem_toArray, List.getElem_cons_zero, List.getElem_cons_succ, List.setIfInBounds_toArray, List.set_cons_zero, List.set_cons_succ]) | (refine wpZ_noS _ (by rfl) (by rfl) (by rfl) (loadM (h5.mv 1)) ?_; try simp only [Act.put, List.getElem_toArray, List.getElem_cons_zero, List.getElem_cons_succ, List.setIfInBounds_toArray, List.set_cons_zero, List.set_cons_succ])))
        refine wpZ_eff _ (by rfl) (by rfl) (by rfl) (by rfl) (fun K hK => ?_)
        go_simp
        refine (PV f _ _ (h5.mv 2 |>.mv 1)).mono ?_
        rintro e w6 ⟨rfl, h6⟩
        dsimp only
        (refine hK _ _ (fun hl => ?_) ?_; (first | (focus (cases hl; done)) | exact (loadM (h6.mv 2))); clear hK K; try simp only [Act.put, List.getElem_toArray, List.getElem_cons_zero, List.getElem_cons_succ, List.setIfInBounds_toArray, List.set_cons_zero, List.set_cons_succ])
        (repeat (first | (refine wpZ_st (v := ?_) _ (by rfl) (by rfl) (by rfl) (fun W hW => ?_) (loadM (h6.mv 2)) ?_; (rotate_left; (focus ((try dsimp only at hW); go_simp; (try with_reducible rfl); done))); try simp only [Act.put, List.getElem_toArray, List.getElem_cons_zero, List.getElem_cons_succ, List.setIfInBounds_toArray, List.set_cons_zero, List.set_cons_succ]) | (refine wpZ_pu (v := ?_) _ (by rfl) (by rfl) (by rfl) (by rfl) (fun W => ?_) ?_; (rotate_left; (focus ((try dsimp only at hW); go_simp; (try with_reducible rfl); done))); try simp only [Act.put, List.getElem_toArray, List.getElem_cons_zero, List.getElem_cons_succ, List.setIfInBounds_toArray, List.set_cons_zero, List.set_cons_succ]) | (refine wpZ_no _ (by rfl) (by rfl) (by rfl) (by rfl) ?_; try simp only [Act.put, List.getElem_toArray, List.getElem_cons_zero, List.getElem_cons_succ, List.setIfInBounds_toArray, List.set_cons_zero, List.set_cons_succ]) | (refine wpZ_noS _ (by rfl) (by rfl) (by rfl) (loadM (h6.mv 2)) ?_; try simp only [Act.put, List.getElem_toArray, List.getElem_cons_zero, List.getElem_cons_succ, List.setIfInBounds_toArray, List.set_cons_zero, List.set_cons_succ])))
        (simp only [wpZ])
        go_wp2
        go_ret2
        exact ⟨by rw [HE.out]; rfl, h6.drop.mv 1 |>.drop⟩

set_option maxHeartbeats 1000000 in
set_option maxRecDepth 20000 in
theorem rcorr_ok (B : Nat) (n N : Int) (hB : B < 18446744073709551616) (ys : List UInt8) (C : Asn) (ao : Option Addr) (M cap : Nat) (hR : Reads C 1 (.slice ao M cap) M (ub ys)) (hM : M ≤ 140737488351232) (p : Int) (w : World) (L : List Asn) (h : Hold w (C :: L)) :
    Calls Try.prog 27 #[.agg #[.int .u64 B, .int .i64 n], .int .i64 N, .slice ao M cap, .int .i64 p] w fun e w' => e = .returned (.tuple #[.int .i64 (corrV B n N ys p), .int .i64 (corrE B n N ys p)]) ∧ Hold w' (C :: L) := by
  obtain ⟨S0, r0⟩ := h.reads hR
  obtain ⟨b1, b2, b3⟩ := r0.bounds
  unfold maxLen at b3
  have hyn : ys.length = M := by simpa using b1
  clear r0 b1
  have hb := h.box 24 [.int .u64 B, .int .i64 n]
  have PC := fun w L h => rcheck_ok B n hB w L h
  have PL := fun w => levelled_ok N w
  rcases corr_view B n N ys p with ⟨-, h1, e1, e2⟩ | ⟨-, h1, h3, e1, e2⟩ | ⟨-, h1, h3, h4, m, rfl, h5, h6, hv⟩
  · rw [e1, e2]
    rw [h1] at PC
    clear hyn PL
    go_enter Try.func27, Try.ntmps27
    go_upto_region 1 with (fail)
    refine gen_world hb (fun w1 hb => ?_)
    generalize w.heap.size = q at *
    obtain ⟨g0, g1⟩ := loadM hb
    go_wp2_with (go_at_call 26; refine (PC _ _ hb).mono ?_; rintro e w2 ⟨rfl, h2⟩)
    go_ret2
    exact ⟨rfl, h2.drop⟩
  · rw [e1, e2]
    rw [h1] at PC
    have hd : decide (2 ≤ N ∧ N ≤ 16) = false := by simp; omega
    rw [hd] at PL
    clear hyn hd
    go_enter Try.func27, Try.ntmps27
    go_upto_region 1 with (fail)
    refine gen_world hb (fun w1 hb => ?_)
    generalize w.heap.size = q at *
    obtain ⟨g0, g1⟩ := loadM hb
    go_wp2_with (first | (go_at_call 26; refine (PC _ _ hb).mono ?_; rintro e w2 ⟨rfl, h2⟩) | (go_at_call 35; refine (PL _).mono ?_; rintro e w2 ⟨rfl, rfl⟩))
    go_ret2
    exact ⟨rfl, h2.drop⟩
  · rw [h1] at PC
    have hd : decide (2 ≤ N ∧ N ≤ 16) = true := by simp; omega
    rw [hd] at PL
    clear h1 hd
    rcases hv with ⟨hp, e1, e2⟩ | ⟨k, rfl, hk, hv⟩
    · rw [e1, e2]
      rw [hyn] at hp
      clear e1 e2 hyn
      have hp3 : p < 0 ∨ 0 ≤ p ∧ (M : Int) - m < p := by omega
      clear hp
      rcases hp3 with hp | ⟨hp, hs⟩
      all_goals
        go_enter Try.func27, Try.ntmps27
        go_upto_region 1 with (fail)
        refine gen_world hb (fun w1 hb => ?_)
        generalize w.heap.size = q at *
        obtain ⟨g0, g1⟩ := loadM hb
        go_upto_region 4 with (go_at_call 26; refine (PC _ _ hb).mono ?_; rintro e w2 ⟨rfl, h2⟩)
        obtain ⟨g0, g1⟩ := loadM h2
        go_wp2_with (go_at_call 35; refine (PL _).mono ?_; rintro e w2 ⟨rfl, rfl⟩)
        go_ret2
        exact ⟨rfl, h2.drop⟩
    · rw [hyn] at hk
      have k0 : 0 ≤ (k : Int) := by omega
      have k3 : (k : Int) ≤ M - m := by omega
      have PO := fun w L h => over_ok N ys C ao M cap hR k (k + m) (by omega) (by omega) w L h
      rw [Nat.add_sub_cancel_left, show ((k + m : Nat) : Int) = (k : Int) + m by omega] at PO
      have W1 : IntKind.i64.wrap ((k : Int) + m) = (k : Int) + m := IntWalk.i64_in _ (by omega)
      rcases hv with ⟨ha, e1, e2⟩ | ⟨ha, e1, e2⟩
      · rw [ha] at PO
        rw [e1, e2]
        clear e1 e2 ha hyn
        go_enter Try.func27, Try.ntmps27
        go_upto_region 1 with (fail)
        refine gen_world hb (fun w1 hb => ?_)
        generalize w.heap.size = q at *
        obtain ⟨g0, g1⟩ := loadM hb
        go_upto_region 4 with (go_at_call 26; refine (PC _ _ hb).mono ?_; rintro e w2 ⟨rfl, h2⟩)
        obtain ⟨g0, g1⟩ := loadM h2
        go_wp2_with (first | (go_at_call 35; refine (PL _).mono ?_; rintro e w2 ⟨rfl, rfl⟩) | (go_at_call 41; refine (PO _ _ (h2.mv 1)).mono ?_; rintro e w3 ⟨rfl, rfl⟩))
        go_ret2
        exact ⟨rfl, h2.drop⟩
      · rw [ha] at PO
        rw [e1, e2]
        have PV := fun w L h => value_ok N B m h3 h4 hB h6 ys C ao M cap hR k hk ha w L h
        clear e1 e2 ha hyn
        go_enter Try.func27, Try.ntmps27
        go_upto_region 1 with (fail)
        refine gen_world hb (fun w1 hb => ?_)
        generalize w.heap.size = q at *
        obtain ⟨g0, g1⟩ := loadM hb
        go_upto_region 4 with (go_at_call 26; refine (PC _ _ hb).mono ?_; rintro e w2 ⟨rfl, h2⟩)
        obtain ⟨g0, g1⟩ := loadM h2
        go_wp2_with (first | (go_at_call 35; refine (PL _).mono ?_; rintro e w2 ⟨rfl, rfl⟩) | (go_at_call 41; refine (PO _ _ (h2.mv 1)).mono ?_; rintro e w3 ⟨rfl, rfl⟩) | (go_at_call 42; refine (PV _ _ (h2.mv 1)).mono ?_; rintro e w4 ⟨rfl, h4⟩))
        go_ret2
        exact ⟨rfl, h4.mv 1 |>.drop⟩

end Go.Proofs.Ytibmokkalloabaa
