/- Contracts: good statistics, out of any. -/
import Derived.Test.YtklokbmpapjjiaaStI
import Derived.Test.YtklokbmpapjjiaaRegion3
open Go.RowKit Go.Own
namespace Go.Proofs.Ytklokbmpapjjiaa

def goodM (lv : Int) : Nat := 2 + (lv % 15).toNat
theorem goodM_le (lv : Int) : 2 ≤ goodM lv ∧ goodM lv ≤ 16 := by unfold goodM; omega
theorem goodM_eq (lv : Int) : 2 + lv.tmod 15 % 15 = (goodM lv : Int) := by
  have h1 := Int.tmod_eq_emod (a := lv) (b := 15)
  rw [h1]
  unfold goodM
  split <;> omega

/-- While the rows are laid: k are done. -/
def goodK (c : Nat → Nat) (k : Nat) : Nat → Nat := fun i => if i % 16 < k then (if i < 16 then c i % 2000 else 1 + c i % 2000) else 0
def goodC (c : Nat → Nat) (m : Nat) : Nat → Nat := upd (goodK c m) 0 (c 0 % 2000 + 1)
def goodV (s : SV) : SV := ⟨goodM s.lv, goodC s.c (goodM s.lv)⟩

theorem goodK_zero (c : Nat → Nat) : goodK c 0 = fun _ => 0 := by funext i; simp [goodK]
theorem goodK_step (c : Nat → Nat) (k i : Nat) (hi : i < 32) (hk : k < 16) : upd (upd (goodK c k) k (c k % 2000)) (16 + k) (1 + c (16 + k) % 2000) i = goodK c (k + 1) i := by
  unfold upd goodK
  by_cases h1 : i = 16 + k
  · have e1 : i % 16 < k + 1 := by omega
    have e2 : ¬ i < 16 := by omega
    simp only [h1, if_true] at e1 e2 ⊢
    simp only [e1, e2, if_true, if_false]
  · by_cases h2 : i = k
    · have e1 : i % 16 < k + 1 := by omega
      have e2 : i < 16 := by omega
      have e3 : ¬ i = 16 + k := h1
      subst h2
      simp only [e1, e2, e3, if_true, if_false]
    · rw [if_neg h1, if_neg h2]
      by_cases h3 : i % 16 < k
      · have e : i % 16 < k + 1 := by omega
        simp only [h3, e, if_true]
      · have e : ¬ i % 16 < k + 1 := by omega
        simp only [h3, e, if_false]
theorem goodC_le (c : Nat → Nat) (m i : Nat) : goodC c m i ≤ 2000 := by
  unfold goodC upd goodK
  split
  · omega
  · split
    · split <;> omega
    · omega
theorem goodV_ok (s : SV) : (goodV s).ok := by
  have := goodM_le s.lv
  exact ⟨by show -9223372036854775808 ≤ (goodM s.lv : Int); omega, by show (goodM s.lv : Int) ≤ 9223372036854775807; omega, fun i hi => by
    have := goodC_le s.c (goodM s.lv) i
    show goodC s.c (goodM s.lv) i < _
    omega⟩

set_option maxHeartbeats 4000000 in
set_option maxRecDepth 20000 in
theorem good_ok (s : SV) (hs : s.ok) (w : World) (L : List Asn) (h : Hold w L) :
    Calls Try.prog 28 #[.agg (enc s).toArray] w fun e w' => e = .returned (.agg (enc (goodV s)).toArray) ∧ Hold w' L := by
  have hb := h.box2Z s 0
  obtain ⟨x1, x2, x3⟩ := hs
  obtain ⟨lv, c⟩ := s
  simp only at x1 x2 x3
  unfold goodV
  simp only
  obtain ⟨hm1, hm2⟩ := goodM_le lv
  have hme := goodM_eq lv
  have b1 := Int.lt_tmod_of_pos lv (b := 15) (by omega)
  have b2 := Int.tmod_lt_of_pos lv (b := 15) (by omega)
  generalize goodM lv = m at *
  generalize hX : lv.tmod 15 = X at *
  clear h
  go_enter Try.func28, Try.ntmps28
  go_upto_region 1 with (fail)
  refine gen_world hb (fun w1 hb => ?_)
  generalize w.heap.size + 1 = r at *
  generalize w.heap.size = b at *
  have g0 := ((hb.mv 1).cell 0).trans (enc_lv _)
  simp only at g0
  have hb1 := hb.boxZ 0
  go_upto_region 2 with (refine wp_store26 rfl _ _ (by rfl) w1.heap.size (by rfl) ⟨m, fun _ => 0⟩ (by rfl) hb1 (fun w3 h3 => ?_))
  clear hb1 hb g0 hme b1 b2 hX
  generalize w1.heap.size = t at *
  go_wp2
  go_loopw [4] (fun i wr => ∃ k : Nat, k ≤ m ∧ i = .int .i64 k ∧ Hold wr (cellsA t 26 (enc ⟨m, goodK c k⟩) :: cellsA r 26 (enc ⟨0, fun _ => 0⟩) :: cellsA b 26 (enc ⟨lv, c⟩) :: L)) (fun i _ => m - (intOf i).toNat)
  case atStart => exact ⟨0, by omega, rfl, by rw [goodK_zero]; exact h3⟩
  case round =>
    obtain ⟨k, hk, rfl, hr⟩ := hrel
    clear h3
    have g0 := (hr.cell 0).trans (enc_lv _)
    simp only at g0
    by_cases hlt : k < m
    · have hki : (k : Int) < m := by omega
      have ga := ((hr.mv 2).cell (1 + k)).trans (enc_at (i := k) (by omega) (by omega))
      have gb := ((hr.mv 2).cell (17 + k)).trans (enc_at (i := 16 + k) (by omega) (by omega))
      have gc := (hr.cell (1 + k)).trans (enc_at (i := k) (by omega) (by omega))
      have gd := (hr.cell (17 + k)).trans (enc_at (i := 16 + k) (by omega) (by omega))
      have fa := hr.frozen (1 + k)
      have fb := hr.frozen (17 + k)
      have hne := (hr.mv 2).ne
      have ha := x3 k (by omega)
      have hb := x3 (16 + k) (by omega)
      simp only at ga gb gc gd
      go_wp2
      have HX := (hr.seta k (c k % 2000)).seta (16 + k) (1 + c (16 + k) % 2000)
      rw [show k + 1 = 1 + k from by omega, show 16 + k + 1 = 17 + k from by omega, show ((c k % 2000 : Nat) : Int) = (c k : Int) % 2000 from by omega,
        show ((1 + c (16 + k) % 2000 : Nat) : Int) = 1 + (c (16 + k) : Int) % 2000 from by omega] at HX
      go_roundw
      case rel => exact ⟨k + 1, by omega, by go_num, HX.as (enc_congr rfl fun i hi => goodK_step c k i hi (by omega))⟩
      case measure => simp [intOf]; omega
    · obtain rfl : m = k := by omega
      have gc := (hr.cell 1).trans (enc_at (i := 0) (by omega) (by omega))
      have fa := hr.frozen 1
      have e0 : goodK c m 0 = c 0 % 2000 := by unfold goodK; simp; omega
      simp only [e0] at gc
      have e1 : ((c 0 % 2000 : Nat) : Int) = (c 0 : Int) % 2000 := by omega
      rw [e1] at gc
      have HX := hr.seta 0 (c 0 % 2000 + 1)
      rw [show ((c 0 % 2000 + 1 : Nat) : Int) = (c 0 : Int) % 2000 + 1 from by omega] at HX
      clear e0 e1
      go_wp2_with (first
        | (refine wp_load26 rfl _ (by rfl) t (by rfl) HX ?_)
        | (refine wp_store26 rfl _ _ (by rfl) r (by rfl) ⟨m, goodC c m⟩ (by rfl) (HX.mv 1) (fun w4 h4 => ?_)))
      exact bodyPost_ret (res_cell (loadV26 h4) (by rfl) (by rfl)) rfl ⟨rfl, h4.drop.drop.drop⟩

end Go.Proofs.Ytklokbmpapjjiaa
