/- Contracts: Flips, num, knows. -/
import Derived.Test.YtklokbmpapjjiaaStH
open Go.RowKit Go.Own
namespace Go.Proofs.Ytklokbmpapjjiaa

def flipBad (x o : Nat) : Bool := o == 0 || decide (4095 < o) || decide (o < x)
def flipV (x o : Nat) : SV := if flipBad x o = true then ⟨0, fun _ => 0⟩ else ⟨2, upd (upd (upd (upd (fun _ => 0) 0 (o - x)) 1 x) 16 x) 17 (o - x)⟩
def flipE (x o : Nat) : Nat := if flipBad x o = true then 1 else 0

theorem flip_bad {x o : Nat} (h : o = 0 ∨ 4095 < o ∨ o < x) : flipV x o = ⟨0, fun _ => 0⟩ ∧ flipE x o = 1 := by
  have : flipBad x o = true := by simp [flipBad]; omega
  rw [flipV, flipE, if_pos this, if_pos this]; exact ⟨rfl, rfl⟩
theorem flip_good {x o : Nat} (h : ¬ (o = 0 ∨ 4095 < o ∨ o < x)) : flipV x o = ⟨2, upd (upd (upd (upd (fun _ => 0) 0 (o - x)) 1 x) 16 x) 17 (o - x)⟩ ∧ flipE x o = 0 := by
  have : ¬ flipBad x o = true := by simp [flipBad]; omega
  rw [flipV, flipE, if_neg this, if_neg this]; exact ⟨rfl, rfl⟩
theorem flipV_ok {x o : Nat} (hx : x < 4294967296) (ho : o < 4294967296) : (flipV x o).ok := by
  unfold flipV
  split
  · exact zero_ok
  · refine ⟨by show (-9223372036854775808 : Int) ≤ 2; omega, by show (2 : Int) ≤ _; omega, fun i hi => ?_⟩
    simp only [upd]
    split
    · omega
    · split
      · omega
      · split
        · omega
        · split <;> omega

theorem num_any (e : Int) (w : World) (L : List Asn) (h : Hold w L) : Calls Try.prog 18 #[.int .i64 e] w fun r w' => r = .returned (.int .i64 e) ∧ w = w' := by
  go_enter Try.func18, Try.ntmps18
  go_wp2
  go_ret
  exact ⟨rfl, rfl⟩

set_option maxHeartbeats 4000000 in
set_option maxRecDepth 20000 in
theorem flips_ok (x o : Nat) (hx : x < 4294967296) (ho : o < 4294967296) (w : World) (L : List Asn) (h : Hold w L) :
    Calls Try.prog 23 #[.int .u32 x, .int .u32 o] w fun e w' => e = .returned (.tuple #[.agg (enc (flipV x o)).toArray, .int .i64 (flipE x o)]) ∧ Hold w' L := by
  have hb := h.boxZ 0
  by_cases hb0 : o = 0 ∨ 4095 < o ∨ o < x
  · obtain ⟨e1, e2⟩ := flip_bad hb0
    rw [e1, e2]
    clear e1 e2 h
    go_enter Try.func23, Try.ntmps23
    go_upto_region 1 with (fail)
    refine gen_world hb (fun w1 hb => ?_)
    generalize w.heap.size = r at *
    rcases hb0 with rfl | hb0 | hb0
    all_goals
      go_wp2_with (first | (refine wp_store26 rfl _ _ (by rfl) r (by rfl) ⟨0, fun _ => 0⟩ (by rfl) hb (fun w4 h4 => ?_)))
      all_goals (try omega)
      all_goals exact bodyPost_ret (res_cell_tmp (loadV26 h4) (by rfl) (by rfl) (by rfl)) rfl ⟨rfl, h4.drop⟩
  · obtain ⟨e1, e2⟩ := flip_good hb0
    rw [e1, e2]
    clear e1 e2 h
    have c1 : 0 < o := by omega
    have c2 : o ≤ 4095 := by omega
    have c3 : x ≤ o := by omega
    have c4 : (o : Int) - x = ((o - x : Nat) : Int) := by omega
    have c5 : ((o : Int) == 0) = false := by simp; omega
    have c6 : decide (4095 < (o : Int)) = false := by simp; omega
    have c7 : decide (o < x) = false := by simp; omega
    clear hb0
    go_enter Try.func23, Try.ntmps23
    go_upto_region 1 with (fail)
    refine gen_world hb (fun w1 hb => ?_)
    generalize w.heap.size = r at *
    have hb1 := hb.boxZ 0
    go_upto_region 4 with (first | (refine wp_store26 rfl _ _ (by rfl) w1.heap.size (by rfl) ⟨2, fun _ => 0⟩ (by rfl) hb1 (fun w4 h4 => ?_)))
    generalize w1.heap.size = t at *
    have k0 := (h4.cell 1).trans (enc_at (i := 0) (by omega) (by omega))
    have k1 := (h4.cell 2).trans (enc_at (i := 1) (by omega) (by omega))
    have k2 := (h4.cell 17).trans (enc_at (i := 16) (by omega) (by omega))
    have k3 := (h4.cell 18).trans (enc_at (i := 17) (by omega) (by omega))
    have f0 := h4.frozen 1
    have f1 := h4.frozen 2
    have f2 := h4.frozen 17
    have f3 := h4.frozen 18
    simp only at k0 k1 k2 k3
    have h5 := (((h4.seta 0 (o - x)).seta 1 x).seta 16 x).seta 17 (o - x)
    go_upto_region 6 with (fail)
    refine gen_world h5 (fun w5 h5 => ?_)
    go_wp2_with (first
      | (refine wp_load26 rfl _ (by rfl) t (by rfl) h5 ?_)
      | (refine wp_store26 rfl _ _ (by rfl) r (by rfl) ⟨2, upd (upd (upd (upd (fun _ => 0) 0 (o - x)) 1 x) 16 x) 17 (o - x)⟩ (by rfl) (h5.mv 1) (fun w6 h6 => ?_)))
    exact bodyPost_ret (res_cell_tmp (loadV26 h6) (by rfl) (by rfl) (by rfl)) rfl ⟨rfl, h6.drop.drop⟩

set_option maxHeartbeats 4000000 in
set_option maxRecDepth 20000 in
theorem rflips_ok (x o : Nat) (hx : x < 4294967296) (ho : o < 4294967296) (w : World) (L : List Asn) (h : Hold w L) :
    Calls Try.prog 26 #[.int .u32 x, .int .u32 o] w fun e w' => e = .returned (.tuple #[.agg (enc (flipV x o)).toArray, .int .i64 (flipE x o)]) ∧ Hold w' L := by
  have hb := h.boxZ 0
  by_cases hb0 : o = 0 ∨ 4095 < o ∨ o < x
  · obtain ⟨e1, e2⟩ := flip_bad hb0
    rw [e1, e2]
    clear e1 e2 h
    go_enter Try.func26, Try.ntmps26
    go_upto_region 1 with (fail)
    refine gen_world hb (fun w1 hb => ?_)
    generalize w.heap.size = r at *
    rcases hb0 with rfl | hb0 | hb0
    all_goals
      go_wp2_with (first | (refine wp_store26 rfl _ _ (by rfl) r (by rfl) ⟨0, fun _ => 0⟩ (by rfl) hb (fun w4 h4 => ?_)))
      all_goals (try omega)
      all_goals exact bodyPost_ret (res_cell_tmp (loadV26 h4) (by rfl) (by rfl) (by rfl)) rfl ⟨rfl, h4.drop⟩
  · obtain ⟨e1, e2⟩ := flip_good hb0
    rw [e1, e2]
    clear e1 e2 h
    have c1 : 0 < o := by omega
    have c2 : o ≤ 4095 := by omega
    have c3 : x ≤ o := by omega
    have c4 : (o : Int) - x = ((o - x : Nat) : Int) := by omega
    have c5 : ((o : Int) == 0) = false := by simp; omega
    have c6 : decide (4095 < (o : Int)) = false := by simp; omega
    have c7 : decide (o < x) = false := by simp; omega
    clear hb0
    go_enter Try.func26, Try.ntmps26
    go_upto_region 1 with (fail)
    refine gen_world hb (fun w1 hb => ?_)
    generalize w.heap.size = r at *
    have hb1 := hb.boxZ 0
    go_upto_region 4 with (first | (refine wp_store26 rfl _ _ (by rfl) w1.heap.size (by rfl) ⟨2, fun _ => 0⟩ (by rfl) hb1 (fun w4 h4 => ?_)))
    generalize w1.heap.size = t at *
    have k0 := (h4.cell 1).trans (enc_at (i := 0) (by omega) (by omega))
    have k1 := (h4.cell 2).trans (enc_at (i := 1) (by omega) (by omega))
    have k2 := (h4.cell 17).trans (enc_at (i := 16) (by omega) (by omega))
    have k3 := (h4.cell 18).trans (enc_at (i := 17) (by omega) (by omega))
    have f0 := h4.frozen 1
    have f1 := h4.frozen 2
    have f2 := h4.frozen 17
    have f3 := h4.frozen 18
    simp only at k0 k1 k2 k3
    have h5 := (((h4.seta 0 (o - x)).seta 1 x).seta 16 x).seta 17 (o - x)
    go_upto_region 8 with (fail)
    refine gen_world h5 (fun w5 h5 => ?_)
    go_wp2_with (first
      | (refine wp_load26 rfl _ (by rfl) t (by rfl) h5 ?_)
      | (refine wp_store26 rfl _ _ (by rfl) r (by rfl) ⟨2, upd (upd (upd (upd (fun _ => 0) 0 (o - x)) 1 x) 16 x) 17 (o - x)⟩ (by rfl) (h5.mv 1) (fun w6 h6 => ?_)))
    exact bodyPost_ret (res_cell_tmp (loadV26 h6) (by rfl) (by rfl) (by rfl)) rfl ⟨rfl, h6.drop.drop⟩


theorem flip310 : flipV 3 10 = ⟨2, upd (upd (upd (upd (fun _ => 0) 0 7) 1 3) 16 3) 17 7⟩ ∧ flipE 3 10 = 0 := flip_good (by omega)
theorem tot310 : totA (flipV 3 10) = 10 ∧ totB (flipV 3 10) = 10 ∧ check (flipV 3 10) = 0 := by decide

set_option maxHeartbeats 4000000 in
set_option maxRecDepth 20000 in
theorem knows_ok (w : World) (L : List Asn) (h : Hold w L) :
    Calls Try.prog 21 #[] w fun e w' => e = .returned (.bool true) ∧ Hold w' L := by
  have F := flips_ok 3 10 (by omega) (by omega)
  have T := totals_ok (flipV 3 10) (flipV_ok (by omega) (by omega))
  obtain ⟨t1, t2, t3⟩ := tot310
  obtain ⟨f1, f2⟩ := flip310
  rw [t1, t2, t3] at T
  rw [f2] at F
  rw [f1] at F T
  clear t1 t2 t3 f1 f2
  go_enter Try.func21, Try.ntmps21
  go_upto_region 2 with (first
    | (go_at_call 23; refine (F _ _ h).mono ?_; rintro e w2 ⟨rfl, h2⟩; have h3 := h2.boxZ 0)
    | (refine wp_store26 rfl _ _ (by rfl) w2.heap.size (by rfl) ⟨2, upd (upd (upd (upd (fun _ => 0) 0 7) 1 3) 16 3) 17 7⟩ (by rfl) h3 (fun w4 h4 => ?_)))
  generalize w2.heap.size = b at *
  clear h3
  go_upto_region 3 with (first
    | (refine wpList_yw (by rfl) (exec_load26 (by rfl) (by rfl) h4) ?_)
    | (go_at_call 12; refine (T _ _ h4).mono ?_; rintro e w5 ⟨rfl, h5⟩))
  have g0 := (h5.cell 0).trans (enc_lv _)
  have g1 := (h5.cell 1).trans (enc_at (i := 0) (by omega) (by omega))
  have g2 := (h5.cell 17).trans (enc_at (i := 16) (by omega) (by omega))
  simp [upd] at g0 g1 g2
  go_wp2_with (go_at_call 18; refine (num_any _ _ _ h5).mono ?_; rintro e w6 ⟨rfl, rfl⟩)
  go_ret
  exact ⟨rfl, h5.drop⟩

end Go.Proofs.Ytklokbmpapjjiaa
