/- The walk of StatsNil. -/
import Derived.Test.YtklokbmpapjjiaaCtH
open Go.RowKit Go.Own
namespace Go.Proofs.Ytklokbmpapjjiaa

theorem encU_zero : encU.toArray = (List.toArray (.int .i64 0 :: .int .u32 0 :: .int .u32 0 :: .int .u32 0 :: .int .u32 0 :: .int .u32 0 :: .int .u32 0 :: .int .u32 0 :: .int .u32 0 :: .int .u32 0 :: .int .u32 0 :: .int .u32 0 :: .int .u32 0 :: .int .u32 0 :: .int .u32 0 :: .int .u32 0 :: .int .u32 0 :: .int .u32 0 :: .int .u32 0 :: .int .u32 0 :: .int .u32 0 :: .int .u32 0 :: .int .u32 0 :: .int .u32 0 :: .int .u32 0 :: .int .u32 0 :: .int .u32 0 :: .int .u32 0 :: .int .u32 0 :: .int .u32 0 :: .int .u32 0 :: .int .u32 0 :: .int .u32 0 :: .bool false :: [])) := by rfl

def NilRel (n z : Nat) (C : Asn) (L : List Asn) (i : Value) (wr : World) : Prop := ∃ k : Nat, k ≤ n ∧ i = .int .i64 k ∧ Hold wr (noA 85 encU (.pointer (some ⟨z, 0, none⟩)) :: C :: L)

set_option maxHeartbeats 4000000 in
set_option maxRecDepth 20000 in
theorem nil_walk (ao : Option Addr) (n cap : Nat) (C : Asn) (hO : OpsOf C ao n cap) (v : Value) (w : World) (L : List Asn) (h : Hold w (C :: L)) :
    Calls Try.prog 11 #[.slice ao n cap, v] w fun e w' => e = .returned (.bool true) ∧ Hold w' (C :: L) := by
  have hn : n ≤ 140737488351232 := by obtain ⟨_, _, h1, _⟩ := hO; exact h1
  have hb := h.box 85 encU
  rw [encU_zero] at hb
  go_enter Try.func11, Try.ntmps11
  go_upto_region 3 with (fail)
  refine gen_world hb (fun w1 hb => ?_)
  generalize w.heap.size = z at *
  have hz := hb.un_no
  clear hb h
  have HO := Lib.hid hO
  clear hO
  go_wp2
  go_loopw [8] (fun i wr => NilRel n z C L i wr) (fun i _ => n - (intOf i).toNat)
  case atStart => exact ⟨0, by omega, rfl, hz⟩
  case round =>
    clear hz
    obtain ⟨k, hk, rfl, hr⟩ := hrel
    by_cases hlt : k < n
    · have hki : (k : Int) < n := by omega
      obtain ⟨rb, ro, kd, bit, lev, x, y, ax, ay, n1, cx, m, cy, rfl, o1, o2, o3, o4, o5, o6, G⟩ := op_at HO.out hlt (hr.mv 1)
      have h1 := (hr.mv 1).nil_no 85 encU
      have GA := G _ _ (hr.mv 1)
      have P1 := fun (pv : Value) w L h => counts_no pv kd bit lev o1 o2 x y C ax ay n1 cx m cy o3 o4 o5 o6 w L h
      have HG := Lib.hid G
      clear G
      go_wp2_with (first
        | (go_at_call 36; with_reducible refine (P1 (.pointer none) _ _ h1).mono ?_; rintro e w2 ⟨rfl, h2⟩; have h3 := h2.drop.mv 1; have GB := HG.out _ _ h2.drop; clear h1)
        | (go_at_call 36; with_reducible refine (P1 _ _ _ h3).mono ?_; rintro e w4 ⟨rfl, h4⟩)
        | (refine wpList_yw (by rfl) (exec_load75 (by rfl) (by rfl) GA) ?_)
        | (refine wpList_yw (by rfl) (exec_load75 (by rfl) (by rfl) GB) ?_))
      go_roundw
      case rel => exact ⟨k + 1, by omega, by go_num, h4⟩
      case measure => simp [intOf]; omega
    · obtain rfl : n = k := by omega
      have E := fun W => eq26 (s := ⟨0, fun _ => 0⟩) (t := ⟨0, fun _ => 0⟩) (by refine ⟨by simp, by simp, fun i hi => by simp⟩) (by refine ⟨by simp, by simp, fun i hi => by simp⟩) (v := true) (by simp [same_refl]) W
      have hq := hr.box 87 [.slice none 0 0]
      go_upto_region 11 with (fail)
      refine gen_world hq (fun w5 hq => ?_)
      generalize wr.heap.size = p at *
      have h5 := quA_close (xs := []) ((hq.nilRow 3 1).mv 1)
      clear hq hr
      have P2 := levels_ok [] p (by simp) w5 _ h5
      simp only [List.length_nil, if_true] at P2
      have P3 := fun w L h => level_ok [] (by intro i j; simp) 5 p (by simp) w L h
      have e0 : lvl [] 5 = 0 := by rfl
      rw [e0] at P3
      go_upto_region 12 with (first
        | (go_at_call 39; with_reducible refine (row_nil _ _).mono ?_; rintro e w' ⟨rfl, rfl⟩)
        | (go_at_call 39; with_reducible refine (row_un _ p _ _ h5).mono ?_; rintro e w' ⟨rfl, rfl⟩)
        | (go_at_call 33; with_reducible refine (levels_nil _).mono ?_; rintro e w' ⟨rfl, rfl⟩)
        | (go_at_call 33; with_reducible refine P2.mono ?_; rintro e w' ⟨rfl, rfl⟩)
        | (go_at_call 34; with_reducible refine (level_nil _ _ _ h5).mono ?_; rintro e w6 ⟨rfl, h6⟩)
        | (go_at_call 34; with_reducible refine (P3 _ _ h6).mono ?_; rintro e w7 ⟨rfl, h7⟩))
      have h8 := (h7.mv 1).nil_no 85 encU
      clear h5 h6 h7 P2 P3
      go_wp2_with (first
        | (go_at_call 31; with_reducible refine (cstats_no (.pointer none) _ _ h8).mono ?_; rintro e w9 ⟨rfl, h9⟩; have h10 := h9.mv 1; clear h8)
        | (go_at_call 31; with_reducible refine (cstats_no _ _ _ h10).mono ?_; rintro e w11 ⟨rfl, h11⟩; clear h10)
        | (refine wpList_yw (by rfl) (exec_agg_eql (by rfl) (by rfl) (by rfl) g26 E _) ?_)
        | (go_at_call 21; refine (knows_ok _ _ h11).mono ?_; rintro e w12 ⟨rfl, h12⟩))
      go_ret
      exact ⟨rfl, h12.drop.drop.drop⟩

end Go.Proofs.Ytklokbmpapjjiaa
