/- Contracts: a row of buckets filled, emptied. -/
import Derived.Test.YtpffofliemooiaaBuG
import Derived.Test.YtpffofliemooiaaBuH
open Go.RowKit Go.Own
namespace Go.Proofs.Ytpffofliemooiaa

def s0 : BS := newS 4 (-20) 20 2
def s1 : BS := addS s0 6 1
def s2 : BS := addS s1 6 2
def s3 : BS := cutS (addS s2 4 3)
theorem s_base (t : Nat) (h : t < 11) : I64 ((t : Int) + (-5)) := by unfold I64; omega

set_option maxRecDepth 20000 in
theorem live_ok (w : World) (L : List Asn) (h : Hold w L) : Calls Try.prog 11 #[] w fun e w' => e = .returned (.bool true) ∧ Hold w' L := by
  have P0 := new_good 4 (-20) 20 2 (by omega) (by omega) (by unfold I64; omega) (by unfold I64; omega) (by omega) (by omega) (by omega) (by decide) w L h
  have P1 := fun b w h => put_ok b s0 (by decide) 5 1 (by unfold I64; omega) (by decide) (by decide) (by decide) 6 (by decide) (by decide) (by decide) (by decide) (by decide) (by decide) (by decide) w L h
  have P2 := fun b w h => put_ok b s1 (by decide) 7 2 (by unfold I64; omega) (by decide) (by decide) (by decide) 6 (by decide) (by decide) (by decide) (by decide) (by decide) (by decide) (by decide) w L h
  have P3 := fun b w h => put_drop b s2 (by decide) (-3) 3 (by unfold I64; omega) (by decide) (by decide) (by decide) 4 (by decide) (by decide) (by decide) (by decide) (by decide) (by decide) (by decide) (by decide) ⟨4, by decide, by decide, by decide⟩ (fun t ht => s_base t ht) (by unfold I64; decide) w L h
  have P4 := fun b w h => pop_ok b s3 (by decide) (by decide) (by decide) (by decide) ⟨6, by decide, by decide⟩ (by decide) (fun t ht => s_base t ht) (by unfold I64; decide) (by decide) w L h
  have P5 := fun b w h => mark_ok b (popS s3) (by decide) w L h
  have P6 := fun b w h => len_ok b (popS s3) (by decide) w L h
  have e3 : outS (addS s2 4 3) = 3 := by rfl
  have e4 : popV s3 = 2 := by rfl
  have e5 : ((hiAt s3.rows s3.top : Nat) : Int) + s3.base = 1 := by rfl
  have e6 : (popS s3).mark = -1 := by rfl
  have e7 : (popS s3).marked = true := by rfl
  have e8 : (popS s3).n = 1 := by rfl
  rw [e3] at P3
  rw [e4, e5] at P4
  rw [e6, e7] at P5
  rw [e8] at P6
  clear e3 e4 e5 e6 e7 e8
  go_enter Try.func11, Try.ntmps11
  go_upto_region 4 with (first
    | (go_at_call 9; refine P0.mono ?_; rintro e w1 ⟨b, rfl, h1⟩)
    | (go_at_call 10; refine (num_any _ _).mono ?_; rintro e w2 ⟨rfl, rfl⟩))
  go_upto_region 5 with (go_at_call 12; refine (P1 b _ h1).mono ?_; rintro e w2 ⟨rfl, h2⟩)
  go_upto_region 6 with (go_at_call 12; refine (P2 b _ h2).mono ?_; rintro e w3 ⟨rfl, h3⟩)
  go_upto_region 7 with (go_at_call 12; refine (P3 b _ h3).mono ?_; rintro e w4 ⟨rfl, h4⟩)
  go_upto_region 8 with (go_at_call 16; refine (P4 b _ h4).mono ?_; rintro e w5 ⟨rfl, h5⟩)
  go_upto_region 9 with (go_at_call 28; refine (P5 b _ h5).mono ?_; rintro e w6 ⟨rfl, h6⟩)
  go_wp2_with (first
    | (go_at_call 10; refine (num_any _ _).mono ?_; rintro e w2 ⟨rfl, rfl⟩)
    | (go_at_call 15; refine (P6 b _ h6).mono ?_; rintro e w7 ⟨rfl, rfl⟩))
  go_ret
  exact ⟨rfl, h6.drop⟩

theorem indexes_walk (m d : Int) (hm : I64 m) (w : World) (L : List Asn) (h : Hold w L) : Calls Try.prog 4 #[.int .i64 m, .int .i64 d] w fun e w' => e = .returned (.bool true) ∧ Hold w' L := by
  have P1 := fun w => Index_ok m d hm w
  have P2 := fun w => rIndex_ok m d hm w
  generalize idxV m d = v at *
  generalize idxE d = c at *
  go_enter Try.func4, Try.ntmps4
  go_wp2_with (first
    | (go_at_call 17; refine (P1 _).mono ?_; rintro e w1 ⟨rfl, rfl⟩)
    | (go_at_call 14; refine (P2 _).mono ?_; rintro e w1 ⟨rfl, rfl⟩)
    | (go_at_call 10; refine (num_any _ _).mono ?_; rintro e w2 ⟨rfl, rfl⟩)
    | (go_at_call 11; refine (live_ok _ _ h).mono ?_; rintro e w3 ⟨rfl, h3⟩))
  go_ret
  exact ⟨rfl, h3⟩

end Go.Proofs.Ytpffofliemooiaa
