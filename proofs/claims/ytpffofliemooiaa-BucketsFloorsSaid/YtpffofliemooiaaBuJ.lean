/- The walk of BucketsFloors. -/
import Derived.Test.YtpffofliemooiaaBuI
open Go.RowKit Go.Own
namespace Go.Proofs.Ytpffofliemooiaa

theorem idx_near (a d : Int) (hd : 1 ≤ d) (h1 : -4611686018427387904 < a) (h2 : a < 4611686018427387904) : -4611686018427387904 ≤ a / d ∧ a / d ≤ 4611686018427387904 := by
  refine ⟨Int.le_ediv_of_mul_le (by omega) (by omega), ?_⟩
  have : a / d < 4611686018427387904 := Int.ediv_lt_of_lt_mul (by omega) (by omega)
  omega

set_option maxHeartbeats 1000000 in
set_option maxRecDepth 20000 in
theorem floors_walk (a b d : Int) (ha : I64 a) (hb : I64 b) (w : World) (L : List Asn) (h : Hold w L) :
    Calls Try.prog 5 #[.int .i64 a, .int .i64 b, .int .i64 d] w fun e w' => e = .returned (.bool true) ∧ Hold w' L := by
  have P1 := fun w => Index_ok a d ha w
  have P2 := fun w => Index_ok b d hb w
  unfold idxE idxV at P1 P2
  by_cases hd : d < 1 ∨ 65536 < d
  · rw [if_pos hd, if_pos hd] at P1 P2
    have hd2 : d < 1 ∨ 1 ≤ d ∧ 65536 < d := by omega
    clear hd
    rcases hd2 with hd | ⟨hd, hd2⟩
    all_goals
      go_enter Try.func5, Try.ntmps5
      go_wp2_with (first
        | (go_at_call 17; with_reducible refine (P1 _).mono ?_; rintro e w1 ⟨rfl, rfl⟩)
        | (go_at_call 17; with_reducible refine (P2 _).mono ?_; rintro e w1 ⟨rfl, rfl⟩)
        | (go_at_call 10; refine (num_any _ _).mono ?_; rintro e w2 ⟨rfl, rfl⟩)
        | (go_at_call 11; refine (live_ok _ _ h).mono ?_; rintro e w3 ⟨rfl, h3⟩))
      go_ret
      exact ⟨rfl, h3⟩
  · rw [if_neg hd, if_neg hd] at P1 P2
    have d1 : 1 ≤ d := by omega
    have d2 : d ≤ 65536 := by omega
    have hmono := fun h => idx_mono a b d d1 h
    have hbd := idx_bd a d d1
    have hnear := fun h1 h2 => idx_near a d d1 h1 h2
    obtain ⟨a1, a2⟩ := ha
    obtain ⟨b1, b2⟩ := hb
    generalize a / d = x at *
    generalize b / d = y at *
    obtain ⟨k1, k2⟩ := hbd
    have hcase : (b < a ∨ a ≤ b ∧ x ≤ y) := by
      rcases Int.lt_or_le b a with h | h
      · exact .inl h
      · exact .inr ⟨h, hmono h⟩
    have hr : (a ≤ -4611686018427387904) ∨ (-4611686018427387904 < a ∧ 4611686018427387904 ≤ a) ∨ (-4611686018427387904 < a ∧ a < 4611686018427387904 ∧ -4611686018427387904 ≤ x ∧ x ≤ 4611686018427387904) := by
      rcases Int.lt_or_le (-4611686018427387904) a with h | h
      · rcases Int.lt_or_le a 4611686018427387904 with h2 | h2
        · exact .inr (.inr ⟨h, h2, (hnear h h2).1, (hnear h h2).2⟩)
        · exact .inr (.inl ⟨h, h2⟩)
      · exact .inl h
    clear hmono hnear hd
    rcases hcase with hc | ⟨hc, hxy⟩
    all_goals
      rcases hr with hr | ⟨hr1, hr2⟩ | ⟨hr1, hr2, hr3, hr4⟩
      · go_enter Try.func5, Try.ntmps5
        go_wp2_with (first
          | (go_at_call 17; with_reducible refine (P1 _).mono ?_; rintro e w1 ⟨rfl, rfl⟩)
          | (go_at_call 17; with_reducible refine (P2 _).mono ?_; rintro e w1 ⟨rfl, rfl⟩)
          | (go_at_call 10; refine (num_any _ _).mono ?_; rintro e w2 ⟨rfl, rfl⟩)
          | (go_at_call 11; refine (live_ok _ _ h).mono ?_; rintro e w3 ⟨rfl, h3⟩))
        go_ret
        exact ⟨rfl, h3⟩
      · go_enter Try.func5, Try.ntmps5
        go_wp2_with (first
          | (go_at_call 17; with_reducible refine (P1 _).mono ?_; rintro e w1 ⟨rfl, rfl⟩)
          | (go_at_call 17; with_reducible refine (P2 _).mono ?_; rintro e w1 ⟨rfl, rfl⟩)
          | (go_at_call 10; refine (num_any _ _).mono ?_; rintro e w2 ⟨rfl, rfl⟩)
          | (go_at_call 11; refine (live_ok _ _ h).mono ?_; rintro e w3 ⟨rfl, h3⟩))
        go_ret
        exact ⟨rfl, h3⟩
      · have W1 : wrap64 (x * d) = x * d := IntWalk.wrap64_in _ ⟨by omega, by omega⟩
        have W2 : wrap64 (a - x * d) = a - x * d := IntWalk.wrap64_in _ ⟨by omega, by omega⟩
        go_enter Try.func5, Try.ntmps5
        go_wp2_with (first
          | (go_at_call 17; with_reducible refine (P1 _).mono ?_; rintro e w1 ⟨rfl, rfl⟩)
          | (go_at_call 17; with_reducible refine (P2 _).mono ?_; rintro e w1 ⟨rfl, rfl⟩)
          | (go_at_call 10; refine (num_any _ _).mono ?_; rintro e w2 ⟨rfl, rfl⟩)
          | (go_at_call 11; refine (live_ok _ _ h).mono ?_; rintro e w3 ⟨rfl, h3⟩))
        go_ret
        exact ⟨rfl, h3⟩

end Go.Proofs.Ytpffofliemooiaa
