/- The bucket of a metric: plain law. -/
import Derived.Test.YtpffofliemooiaaProg
import Derived.Test.YtpffofliemooiaaAgg
import Derived.Test.YtpffofliemooiaaRegion3
import Derived.Test.YtpffofliemooiaaStar
open Go.RowKit Go.Own
namespace Go.Proofs.Ytpffofliemooiaa

theorem tdiv_floor (m d : Int) (hd : 1 ≤ d) : (if m.tmod d < 0 then m.tdiv d - 1 else m.tdiv d) = m / d := by
  rcases Int.lt_or_le m 0 with hm | hm
  · have e := Int.tdiv_eq_ediv (a := m) (b := d)
    have e2 := Int.tmod_eq_emod (a := m) (b := d)
    by_cases hx : d ∣ m
    · obtain ⟨k, rfl⟩ := hx
      rw [Int.mul_tmod_right, if_neg (by omega), Int.mul_tdiv_cancel_left _ (by omega), Int.mul_ediv_cancel_left _ (by omega)]
    · have hs : d.sign = 1 := Int.sign_eq_one_of_pos (by omega)
      have h3 : ¬ (0 ≤ m ∨ d ∣ m) := by simp [hx]; omega
      rw [if_neg h3, hs] at e
      have h4 : 0 ≤ m % d ∧ m % d < d := ⟨Int.emod_nonneg _ (by omega), Int.emod_lt_of_pos _ (by omega)⟩
      have h5 : m.tmod d < 0 := by
        rw [if_neg h3] at e2
        have : (d.natAbs : Int) = d := by omega
        omega
      rw [if_pos h5, e]; omega
  · have h2 : 0 ≤ m.tmod d := Int.tmod_nonneg _ hm
    rw [if_neg (by omega), Int.tdiv_eq_ediv_of_nonneg hm]
theorem idx_mono (a b d : Int) (hd : 1 ≤ d) (h : a ≤ b) : a / d ≤ b / d := Int.ediv_le_ediv (by omega) h
theorem idx_bd (m d : Int) (hd : 1 ≤ d) : m / d * d ≤ m ∧ m - m / d * d < d := by
  have h1 := Int.mul_ediv_self_le (x := m) (k := d) (by omega)
  have h2 := Int.lt_mul_ediv_self_add (x := m) (k := d) (by omega)
  rw [Int.mul_comm] at h1 h2
  omega

end Go.Proofs.Ytpffofliemooiaa
