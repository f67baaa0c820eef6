/- The walk of MarkerBest: what is best, and what is found. -/
import Derived.Test.YtibmokkalloabaaMkCm
open Go.RowKit Go.Own
namespace Go.Proofs.Ytibmokkalloabaa

theorem best_max (lo : Nat) (f : Nat → Int) : ∀ k j, j < k → f j ≤ (best lo f k).2 ∧ (lo + j < (best lo f k).1 → f j < (best lo f k).2)
  | 0, j, h => by omega
  | k + 1, j, h => by
    have ih := best_max lo f k
    rw [best]
    by_cases hc : k = 0 ∨ (best lo f k).2 < f k
    · rw [if_pos hc]
      simp only
      rcases Nat.lt_or_ge j k with h1 | h1
      · have := ih j h1
        rcases hc with hc | hc
        · omega
        · exact ⟨by omega, fun _ => by omega⟩
      · obtain rfl : j = k := by omega
        exact ⟨by omega, fun h => by omega⟩
    · rw [if_neg hc]
      rcases Nat.lt_or_ge j k with h1 | h1
      · exact ih j h1
      · obtain rfl : j = k := by omega
        have hb : (best lo f j).1 < lo + j := by
          obtain ⟨i, rfl⟩ : ∃ i, j = i + 1 := ⟨j - 1, by omega⟩
          exact (best_val lo f i).2.2
        exact ⟨by omega, fun h => by omega⟩

theorem places_append (f : Nat → Int) (th : Int) (k : Nat) : ∀ d, ∃ r, places f th (k + d) = places f th k ++ r
  | 0 => ⟨[], by simp⟩
  | d + 1 => by
    obtain ⟨r, hr⟩ := places_append f th k d
    exact ⟨r ++ _, by rw [← Nat.add_assoc, places_snoc, hr, List.append_assoc]⟩
theorem places_at (f : Nat → Int) (th : Int) (k K : Nat) (hk : k < K) (h : th ≤ f k) : (places f th K)[(places f th k).length]? = some (k : Int) := by
  obtain ⟨r, hr⟩ := places_append f th (k + 1) (K - (k + 1))
  rw [show k + 1 + (K - (k + 1)) = K by omega] at hr
  rw [hr, places_snoc, if_pos h, List.append_assoc, List.getElem?_append_right (Nat.le_refl _), Nat.sub_self]
  rfl

def BstRel (lo hi : Nat) (R : List Asn) (i : Value) (wr : World) : Prop := ∃ k : Nat, k ≤ hi - lo + 1 ∧ i = .int .i64 ((lo : Int) + k) ∧ Hold wr R
def FndRel (K : Nat) (f : Nat → Int) (th th2 : Int) (R : List Asn) (p q i : Value) (wr : World) : Prop := ∃ k : Nat, k ≤ K ∧ i = .int .i64 k ∧ p = .int .i64 (places f th k).length ∧ q = .int .i64 (places f th2 k).length ∧ Hold wr R

end Go.Proofs.Ytibmokkalloabaa
