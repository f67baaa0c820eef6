/- A sender comes round: the plain law. -/
import Derived.Test.YtjnjbmkkfkdhcaaSeA
namespace Go.Proofs.Ytjnjbmkkfkdhcaa

def mark (met : List Bool) : Option Nat → List Bool
  | none => met
  | some d => met.set d true
theorem mark_length (met : List Bool) (o : Option Nat) : (mark met o).length = met.length := by cases o <;> simp [mark]
theorem mark_keep {met : List Bool} {j : Nat} (h : met[j]? = some true) (o : Option Nat) : (mark met o)[j]? = some true := by
  cases o with
  | none => exact h
  | some d =>
    simp only [mark, List.getElem?_set]
    split
    · split
      · rfl
      · rename_i h1 h2; subst h1
        rw [List.getElem?_eq_none (by omega)] at h; simp at h
    · exact h
theorem mark_new {met : List Bool} {d : Nat} (h : d < met.length) : (mark met (some d))[d]? = some true := by
  simp [mark, h]

theorem tick_same (S : SS) : (tickS S).base = S.base ∧ (tickS S).L = S.L ∧ (tickS S).window = S.window ∧ (tickS S).timeout = S.timeout ∧ (tickS S).fin = S.fin ∧ (tickS S).store = S.store ∧ (tickS S).top = S.top := by
  unfold tickS
  split
  · split <;> exact ⟨rfl, rfl, rfl, rfl, rfl, rfl, rfl⟩
  · exact ⟨rfl, rfl, rfl, rfl, rfl, rfl, rfl⟩
theorem slot_same (S : SS) : (slotS S).base = S.base ∧ (slotS S).L = S.L ∧ (slotS S).window = S.window ∧ (slotS S).timeout = S.timeout ∧ (slotS S).fin = S.fin ∧ (slotS S).store = S.store := by
  obtain ⟨a, b, c, d, e, f, _⟩ := tick_same S
  unfold slotS
  split
  · exact ⟨a, b, c, d, e, f⟩
  · exact ⟨a, b, c, d, e, f⟩

def r0 (S : SS) : Nat := if S.base = S.next then 0 else S.timeout - S.timer - 1

structure RoundP (S0 S : SS) (i : Nat) (met : List Bool) : Prop where
  si : SI S
  base : S.base = S0.base
  L : S.L = S0.L
  window : S.window = S0.window
  timeout : S.timeout = S0.timeout
  len : met.length = S0.L.length
  a : i ≤ r0 S0 → (S.base = S.next ∧ r0 S0 = 0) ∨ (S.base < S.next ∧ S.timer + (r0 S0 - i) + 1 = S.timeout)
  b : r0 S0 < i → met[0]? = some true
  c : r0 S0 < i → i - r0 S0 ≤ S.timeout → S.next - S.base = min (i - r0 S0) (min S.L.length S.window) ∧ S.timer = i - r0 S0 - 1
  d : S.window ≤ S.timeout → ∀ j, j < min (i - r0 S0) (min S.L.length S.window) → met[j]? = some true

theorem RoundP.start {S : SS} (H : SI S) : RoundP S S 0 (List.replicate S.L.length false) := by
  refine ⟨H, rfl, rfl, rfl, rfl, by simp, fun _ => ?_, fun h => by omega, fun h => by omega, fun _ j hj => by omega⟩
  have h1 := H.bn
  have h2 := H.tl
  unfold r0
  by_cases h : S.base = S.next
  · exact .inl ⟨h, by rw [if_pos h]⟩
  · rw [if_neg h]; exact .inr ⟨by omega, by omega⟩

theorem RoundP.step {S0 S : SS} {i : Nat} {met : List Bool} (H : RoundP S0 S i met) (hk : 0 < S0.L.length) : RoundP S0 (slotS S) (i + 1) (mark met (sentD S)) := by
  obtain ⟨si, e1, e2, e3, e4, e5, ha, hb, hc, hd⟩ := H
  obtain ⟨k1, k2, k3, k4, k5, k6⟩ := slot_same S
  have hfin := si.fin
  have hw1 := si.w1
  have ht1 := si.t1
  have hbn := si.bn
  have htl := si.tl
  have hL : S.L.length = S0.L.length := by rw [e2]
  -- what one slot does
  have fresh : (S.base = S.next ∨ (S.base < S.next ∧ S.timer + 1 = S.timeout)) → sentD S = some 0 ∧ (slotS S).next - (slotS S).base = 1 ∧ (slotS S).timer = 0 := by
    intro h
    have ht : (tickS S).next = S.base ∧ (tickS S).timer = 0 := by
      unfold tickS
      rcases h with h | ⟨h1, h2⟩
      · rw [if_neg (by omega)]; exact ⟨h.symm, si.rest h⟩
      · rw [if_pos h1, if_pos h2]; exact ⟨rfl, rfl⟩
    obtain ⟨t1, t2, t3, t4, t5, t6, t7⟩ := tick_same S
    have hr : ready (tickS S) = true := by
      simp only [ready, decide_eq_true_eq, ht.1, t1, t3, t5]; omega
    have hs : slotS S = goS (tickS S) := by unfold slotS; rw [if_pos hr]
    refine ⟨by unfold sentD; rw [if_pos hr, ht.1, t1]; simp, ?_, ?_⟩
    · rw [hs]; simp only [goS]; rw [ht.1, t1]; omega
    · rw [hs]; exact ht.2
  have later : S.base < S.next → S.timer + 1 < S.timeout → (slotS S).timer = S.timer + 1 ∧ S.next ≤ (slotS S).next ∧ (S.next < S.fin ∧ S.next - S.base < S.window → sentD S = some (S.next - S.base) ∧ (slotS S).next = S.next + 1) ∧ (¬ (S.next < S.fin ∧ S.next - S.base < S.window) → (slotS S).next = S.next) := by
    intro h1 h2
    have ht : tickS S = { S with timer := S.timer + 1 } := by
      unfold tickS; rw [if_pos h1, if_neg (by omega)]
    have hr : ready (tickS S) = decide (S.next < S.fin ∧ S.next - S.base < S.window) := by rw [ht]; rfl
    by_cases h : S.next < S.fin ∧ S.next - S.base < S.window
    · have hr2 : ready (tickS S) = true := by rw [hr]; exact decide_eq_true h
      have hs : slotS S = goS (tickS S) := by unfold slotS; rw [if_pos hr2]
      rw [hs]
      refine ⟨by rw [ht]; rfl, by rw [ht]; simp [goS], fun _ => ⟨by unfold sentD; rw [if_pos hr2, ht], by rw [ht]; rfl⟩, fun hn => absurd h hn⟩
    · have hr2 : ready (tickS S) = false := by rw [hr]; exact decide_eq_false h
      have hs : slotS S = tickS S := by unfold slotS; rw [hr2]; rfl
      rw [hs, ht]
      exact ⟨rfl, Nat.le_refl _, fun hy => absurd hy h, fun _ => rfl⟩
  refine ⟨si.slot, by rw [k1, e1], by rw [k2, e2], by rw [k3, e3], by rw [k4, e4], by rw [mark_length, e5], ?_, ?_, ?_, ?_⟩
  · intro h
    rcases ha (by omega) with ⟨_, h2⟩ | ⟨h1, h2⟩
    · omega
    · obtain ⟨l1, l2, -, -⟩ := later h1 (by omega)
      exact .inr ⟨by omega, by omega⟩
  · intro h
    by_cases hi : r0 S0 < i
    · exact mark_keep (hb hi) _
    · have hi2 : i = r0 S0 := by omega
      have hf := fresh (by
        rcases ha (by omega) with ⟨h1, _⟩ | ⟨h1, h2⟩
        · exact .inl h1
        · exact .inr ⟨h1, by omega⟩)
      rw [hf.1]
      exact mark_new (by omega)
  · intro h hle
    rw [k4] at hle
    rw [k2, k3]
    by_cases hi : r0 S0 < i
    · obtain ⟨c1, c2⟩ := hc hi (by omega)
      obtain ⟨l1, l2, l3, l4⟩ := later (by omega) (by omega)
      by_cases hy : S.next < S.fin ∧ S.next - S.base < S.window
      · obtain ⟨-, l5⟩ := l3 hy
        exact ⟨by omega, by omega⟩
      · have l5 := l4 hy
        exact ⟨by omega, by omega⟩
    · have hi2 : i = r0 S0 := by omega
      obtain ⟨-, f2, f3⟩ := fresh (by
        rcases ha (by omega) with ⟨h1, _⟩ | ⟨h1, h2⟩
        · exact .inl h1
        · exact .inr ⟨h1, by omega⟩)
      exact ⟨by omega, by omega⟩
  · intro hwt j hj
    rw [k2, k3] at hj
    rw [k3, k4] at hwt
    by_cases hi : r0 S0 < i
    · by_cases hj2 : j < min (i - r0 S0) (min S.L.length S.window)
      · exact mark_keep (hd hwt j hj2) _
      · obtain ⟨c1, c2⟩ := hc hi (by omega)
        obtain ⟨l1, l2, l3, l4⟩ := later (by omega) (by omega)
        obtain ⟨l5, -⟩ := l3 ⟨by omega, by omega⟩
        rw [l5, show S.next - S.base = j by omega]
        exact mark_new (by omega)
    · have hi2 : i = r0 S0 := by omega
      obtain ⟨f1, -, -⟩ := fresh (by
        rcases ha (by omega) with ⟨h1, _⟩ | ⟨h1, h2⟩
        · exact .inl h1
        · exact .inr ⟨h1, by omega⟩)
      rw [f1, show j = 0 by omega]
      exact mark_new (by omega)
theorem r0_lt {S : SS} (H : SI S) : r0 S < S.timeout := by
  have := H.t1
  unfold r0; split <;> omega

end Go.Proofs.Ytjnjbmkkfkdhcaa
