/- Plain laws on statistics that are fine: merged, made coarse, turned round. -/
import Derived.Test.YtklokbmpapjjiaaStR
import Derived.Test.YtklokbmpapjjiaaStP
open Go.RowKit Go.Own
namespace Go.Proofs.Ytklokbmpapjjiaa

theorem sumTo_pos {c : Nat → Nat} {k r : Nat} (hr : r < k) (h : c r ≠ 0) : sumTo c k ≠ 0 := by
  induction k with
  | zero => omega
  | succ k ih =>
    simp only [sumTo]
    by_cases e : r = k
    · subst e; omega
    · have := ih (by omega); omega
theorem sumTo_ex {c : Nat → Nat} {k : Nat} (h : sumTo c k ≠ 0) : ∃ r, r < k ∧ c r ≠ 0 := by
  induction k with
  | zero => simp [sumTo] at h
  | succ k ih =>
    simp only [sumTo] at h
    by_cases e : c k = 0
    · obtain ⟨r, h1, h2⟩ := ih (by omega); exact ⟨r, by omega, h2⟩
    · exact ⟨k, by omega, e⟩
theorem sumTo_congr {c d : Nat → Nat} {k : Nat} (h : ∀ r, r < k → c r = d r) : sumTo c k = sumTo d k := by
  induction k with
  | zero => rfl
  | succ k ih => simp only [sumTo]; rw [ih (fun r hr => h r (by omega)), h k (by omega)]
theorem sumTo_add (c d : Nat → Nat) (k : Nat) : sumTo (fun i => c i + d i) k = sumTo c k + sumTo d k := by
  induction k with
  | zero => rfl
  | succ k ih => simp only [sumTo, ih]; omega
theorem sumTo_head (c : Nat → Nat) (k : Nat) : sumTo c (k + 1) = c 0 + sumTo (fun r => c (r + 1)) k := by
  induction k with
  | zero => simp [sumTo]
  | succ k ih => rw [sumTo, ih]; simp only [sumTo]; omega
theorem sumTo_rev (c : Nat → Nat) (k : Nat) : sumTo (fun r => c (k - 1 - r)) k = sumTo c k := by
  induction k with
  | zero => rfl
  | succ k ih =>
    rw [sumTo_head]
    simp only [sumTo]
    rw [← ih]
    have : sumTo (fun r => c (k + 1 - 1 - (r + 1))) k = sumTo (fun r => c (k - 1 - r)) k := sumTo_congr fun r hr => by congr 1; omega
    rw [this]
    simp; omega

theorem check_of {s : SV} (h1 : 2 ≤ s.lv) (h2 : s.lv ≤ 16) (hb : ∀ r, r < 16 → badAt s r = false) {r q : Nat} (hr : r < 16) (h3 : s.c r ≠ 0) (hq : q < 16) (h4 : s.c (16 + q) ≠ 0) : check s = 0 := by
  rw [check_end (by omega) hb, if_neg]
  intro h
  rcases h with h | h
  · exact sumTo_pos hr h3 h
  · exact sumTo_pos (c := ones s.c) hq h4 h

/-- Statistics that are fine. -/
structure Fine (s : SV) (m : Nat) : Prop where
  lv : s.lv = (m : Int)
  lo : 2 ≤ m
  hi : m ≤ 16
  le : ∀ i, i < 32 → s.c i ≤ 2000
  above : ∀ i, i < 32 → m ≤ i % 16 → s.c i = 0
  one : ∀ r, r < m → 1 ≤ s.c (16 + r)
  zero : 1 ≤ s.c 0

theorem Fine.ok {s : SV} {m : Nat} (h : Fine s m) : s.ok := by
  have := h.lv; have := h.lo; have := h.hi
  exact ⟨by omega, by omega, fun i hi => by have := h.le i hi; omega⟩

theorem Fine.check {s : SV} {m : Nat} (h : Fine s m) : Go.Proofs.Ytklokbmpapjjiaa.check s = 0 := by
  have h1 := h.lv
  have h2 := h.lo
  have h3 := h.hi
  refine check_of (by omega) (by omega) (fun r hr => good_of ?_) (r := 0) (q := 0) (by omega) (by have := h.zero; omega) (by omega) (by have := h.one 0 (by omega); omega)
  have a1 := h.le r (by omega)
  have a2 := h.le (16 + r) (by omega)
  by_cases hrm : r < m
  · have := h.one r hrm; omega
  · have b1 := h.above r (by omega) (by omega)
    have b2 := h.above (16 + r) (by omega) (by omega)
    omega

theorem Fine.tot {s : SV} {m : Nat} (h : Fine s m) : totA s = sumTo s.c m ∧ totB s = sumTo (ones s.c) m ∧ totA s ≤ 32000 ∧ totB s ≤ 32000 := by
  have hm : s.lv.toNat = m := by have := h.lv; omega
  have h3 := h.hi
  rw [totA, totB, if_pos h.check, if_pos h.check, hm]
  have e1 : sumTo s.c m ≤ m * 2000 := sumTo_le fun r hr => h.le r (by omega)
  have e2 : sumTo (ones s.c) m ≤ m * 2000 := sumTo_le fun r hr => h.le (16 + r) (by omega)
  exact ⟨rfl, rfl, by omega, by omega⟩

theorem good_fine (x : SV) : Fine (goodV x) (goodM x.lv) := by
  obtain ⟨h1, h2⟩ := goodM_le x.lv
  refine ⟨rfl, h1, h2, fun i _ => goodC_le _ _ _, fun i hi hm => ?_, fun r hr => ?_, ?_⟩
  · show goodC _ _ _ = 0
    unfold goodC upd goodK
    rw [if_neg (by omega), if_neg (by omega)]
  · show 1 ≤ goodC _ _ _
    unfold goodC upd goodK
    rw [if_neg (by omega), if_pos (by omega), if_neg (by omega)]
    omega
  · show 1 ≤ goodC x.c (goodM x.lv) 0
    unfold goodC upd
    rw [if_pos rfl]; omega

/-- Two fine ones merged. -/
theorem Fine.merge {s t : SV} {m : Nat} (h : Fine s m) (k : Fine t m) : mrgE s t = 0 ∧ mrgV s t = ⟨m, fun i => s.c i + t.c i⟩ ∧ Go.Proofs.Ytklokbmpapjjiaa.check (mrgV s t) = 0 ∧ totA (mrgV s t) = totA s + totA t ∧ totB (mrgV s t) = totB s + totB t := by
  have ho := over_false (c := s.c) (d := t.c) (fun i hi => by have := h.le i hi; have := k.le i hi; omega)
  obtain ⟨e1, e2⟩ := mrg_4 h.check k.check (by rw [h.lv, k.lv]) ho
  rw [h.lv] at e2
  have hm : ((m : Int)).toNat = m := by omega
  have hlo := h.lo
  have hhi := h.hi
  have hc : Go.Proofs.Ytklokbmpapjjiaa.check (⟨m, fun i => s.c i + t.c i⟩ : SV) = 0 := by
    refine check_of (by show 2 ≤ (m : Int); omega) (by show (m : Int) ≤ 16; omega) (fun r hr => good_of ?_) (r := 0) (q := 0) (by omega) (by have := h.zero; show s.c 0 + t.c 0 ≠ 0; omega) (by omega) (by have := h.one 0 (by omega); show s.c (16 + 0) + t.c (16 + 0) ≠ 0; omega)
    simp only
    have a1 := h.le r (by omega)
    have a2 := h.le (16 + r) (by omega)
    have b1 := k.le r (by omega)
    have b2 := k.le (16 + r) (by omega)
    by_cases hrm : r < m
    · have := h.one r hrm; omega
    · have := h.above r (by omega) (by omega)
      have := h.above (16 + r) (by omega) (by omega)
      have := k.above r (by omega) (by omega)
      have := k.above (16 + r) (by omega) (by omega)
      omega
  refine ⟨e1, e2, by rw [e2]; exact hc, ?_, ?_⟩
  · rw [e2, totA, if_pos hc, h.tot.1, k.tot.1]
    simp only [hm]
    exact sumTo_add s.c t.c m
  · rw [e2, totB, if_pos hc, h.tot.2.1, k.tot.2.1]
    simp only [hm]
    exact sumTo_add (ones s.c) (ones t.c) m

theorem sum_pairs (c : Nat → Nat) (k : Nat) : sumTo (fun r => c (2 * r) + c (2 * r + 1)) k = sumTo c (2 * k) := by
  induction k with
  | zero => rfl
  | succ k ih =>
    rw [show 2 * (k + 1) = 2 * k + 1 + 1 from by omega]
    simp only [sumTo, ih]; omega

/-- A fine one made coarse: nobody is lost. -/
theorem Fine.coarse {s : SV} {m : Nat} (h : Fine s m) (h2 : m % 2 = 0) (h3 : m ≠ 2) : coaE s = 0 ∧ coaV s = ⟨(m / 2 : Nat), coaC s.c (m / 2)⟩ ∧ Go.Proofs.Ytklokbmpapjjiaa.check (coaV s) = 0 ∧ totA (coaV s) = totA s ∧ totB (coaV s) = totB s := by
  have hm : s.lv.toNat = m := by have := h.lv; omega
  have hlo := h.lo
  have hhi := h.hi
  have ho := overC_false (c := s.c) (h := m / 2) (fun i hi hh => by
    have := h.le (16 * (i / 16) + 2 * (i % 16)) (by omega)
    have := h.le (16 * (i / 16) + 2 * (i % 16) + 1) (by omega)
    unfold pairC; omega)
  obtain ⟨e1, e2⟩ := coa_4 h.check (by rw [h.lv]; omega) (by rw [hm]; exact ho)
  rw [hm] at e2
  have hh : ((m / 2 : Nat) : Int).toNat = m / 2 := by omega
  have p0 : ∀ r, r < m / 2 → coaC s.c (m / 2) r = s.c (2 * r) + s.c (2 * r + 1) := fun r hr => by
    unfold coaC pairC; rw [if_pos (by omega)]; congr 2 <;> omega
  have p1 : ∀ r, r < m / 2 → coaC s.c (m / 2) (16 + r) = ones s.c (2 * r) + ones s.c (2 * r + 1) := fun r hr => by
    unfold coaC pairC ones; rw [if_pos (by omega)]; congr 2 <;> omega
  have hc : Go.Proofs.Ytklokbmpapjjiaa.check (⟨(m / 2 : Nat), coaC s.c (m / 2)⟩ : SV) = 0 := by
    refine check_of (by show 2 ≤ ((m / 2 : Nat) : Int); omega) (by show ((m / 2 : Nat) : Int) ≤ 16; omega) (fun r hr => good_of ?_) (r := 0) (q := 0) (by omega) ?_ (by omega) ?_
    · simp only
      by_cases hrm : r < m / 2
      · rw [p0 r hrm, p1 r hrm]
        have := h.le (2 * r) (by omega)
        have := h.le (2 * r + 1) (by omega)
        have := h.le (16 + 2 * r) (by omega)
        have := h.le (16 + (2 * r + 1)) (by omega)
        have := h.one (2 * r) (by omega)
        simp only [ones]
        omega
      · have q0 : coaC s.c (m / 2) r = 0 := by unfold coaC; rw [if_neg (by omega)]
        have q1 : coaC s.c (m / 2) (16 + r) = 0 := by unfold coaC; rw [if_neg (by omega)]
        rw [q0, q1]; omega
    · show coaC s.c (m / 2) 0 ≠ 0
      rw [p0 0 (by omega)]; have := h.zero; simp only [Nat.mul_zero]; omega
    · show coaC s.c (m / 2) (16 + 0) ≠ 0
      rw [p1 0 (by omega)]; have := h.one 0 (by omega); simp only [ones, Nat.mul_zero]; omega
  refine ⟨e1, e2, by rw [e2]; exact hc, ?_, ?_⟩
  · rw [e2, totA, if_pos hc, h.tot.1]
    simp only [hh]
    rw [sumTo_congr p0, sum_pairs, show 2 * (m / 2) = m from by omega]
  · rw [e2, totB, if_pos hc, h.tot.2.1]
    simp only [hh]
    have : sumTo (ones (coaC s.c (m / 2))) (m / 2) = sumTo (fun r => ones s.c (2 * r) + ones s.c (2 * r + 1)) (m / 2) := sumTo_congr p1
    rw [this, sum_pairs, show 2 * (m / 2) = m from by omega]

theorem Fine.coarse_no {s : SV} {m : Nat} (h : Fine s m) (h2 : m % 2 ≠ 0 ∨ m = 2) : coaE s = 5 ∧ coaV s = ⟨0, fun _ => 0⟩ :=
  coa_of (coa_2 h.check (by rw [h.lv]; omega)) (by omega)

/-- A mirror of a fine one. -/
theorem mirC_row {c : Nat → Nat} {m r : Nat} (hr : r < m) (hm : m ≤ 16) : mirC c m m r = c (16 + (m - 1 - r)) ∧ mirC c m m (16 + r) = c (m - 1 - r) := by
  unfold mirC
  rw [if_pos (by omega), if_pos hr, if_neg (by omega), if_pos (by omega)]
  exact ⟨rfl, by congr 1; omega⟩
theorem mirC_above {c : Nat → Nat} {m i : Nat} (hi : i < 32) (hm : m ≤ i % 16) : mirC c m m i = 0 := by
  unfold mirC
  split
  · rw [if_neg (by omega)]
  · rw [if_neg (by omega)]

theorem mir_check {s : SV} (h : check s = 0) : check (mir s) = 0 ∧ totA (mir s) = totB s ∧ totB (mir s) = totA s ∧ same (mir (mir s)) s ∧ (∀ i, i < 32 → (mir s).c i ≤ 4095) := by
  obtain ⟨h1, h2, h3, h4, h5⟩ := check_zero h
  obtain ⟨m, hm⟩ : ∃ m : Nat, m = s.lv.toNat := ⟨_, rfl⟩
  have hl : s.lv = m := by omega
  have hM : mir s = ⟨m, mirC s.c m m⟩ := by rw [mir, ← hm, hl]
  have hmm : ((m : Int)).toNat = m := by omega
  have hrow : ∀ r, r < m → s.c r ≤ 4095 ∧ s.c (16 + r) ≤ 4095 ∧ ¬ (s.c r = 0 ∧ s.c (16 + r) = 0) := fun r hr => by
    have := good_at (h3 r (by omega)); omega
  have hz : ∀ r, r < 16 → m ≤ r → s.c r = 0 ∧ s.c (16 + r) = 0 := fun r hr hmr => (good_at (h3 r hr)).2.2.1 (by omega)
  obtain ⟨r0, a1, a2⟩ := sumTo_ex h4
  obtain ⟨r1, b1, b2⟩ := sumTo_ex h5
  have hr0 : r0 < m := by
    rcases Nat.lt_or_ge r0 m with h | h
    · exact h
    · exact absurd (hz r0 a1 h).1 a2
  have hr1 : r1 < m := by
    rcases Nat.lt_or_ge r1 m with h | h
    · exact h
    · exact absurd (hz r1 b1 h).2 b2
  have hc : check (⟨m, mirC s.c m m⟩ : SV) = 0 := by
    refine check_of (by show 2 ≤ (m : Int); omega) (by show (m : Int) ≤ 16; omega) (fun r hr => good_of ?_) (r := m - 1 - r1) (q := m - 1 - r0) (by omega) ?_ (by omega) ?_
    · simp only
      by_cases hrm : r < m
      · obtain ⟨e1, e2⟩ := mirC_row (c := s.c) hrm (by omega)
        rw [e1, e2]
        have := hrow (m - 1 - r) (by omega)
        omega
      · rw [mirC_above (by omega) (by omega), mirC_above (by omega) (by omega)]; omega
    · show mirC s.c m m (m - 1 - r1) ≠ 0
      rw [(mirC_row (c := s.c) (r := m - 1 - r1) (by omega) (by omega)).1, show m - 1 - (m - 1 - r1) = r1 from by omega]
      exact b2
    · show mirC s.c m m (16 + (m - 1 - r0)) ≠ 0
      rw [(mirC_row (c := s.c) (r := m - 1 - r0) (by omega) (by omega)).2, show m - 1 - (m - 1 - r0) = r0 from by omega]
      exact a2
  refine ⟨by rw [hM]; exact hc, ?_, ?_, ?_, ?_⟩
  · rw [hM, totA, if_pos hc, totB, if_pos h, ← hm]
    simp only [hmm]
    rw [← sumTo_rev (ones s.c) m]
    exact sumTo_congr fun r hr => (mirC_row hr (by omega)).1
  · rw [hM, totB, if_pos hc, totA, if_pos h, ← hm]
    simp only [hmm]
    rw [← sumTo_rev s.c m]
    exact sumTo_congr fun r hr => (mirC_row hr (by omega)).2
  · have hMM : mir (mir s) = ⟨m, mirC (mirC s.c m m) m m⟩ := by rw [hM, mir]; simp only [hmm]
    rw [hMM]
    refine ⟨hl.symm, fun i hi => ?_⟩
    show mirC (mirC s.c m m) m m i = s.c i
    by_cases him : i % 16 < m
    · by_cases h16 : i < 16
      · rw [(mirC_row (c := mirC s.c m m) (r := i) (by omega) (by omega)).1, (mirC_row (c := s.c) (r := m - 1 - i) (by omega) (by omega)).2]
        congr 1; omega
      · obtain ⟨r, rfl⟩ : ∃ r, i = 16 + r := ⟨i - 16, by omega⟩
        rw [(mirC_row (c := mirC s.c m m) (r := r) (by omega) (by omega)).2, (mirC_row (c := s.c) (r := m - 1 - r) (by omega) (by omega)).1]
        congr 1; omega
    · rw [mirC_above hi (by omega)]
      by_cases h16 : i < 16
      · exact ((hz i h16 (by omega)).1).symm
      · have := (hz (i - 16) (by omega) (by omega)).2
        rw [show 16 + (i - 16) = i from by omega] at this
        exact this.symm
  · intro i hi
    rw [hM]
    show mirC s.c m m i ≤ 4095
    by_cases him : i % 16 < m
    · by_cases h16 : i < 16
      · rw [(mirC_row (c := s.c) (r := i) (by omega) (by omega)).1]; exact (hrow _ (by omega)).2.1
      · obtain ⟨r, rfl⟩ : ∃ r, i = 16 + r := ⟨i - 16, by omega⟩
        rw [(mirC_row (c := s.c) (r := r) (by omega) (by omega)).2]; exact (hrow _ (by omega)).1
    · rw [mirC_above hi (by omega)]; omega

end Go.Proofs.Ytklokbmpapjjiaa
