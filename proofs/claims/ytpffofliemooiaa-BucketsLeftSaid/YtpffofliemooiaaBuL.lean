/- BucketsOrder, the plain law: what a bucket holds. -/
import Derived.Test.YtpffofliemooiaaBuK
import Derived.Test.YtpffofliemooiaaBuH
open Go.RowKit Go.Own
namespace Go.Proofs.Ytpffofliemooiaa

def tot (rows : List (List Int)) : Nat := (rows.map List.length).sum
theorem tot_set : ∀ {rows : List (List Int)} {j : Nat} {xs ys : List Int}, rows[j]? = some xs → tot (rows.set j ys) + xs.length = tot rows + ys.length
  | [], j, _, _, h => by simp at h
  | r :: rows, 0, xs, ys, h => by
    simp at h; subst h
    simp [tot]; omega
  | r :: rows, j + 1, xs, ys, h => by
    have h1 : rows[j]? = some xs := by simpa using h
    have := tot_set (ys := ys) h1
    simp [tot] at this ⊢; omega
theorem tot_pos {rows : List (List Int)} (h : 0 < tot rows) : ∃ j, j < rows.length ∧ rows.getD j [] ≠ [] := by
  induction rows with
  | nil => simp [tot] at h
  | cons r rows ih =>
    by_cases hr : r = []
    · subst hr
      have h1 : 0 < tot rows := by simpa [tot] using h
      obtain ⟨j, h2, h3⟩ := ih h1
      exact ⟨j + 1, by simp; omega, by simpa [List.getD] using h3⟩
    · exact ⟨0, by simp, by simpa [List.getD] using hr⟩

theorem tot_zero {rows : List (List Int)} (h : tot rows = 0) (k : Nat) : rows.getD k [] = [] := by
  induction rows generalizing k with
  | nil => simp [List.getD]
  | cons r rows ih =>
    simp [tot] at h
    obtain ⟨h1, h2⟩ := h
    cases k with
    | zero => simpa [List.getD] using h1
    | succ k => simpa [List.getD] using ih (by simpa [tot] using h2) k

structure Inv (ms : List Int) (i : Nat) (S : BS) : Prop where
  len : S.rows.length ≤ 65536
  total : tot S.rows = S.n
  ids : ∀ (j : Nat) (row : List Int), S.rows[j]? = some row → ∀ id ∈ row, 0 ≤ id ∧ id < i ∧ ∃ m, ms[id.toNat]? = some m ∧ S.lo ≤ m ∧ m ≤ S.hi ∧ m / S.d = j + S.base
  rise : ∀ (j : Nat) (row : List Int), S.rows[j]? = some row → row.Pairwise (· < ·)
  low : S.low < S.rows.length ∧ S.top < S.rows.length
  far : ∀ j : Nat, S.rows.getD j [] ≠ [] → S.low ≤ j ∧ j ≤ S.top

theorem inv_new (ms : List Int) (d lo hi cp : Int) (hlh : lo ≤ hi) (hd : 1 ≤ d) (hc : 1 ≤ cp) (hsz : hi / d - lo / d < 65536) : Inv ms 0 (newS d lo hi cp) := by
  have hm := idx_mono lo hi d hd hlh
  have hg : ∀ (n j : Nat) (row : List Int), (List.replicate n ([] : List Int))[j]? = some row → row = [] := by
    intro n j row h
    exact (List.mem_replicate.1 (List.mem_of_getElem? h)).2
  refine ⟨?_, ?_, ?_, ?_, ?_, ?_⟩
  · simp [newS]; omega
  · simp [newS, tot]
  · intro j row h id hid
    rw [hg _ _ _ h] at hid; simp at hid
  · intro j row h
    rw [hg _ _ _ h]; exact .nil
  · simp [newS]; omega
  · intro j h
    exfalso; apply h
    simp only [newS, List.getD]
    cases h2 : (List.replicate (hi / d - lo / d + 1).toNat ([] : List Int))[j]? with
    | none => rfl
    | some r => rw [hg _ _ _ h2]; rfl

theorem inv_add {ms : List Int} {i : Nat} {S : BS} {m : Int} {j : Nat} (H : Inv ms i S) (hm : ms[i]? = some m) (h1 : S.lo ≤ m) (h2 : m ≤ S.hi) (hj : m / S.d = j + S.base) (hjr : j < S.rows.length) : Inv ms (i + 1) (addS S j i) := by
  obtain ⟨xs, hxs⟩ : ∃ xs, S.rows[j]? = some xs := ⟨S.rows[j], List.getElem?_eq_getElem hjr⟩
  have hgd : S.rows.getD j [] = xs := by simp [List.getD, hxs]
  have hr : (addS S j i).rows = S.rows.set j (xs ++ [(i : Int)]) := by show S.rows.set j (S.rows.getD j [] ++ [(i : Int)]) = _; rw [hgd]
  have ht := tot_set (ys := xs ++ [(i : Int)]) hxs
  have hrow : ∀ (k : Nat) (row : List Int), (addS S j i).rows[k]? = some row → (k = j ∧ row = xs ++ [(i : Int)]) ∨ (S.rows[k]? = some row) := by
    intro k row h
    rw [hr, List.getElem?_set] at h
    by_cases hk : j = k
    · subst hk
      simp [hjr] at h
      exact .inl ⟨rfl, h.symm⟩
    · rw [if_neg hk] at h; exact .inr h
  refine ⟨?_, ?_, ?_, ?_, ?_, ?_⟩
  · rw [hr]; simpa using H.len
  · rw [hr]; have := H.total; simp at ht; show _ = S.n + 1; omega
  · intro k row h id hid
    rcases hrow k row h with ⟨rfl, rfl⟩ | h
    · rcases List.mem_append.1 hid with hid | hid
      · obtain ⟨a, b, c⟩ := H.ids _ _ hxs id hid
        exact ⟨a, by push_cast; omega, c⟩
      · simp at hid; subst hid
        exact ⟨by omega, by push_cast; omega, m, by simpa using hm, h1, h2, hj⟩
    · obtain ⟨a, b, c⟩ := H.ids _ _ h id hid
      exact ⟨a, by push_cast; omega, c⟩
  · intro k row h
    rcases hrow k row h with ⟨rfl, rfl⟩ | h
    · refine List.pairwise_append.2 ⟨H.rise _ _ hxs, by simp, ?_⟩
      intro a ha b hb
      simp at hb; subst hb
      exact (H.ids _ _ hxs a ha).2.1
    · exact H.rise _ _ h
  · have := H.low
    rw [hr]; simp only [addS, List.length_set]; split <;> omega
  · intro k hk
    have hz : S.n = 0 → S.rows.getD k [] = [] := fun hz => tot_zero (by rw [H.total]; exact hz) k
    have h3 : k = j ∨ S.rows.getD k [] ≠ [] := by
      by_cases hkj : k = j
      · exact .inl hkj
      · right
        rw [hr] at hk
        simpa [List.getD, List.getElem?_set, Ne.symm hkj] using hk
    simp only [addS]
    rcases h3 with rfl | h3
    · exact ⟨Nat.min_le_right _ _, Nat.le_max_right _ _⟩
    · obtain ⟨a, b⟩ := H.far k h3
      have hn : S.n ≠ 0 := fun h => h3 (hz h)
      rw [if_neg hn, if_neg hn]
      exact ⟨Nat.le_trans (Nat.min_le_left _ _) a, Nat.le_trans b (Nat.le_max_left _ _)⟩

theorem loFrom_min {rows : List (List Int)} : ∀ {f t k : Nat}, t ≤ k → k < loFrom rows f t → rows.getD k [] = []
  | 0, t, k, h1, h2 => by simp [loFrom] at h2; omega
  | f + 1, t, k, h1, h2 => by
    rw [loFrom] at h2
    by_cases h : rows.getD t [] = []
    · rw [if_pos h] at h2
      by_cases hk : k = t
      · rw [hk]; exact h
      · exact loFrom_min (by omega) h2
    · rw [if_neg h] at h2; omega
theorem hiAt_max {rows : List (List Int)} : ∀ {t k : Nat}, k ≤ t → hiAt rows t < k → rows.getD k [] = []
  | 0, k, h1, h2 => by simp [hiAt] at h2; omega
  | t + 1, k, h1, h2 => by
    rw [hiAt] at h2
    by_cases h : rows.getD (t + 1) [] = []
    · rw [if_pos h] at h2
      by_cases hk : k = t + 1
      · rw [hk]; exact h
      · exact hiAt_max (by omega) h2
    · rw [if_neg h] at h2; omega

theorem inv_sub {ms : List Int} {i : Nat} {S S2 : BS} {j : Nat} {xs ys : List Int} (H : Inv ms i S) (hxs : S.rows[j]? = some xs) (hs : ys.Sublist xs) (hl : ys.length + 1 = xs.length) (hr : S2.rows = S.rows.set j ys) (hn : S2.n = S.n - 1) (e1 : S2.lo = S.lo) (e2 : S2.hi = S.hi) (e3 : S2.d = S.d) (e4 : S2.base = S.base) (hlow : S2.low < S.rows.length ∧ S2.top < S.rows.length) (hfar : ∀ k : Nat, S.rows.getD k [] ≠ [] → S2.low ≤ k ∧ k ≤ S2.top) : Inv ms i S2 := by
  have hjr : j < S.rows.length := by
    rcases Nat.lt_or_ge j S.rows.length with h | h
    · exact h
    · rw [List.getElem?_eq_none h] at hxs; simp at hxs
  have ht := tot_set (ys := ys) hxs
  have hrow : ∀ (k : Nat) (row : List Int), S2.rows[k]? = some row → (k = j ∧ row = ys) ∨ (S.rows[k]? = some row) := by
    intro k row h
    rw [hr, List.getElem?_set] at h
    by_cases hk : j = k
    · subst hk
      simp [hjr] at h
      exact .inl ⟨rfl, h.symm⟩
    · rw [if_neg hk] at h; exact .inr h
  refine ⟨by rw [hr]; simpa using H.len, by rw [hr, hn]; have := H.total; omega, ?_, ?_, by rw [hr]; simpa using hlow, ?_⟩
  · intro k row h id hid
    rw [e1, e2, e3, e4]
    rcases hrow k row h with ⟨rfl, rfl⟩ | h
    · exact H.ids _ _ hxs id (hs.subset hid)
    · exact H.ids _ _ h id hid
  · intro k row h
    rcases hrow k row h with ⟨rfl, rfl⟩ | h
    · exact (H.rise _ _ hxs).sublist hs
    · exact H.rise _ _ h
  · intro k hk
    apply hfar
    intro h0
    apply hk
    rw [hr]
    by_cases hkj : k = j
    · subst hkj
      have : xs = [] := by simpa [List.getD, hxs] using h0
      rw [this] at hl; simp at hl
    · simpa [List.getD, List.getElem?_set, Ne.symm hkj] using h0

theorem inv_cut {ms : List Int} {i : Nat} {S : BS} (H : Inv ms i S) (hn : 0 < S.n) : Inv ms i (cutS S) := by
  obtain ⟨j, hj1, hj2⟩ := tot_pos (by rw [H.total]; exact hn)
  obtain ⟨hq1, hq2⟩ := loAt_spec ⟨j, (H.far j hj2).1, hj1, hj2⟩
  obtain ⟨xs, hxs⟩ : ∃ xs, S.rows[loAt S.rows S.low]? = some xs := ⟨_, List.getElem?_eq_getElem hq1⟩
  have hgd : S.rows.getD (loAt S.rows S.low) [] = xs := by simp [List.getD, hxs]
  have hne : xs ≠ [] := by rw [hgd] at hq2; exact hq2
  have hlen := List.length_pos_iff.2 hne
  refine inv_sub (ys := xs.tail) H hxs (List.tail_sublist xs) (by simp; omega) (by simp only [cutS, hgd]) rfl rfl rfl rfl rfl ⟨hq1, H.low.2⟩ ?_
  intro k hk
  refine ⟨?_, (H.far k hk).2⟩
  show loAt S.rows S.low ≤ k
  rcases Nat.lt_or_ge k (loAt S.rows S.low) with h | h
  · exact absurd (loFrom_min (H.far k hk).1 h) hk
  · exact h
theorem inv_pop {ms : List Int} {i : Nat} {S : BS} (H : Inv ms i S) (hn : 0 < S.n) : Inv ms i (popS S) := by
  obtain ⟨j, hj1, hj2⟩ := tot_pos (by rw [H.total]; exact hn)
  obtain ⟨hq1, hq2⟩ := hiAt_spec ⟨j, (H.far j hj2).2, hj2⟩
  have hq3 : hiAt S.rows S.top < S.rows.length := Nat.lt_of_le_of_lt hq1 H.low.2
  obtain ⟨xs, hxs⟩ : ∃ xs, S.rows[hiAt S.rows S.top]? = some xs := ⟨_, List.getElem?_eq_getElem hq3⟩
  have hgd : S.rows.getD (hiAt S.rows S.top) [] = xs := by simp [List.getD, hxs]
  have hne : xs ≠ [] := by rw [hgd] at hq2; exact hq2
  have hlen := List.length_pos_iff.2 hne
  refine inv_sub (ys := xs.dropLast) H hxs (List.dropLast_sublist xs) (by simp; omega) (by simp only [popS, hgd]) rfl rfl rfl rfl rfl ⟨H.low.1, hq3⟩ ?_
  intro k hk
  refine ⟨(H.far k hk).1, ?_⟩
  show k ≤ hiAt S.rows S.top
  rcases Nat.lt_or_ge (hiAt S.rows S.top) k with h | h
  · exact absurd (hiAt_max (H.far k hk).2 h) hk
  · exact h

end Go.Proofs.Ytpffofliemooiaa
