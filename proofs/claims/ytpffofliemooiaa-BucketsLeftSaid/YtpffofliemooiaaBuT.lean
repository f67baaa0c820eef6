/- Buckets and the reference's list: plain law. -/
import Derived.Test.YtpffofliemooiaaBuM
import Derived.Test.YtpffofliemooiaaBuS
open Go.RowKit Go.Own
namespace Go.Proofs.Ytpffofliemooiaa

/-! ### What is always so of buckets. -/
structure Good (S : BS) : Prop where
  len : S.rows.length ≤ 65536
  total : tot S.rows = S.n
  low : S.low < S.rows.length ∧ S.top < S.rows.length
  far : ∀ j : Nat, S.rows.getD j [] ≠ [] → S.low ≤ j ∧ j ≤ S.top

theorem good_new (d lo hi cp : Int) (hlh : lo ≤ hi) (hd : 1 ≤ d) (hc : 1 ≤ cp) (hsz : hi / d - lo / d < 65536) : Good (newS d lo hi cp) :=
  let H := inv_new [] d lo hi cp hlh hd hc hsz
  ⟨H.len, H.total, H.low, H.far⟩
theorem Good.holds {S : BS} (H : Good S) (hn : 0 < S.n) : (S.low ≤ S.top ∧ S.top < S.rows.length) ∧ (∃ j, S.low ≤ j ∧ j < S.rows.length ∧ S.rows.getD j [] ≠ []) ∧ (∃ j, j ≤ S.top ∧ S.rows.getD j [] ≠ []) := by
  obtain ⟨j, h1, h2⟩ := tot_pos (by rw [H.total]; exact hn)
  obtain ⟨a, b⟩ := H.far j h2
  exact ⟨⟨by omega, H.low.2⟩, ⟨j, a, h1, h2⟩, ⟨j, b, h2⟩⟩
theorem Good.short {S : BS} (H : Good S) {c : Nat} (hc : S.n ≤ c) : ∀ xs ∈ S.rows, xs.length ≤ c := by
  intro xs hx
  have := tot_mem hx
  rw [H.total] at this; omega
theorem good_add {S : BS} {j : Nat} (id : Int) (H : Good S) (hjr : j < S.rows.length) : Good (addS S j id) := by
  obtain ⟨xs, hxs⟩ : ∃ xs, S.rows[j]? = some xs := ⟨S.rows[j], List.getElem?_eq_getElem hjr⟩
  have hgd : S.rows.getD j [] = xs := by simp [List.getD, hxs]
  have hr : (addS S j id).rows = S.rows.set j (xs ++ [id]) := by show S.rows.set j (S.rows.getD j [] ++ [id]) = _; rw [hgd]
  have ht := tot_set (ys := xs ++ [id]) hxs
  refine ⟨?_, ?_, ?_, ?_⟩
  · rw [hr]; simpa using H.len
  · rw [hr]; have := H.total; simp at ht; show _ = S.n + 1; omega
  · have := H.low
    rw [hr]; simp only [addS, List.length_set]; split <;> omega
  · intro k hk
    have hz : S.n = 0 → S.rows.getD k [] = [] := fun hz => tot_zero (by rw [H.total]; exact hz) k
    have h3 : k = j ∨ S.rows.getD k [] ≠ [] := by
      by_cases hkj : k = j
      · exact .inl hkj
      · right
        rw [hr] at hk
        simpa [List.getD, List.getElem?_set, Ne.symm hkj] using hk
    simp only [addS]
    rcases h3 with rfl | h3
    · exact ⟨Nat.min_le_right _ _, Nat.le_max_right _ _⟩
    · obtain ⟨a, b⟩ := H.far k h3
      have hn : S.n ≠ 0 := fun h => h3 (hz h)
      rw [if_neg hn, if_neg hn]
      exact ⟨Nat.le_trans (Nat.min_le_left _ _) a, Nat.le_trans b (Nat.le_max_left _ _)⟩
theorem good_sub {S S2 : BS} {j : Nat} {xs ys : List Int} (H : Good S) (hxs : S.rows[j]? = some xs) (hl : ys.length + 1 = xs.length) (hr : S2.rows = S.rows.set j ys) (hn : S2.n = S.n - 1) (hlow : S2.low < S.rows.length ∧ S2.top < S.rows.length) (hfar : ∀ k : Nat, S.rows.getD k [] ≠ [] → S2.low ≤ k ∧ k ≤ S2.top) : Good S2 := by
  have ht := tot_set (ys := ys) hxs
  refine ⟨by rw [hr]; simpa using H.len, by rw [hr, hn]; have := H.total; omega, by rw [hr]; simpa using hlow, ?_⟩
  intro k hk
  apply hfar
  intro h0
  apply hk
  rw [hr]
  by_cases hkj : k = j
  · subst hkj
    have : xs = [] := by simpa [List.getD, hxs] using h0
    rw [this] at hl; simp at hl
  · simpa [List.getD, List.getElem?_set, Ne.symm hkj] using h0

/-- The lowest row that holds something: its place, its first number and the others. -/
theorem Good.lowRow {S : BS} (H : Good S) (hn : 0 < S.n) : ∃ y yt, S.rows[loAt S.rows S.low]? = some (y :: yt) ∧ outS S = y ∧ (cutS S).rows = S.rows.set (loAt S.rows S.low) yt ∧ ∀ k, k < loAt S.rows S.low → S.rows.getD k [] = [] := by
  obtain ⟨s1, s2, s3⟩ := H.holds hn
  obtain ⟨hq1, hq2⟩ := loAt_spec s2
  obtain ⟨xs, hxs⟩ : ∃ xs, S.rows[loAt S.rows S.low]? = some xs := ⟨_, List.getElem?_eq_getElem hq1⟩
  have hgd : S.rows.getD (loAt S.rows S.low) [] = xs := by simp [List.getD, hxs]
  rw [hgd] at hq2
  obtain ⟨y, yt, rfl⟩ : ∃ y yt, xs = y :: yt := by cases xs with
    | nil => exact absurd rfl hq2
    | cons y yt => exact ⟨y, yt, rfl⟩
  refine ⟨y, yt, hxs, by unfold outS; rw [hgd]; rfl, by simp only [cutS, hgd]; rfl, fun k hk => ?_⟩
  by_cases h : S.rows.getD k [] = []
  · exact h
  · exact loFrom_min (H.far k h).1 hk
theorem good_cut {S : BS} (H : Good S) (hn : 0 < S.n) : Good (cutS S) := by
  obtain ⟨y, yt, h1, -, h3, h4⟩ := H.lowRow hn
  have hq : loAt S.rows S.low < S.rows.length := (List.getElem?_eq_some_iff.1 h1).1
  refine good_sub (ys := yt) H h1 rfl h3 rfl ⟨hq, H.low.2⟩ fun k hk => ⟨?_, (H.far k hk).2⟩
  show loAt S.rows S.low ≤ k
  rcases Nat.lt_or_ge k (loAt S.rows S.low) with h | h
  · exact absurd (h4 k h) hk
  · exact h
theorem Good.highRow {S : BS} (H : Good S) (hn : 0 < S.n) : ∃ ys y, S.rows[hiAt S.rows S.top]? = some (ys ++ [y]) ∧ popV S = y ∧ (popS S).rows = S.rows.set (hiAt S.rows S.top) ys ∧ ∀ k, hiAt S.rows S.top < k → S.rows.getD k [] = [] := by
  obtain ⟨s1, s2, s3⟩ := H.holds hn
  obtain ⟨hq1, hq2⟩ := hiAt_spec s3
  have hq3 : hiAt S.rows S.top < S.rows.length := Nat.lt_of_le_of_lt hq1 H.low.2
  obtain ⟨xs, hxs⟩ : ∃ xs, S.rows[hiAt S.rows S.top]? = some xs := ⟨_, List.getElem?_eq_getElem hq3⟩
  have hgd : S.rows.getD (hiAt S.rows S.top) [] = xs := by simp [List.getD, hxs]
  rw [hgd] at hq2
  obtain ⟨ys, y, rfl⟩ : ∃ ys y, xs = ys ++ [y] := ⟨xs.dropLast, xs.getLast hq2, (List.dropLast_concat_getLast hq2).symm⟩
  refine ⟨ys, y, hxs, by unfold popV; rw [hgd]; simp, by simp only [popS, hgd]; simp, fun k hk => ?_⟩
  by_cases h : S.rows.getD k [] = []
  · exact h
  · exact hiAt_max (H.far k h).2 hk
theorem good_pop {S : BS} (H : Good S) (hn : 0 < S.n) : Good (popS S) := by
  obtain ⟨ys, y, h1, -, h3, h4⟩ := H.highRow hn
  have hq : hiAt S.rows S.top < S.rows.length := (List.getElem?_eq_some_iff.1 h1).1
  refine good_sub (ys := ys) H h1 (by simp) h3 rfl ⟨H.low.1, hq⟩ fun k hk => ⟨(H.far k hk).1, ?_⟩
  show k ≤ hiAt S.rows S.top
  rcases Nat.lt_or_ge (hiAt S.rows S.top) k with h | h
  · exact absurd (h4 k h) hk
  · exact h
theorem good_low {S : BS} (H : Good S) (hn : 0 < S.n) : Good { S with low := loAt S.rows S.low } := by
  obtain ⟨y, yt, h1, -, -, h4⟩ := H.lowRow hn
  have hq : loAt S.rows S.low < S.rows.length := (List.getElem?_eq_some_iff.1 h1).1
  refine ⟨H.len, H.total, ⟨hq, H.low.2⟩, fun k hk => ⟨?_, (H.far k hk).2⟩⟩
  rcases Nat.lt_or_ge k (loAt S.rows S.low) with h | h
  · exact absurd (h4 k h) hk
  · exact h
theorem good_top {S : BS} (H : Good S) (hn : 0 < S.n) : Good { S with top := hiAt S.rows S.top } := by
  obtain ⟨ys, y, h1, -, -, h4⟩ := H.highRow hn
  have hq : hiAt S.rows S.top < S.rows.length := (List.getElem?_eq_some_iff.1 h1).1
  refine ⟨H.len, H.total, ⟨H.low.1, hq⟩, fun k hk => ⟨(H.far k hk).1, ?_⟩⟩
  rcases Nat.lt_or_ge (hiAt S.rows S.top) k with h | h
  · exact absurd (h4 k h) hk
  · exact h

/-! ### The reference's list. -/
structure RS where
  d : Int
  lo : Int
  hi : Int
  cp : Int
  L : List (Int × Int)
  marked : Bool
  high : Int

/-- The numbers of one bucket, the oldest first. -/
def idsOf (L : List (Int × Int)) (v : Int) : List Int := (L.filter fun e => e.1 == v).map (·.2)
theorem idsOf_append (A C : List (Int × Int)) (v : Int) : idsOf (A ++ C) v = idsOf A v ++ idsOf C v := by simp [idsOf]
theorem idsOf_cons (x : Int × Int) (C : List (Int × Int)) (v : Int) : idsOf (x :: C) v = (if x.1 = v then [x.2] else []) ++ idsOf C v := by
  unfold idsOf
  by_cases h : x.1 = v <;> simp [h]
theorem idsOf_none {A : List (Int × Int)} {v : Int} (h : ∀ e ∈ A, e.1 ≠ v) : idsOf A v = [] := by
  unfold idsOf
  rw [List.filter_eq_nil_iff.2 (fun e he => by simpa using h e he)]; rfl
def bk (L : List (Int × Int)) (j : Nat) : Int := (L.getD j (0, 0)).1
def IsBest (L : List (Int × Int)) (k : Nat) : Prop := k < L.length ∧ ∀ j, j < L.length → bk L j ≤ bk L k ∧ (k < j → bk L j < bk L k)
def IsLow (L : List (Int × Int)) (k : Nat) : Prop := k < L.length ∧ ∀ j, j < L.length → bk L k ≤ bk L j ∧ (j < k → bk L k < bk L j)
/-- L before, at and behind place k. -/
theorem parts {L : List (Int × Int)} {k : Nat} (hk : k < L.length) : ∃ A x C, L = A ++ x :: C ∧ A.length = k ∧ L[k]? = some x ∧ bk L k = x.1 ∧ L.eraseIdx k = A ++ C := by
  refine ⟨L.take k, L[k], L.drop (k + 1), ?_, by simp; omega, List.getElem?_eq_getElem hk, by simp [bk, List.getD, hk], List.eraseIdx_eq_take_drop_succ ..⟩
  rw [List.getElem_cons_drop, List.take_append_drop]
theorem bk_mem {L : List (Int × Int)} {A C : List (Int × Int)} {x : Int × Int} (h : L = A ++ x :: C) {e : Int × Int} : (e ∈ A → ∃ j, j < A.length ∧ bk L j = e.1) ∧ (e ∈ C → ∃ j, A.length < j ∧ j < L.length ∧ bk L j = e.1) := by
  subst h
  constructor
  · intro he
    obtain ⟨j, hj, rfl⟩ := List.getElem_of_mem he
    exact ⟨j, hj, by simp [bk, List.getD, List.getElem?_append, hj]⟩
  · intro he
    obtain ⟨j, hj, rfl⟩ := List.getElem_of_mem he
    refine ⟨A.length + 1 + j, by omega, by simp; omega, ?_⟩
    have : ¬ A.length + 1 + j < A.length := by omega
    simp [bk, List.getD, List.getElem?_append, this, show A.length + 1 + j - A.length = j + 1 by omega, hj]
/-- The rows of K buckets from base on are L's. -/
structure RowsOf (base : Int) (rows : List (List Int)) (L : List (Int × Int)) : Prop where
  at_ : ∀ j : Nat, j < rows.length → rows.getD j [] = idsOf L ((j : Int) + base)
  in_ : ∀ e ∈ L, ∃ j : Nat, j < rows.length ∧ e.1 = (j : Int) + base

theorem rows_add {base : Int} {rows : List (List Int)} {L : List (Int × Int)} (H : RowsOf base rows L) {j : Nat} (hj : j < rows.length) (id : Int) : RowsOf base (rows.set j (rows.getD j [] ++ [id])) (L ++ [((j : Int) + base, id)]) := by
  refine ⟨fun k hk => ?_, fun e he => ?_⟩
  · simp at hk
    rw [idsOf_append, idsOf_cons, ← H.at_ k hk]
    by_cases h : j = k
    · subst h
      simp [List.getD, hj, idsOf]
    · have h2 : ¬ (j : Int) + base = (k : Int) + base := by omega
      simp [List.getD, h, h2, idsOf]
  · rcases List.mem_append.1 he with he | he
    · obtain ⟨k, h1, h2⟩ := H.in_ e he
      exact ⟨k, by simpa using h1, h2⟩
    · simp at he; subst he
      exact ⟨j, by simpa using hj, rfl⟩
/-- x leaves; the row of its bucket is ys then. -/
theorem rows_cut {base : Int} {rows : List (List Int)} {L A C : List (Int × Int)} {x : Int × Int} (H : RowsOf base rows L) (h : L = A ++ x :: C) {q : Nat} (hq : q < rows.length) (hx : x.1 = (q : Int) + base) {ys : List Int} (hy : ys = idsOf A x.1 ++ idsOf C x.1) : RowsOf base (rows.set q ys) (A ++ C) := by
  subst h
  refine ⟨fun k hk => ?_, fun e he => ?_⟩
  · simp at hk
    by_cases hqk : q = k
    · subst hqk
      rw [idsOf_append, ← hx, ← hy]
      simp [List.getD, hq]
    · have h2 : ¬ x.1 = (k : Int) + base := by omega
      have h3 := H.at_ k hk
      rw [idsOf_append, idsOf_cons, if_neg h2] at h3
      rw [idsOf_append]
      simpa [List.getD, hqk] using h3
  · obtain ⟨k, h1, h2⟩ := H.in_ e (by rcases List.mem_append.1 he with h | h <;> simp [h])
    exact ⟨k, by simpa using h1, h2⟩
theorem rows_low {base : Int} {rows : List (List Int)} {L : List (Int × Int)} (H : RowsOf base rows L) {k : Nat} (hk : IsLow L k) {q : Nat} {y : Int} {yt : List Int} (hq : rows[q]? = some (y :: yt)) (hlow : ∀ j, j < q → rows.getD j [] = []) :
    L[k]? = some ((q : Int) + base, y) ∧ RowsOf base (rows.set q yt) (L.eraseIdx k) := by
  obtain ⟨A, x, C, hL, hA, hx, hb, he⟩ := parts hk.1
  have hql : q < rows.length := (List.getElem?_eq_some_iff.1 hq).1
  have hgd : rows.getD q [] = y :: yt := by simp [List.getD, hq]
  obtain ⟨i, hi, hxi⟩ := H.in_ x (by rw [hL]; simp)
  -- x's bucket is q's
  have hiq : i = q := by
    rcases Nat.lt_trichotomy i q with h | h | h
    · have h1 := hlow i h
      rw [H.at_ i hi, hL, idsOf_append, idsOf_cons, if_pos hxi] at h1
      simp at h1
    · exact h
    · exfalso
      have h1 := H.at_ q hql
      rw [hgd] at h1
      obtain ⟨e, he1, he2⟩ : ∃ e ∈ L, e.1 = (q : Int) + base := by
        by_cases hn : ∃ e ∈ L, e.1 = (q : Int) + base
        · exact hn
        · rw [idsOf_none (fun e he h => hn ⟨e, he, h⟩)] at h1; simp at h1
      obtain ⟨j, hj, hje⟩ := List.getElem_of_mem he1
      have h2 := (hk.2 j hj).1
      have h3 : bk L j = e.1 := by simp [bk, List.getD, hj, hje]
      rw [h3, hb, he2, hxi] at h2; omega
  subst hiq
  have hA0 : idsOf A x.1 = [] := idsOf_none (fun e he h => by
    obtain ⟨j, hj, hbj⟩ := (bk_mem hL).1 he
    have := (hk.2 j (by rw [hL]; simp; omega)).2 (by omega)
    rw [hbj, hb, h] at this; omega)
  have h1 := H.at_ i hi
  rw [hgd, hL, idsOf_append, idsOf_cons, if_pos hxi, ← hxi, hA0] at h1
  simp at h1
  obtain ⟨h1, h2⟩ := h1
  refine ⟨by rw [hx, h1, ← hxi], ?_⟩
  rw [he]
  exact rows_cut H hL hi hxi (by rw [hA0, h2]; rfl)
theorem rows_best {base : Int} {rows : List (List Int)} {L : List (Int × Int)} (H : RowsOf base rows L) {k : Nat} (hk : IsBest L k) {q : Nat} {y : Int} {ys : List Int} (hq : rows[q]? = some (ys ++ [y])) (hhigh : ∀ j, q < j → rows.getD j [] = []) :
    L[k]? = some ((q : Int) + base, y) ∧ RowsOf base (rows.set q ys) (L.eraseIdx k) := by
  obtain ⟨A, x, C, hL, hA, hx, hb, he⟩ := parts hk.1
  have hql : q < rows.length := (List.getElem?_eq_some_iff.1 hq).1
  have hgd : rows.getD q [] = ys ++ [y] := by simp [List.getD, hq]
  obtain ⟨i, hi, hxi⟩ := H.in_ x (by rw [hL]; simp)
  have hiq : i = q := by
    rcases Nat.lt_trichotomy q i with h | h | h
    · have h1 := hhigh i h
      rw [H.at_ i hi, hL, idsOf_append, idsOf_cons, if_pos hxi] at h1
      simp at h1
    · exact h.symm
    · exfalso
      have h1 := H.at_ q hql
      rw [hgd] at h1
      obtain ⟨e, he1, he2⟩ : ∃ e ∈ L, e.1 = (q : Int) + base := by
        by_cases hn : ∃ e ∈ L, e.1 = (q : Int) + base
        · exact hn
        · rw [idsOf_none (fun e he h => hn ⟨e, he, h⟩)] at h1; simp at h1
      obtain ⟨j, hj, hje⟩ := List.getElem_of_mem he1
      have h2 := (hk.2 j hj).1
      have h3 : bk L j = e.1 := by simp [bk, List.getD, hj, hje]
      rw [h3, hb, he2, hxi] at h2; omega
  subst hiq
  have hC0 : idsOf C x.1 = [] := idsOf_none (fun e he h => by
    obtain ⟨j, hj, hj2, hbj⟩ := (bk_mem hL).2 he
    have := (hk.2 j hj2).2 (by omega)
    rw [hbj, hb, h] at this; omega)
  have h1 := H.at_ i hi
  rw [hgd, hL, idsOf_append, idsOf_cons, if_pos hxi, ← hxi, hC0, List.append_nil] at h1
  have h2 := List.append_inj' h1 rfl
  obtain ⟨h2, h3⟩ := h2
  simp at h3
  refine ⟨by rw [hx, h3, ← hxi], ?_⟩
  rw [he]
  exact rows_cut H hL hi hxi (by rw [hC0, h2]; simp)

/-! ### What All goes over. -/
def allTo (base : Int) (rows : List (List Int)) : Nat → List (Int × Int)
  | 0 => []
  | k + 1 => ((rows.getD k []).reverse.map fun id => ((k : Int) + base, id)) ++ allTo base rows k
theorem allTo_set {base : Int} {rows : List (List Int)} {q : Nat} {ys : List Int} : ∀ {K : Nat}, K ≤ q → allTo base (rows.set q ys) K = allTo base rows K
  | 0, _ => rfl
  | K + 1, h => by
    have h2 : ¬ q = K := by omega
    rw [allTo, allTo, allTo_set (by omega)]
    simp [List.getD, h2]
theorem allTo_pop {base : Int} {rows : List (List Int)} {q : Nat} {ys : List Int} {y : Int} (hq : rows[q]? = some (ys ++ [y])) (hhigh : ∀ j, q < j → rows.getD j [] = []) : ∀ {K : Nat}, q < K → allTo base rows K = ((q : Int) + base, y) :: allTo base (rows.set q ys) K
  | 0, h => by omega
  | K + 1, h => by
    have hql : q < rows.length := (List.getElem?_eq_some_iff.1 hq).1
    by_cases hqK : q = K
    · subst hqK
      have h1 : rows.getD q [] = ys ++ [y] := by simp [List.getD, hq]
      have h2 : (rows.set q ys).getD q [] = ys := by simp [List.getD, hql]
      rw [allTo, allTo, h1, h2, allTo_set (Nat.le_refl _)]
      simp
    · have h1 := hhigh K (by omega)
      have h2 : (rows.set q ys).getD K [] = [] := by
        have : (rows.set q ys).getD K [] = rows.getD K [] := by simp [List.getD, hqK]
        rw [this, h1]
      rw [allTo, allTo, h1, h2, allTo_pop hq hhigh (by omega)]
      simp
theorem allTo_nil {base : Int} {rows : List (List Int)} (h : ∀ j, rows.getD j [] = []) : ∀ K, allTo base rows K = []
  | 0 => rfl
  | K + 1 => by rw [allTo, h K, allTo_nil h K]; rfl
/-- out: L's entries as they would be popped. -/
inductive AllOf : List (Int × Int) → List (Int × Int) → Prop
  | nil : AllOf [] []
  | cons {L out : List (Int × Int)} {k : Nat} {x : Int × Int} (hk : IsBest L k) (hx : L[k]? = some x) (h : AllOf (L.eraseIdx k) out) : AllOf L (x :: out)
theorem highest_row (rows : List (List Int)) : (∀ j, rows.getD j [] = []) ∨ ∃ q ys y, rows[q]? = some (ys ++ [y]) ∧ ∀ j, q < j → rows.getD j [] = [] := by
  have key : ∀ K, (∀ j, K ≤ j → rows.getD j [] = []) → (∀ j, rows.getD j [] = []) ∨ ∃ q ys y, rows[q]? = some (ys ++ [y]) ∧ ∀ j, q < j → rows.getD j [] = [] := by
    intro K
    induction K with
    | zero => intro h; exact .inl (fun j => h j (Nat.zero_le _))
    | succ K ih =>
      intro h
      by_cases hK : rows.getD K [] = []
      · refine ih (fun j hj => ?_)
        by_cases e : j = K
        · rw [e]; exact hK
        · exact h j (by omega)
      · right
        have hl : K < rows.length := by
          rcases Nat.lt_or_ge K rows.length with h | h
          · exact h
          · exact absurd (by simp [List.getD, h]) hK
        have hne : rows[K] ≠ [] := by simpa [List.getD, hl] using hK
        exact ⟨K, rows[K].dropLast, rows[K].getLast hne, by rw [List.dropLast_concat_getLast hne]; exact List.getElem?_eq_getElem hl, fun j hj => h j hj⟩
  exact key rows.length (fun j hj => by simp [List.getD, hj])
theorem all_same {base : Int} {L out : List (Int × Int)} (h : AllOf L out) : ∀ {rows : List (List Int)}, RowsOf base rows L → out = allTo base rows rows.length := by
  induction h with
  | nil =>
    intro rows H
    refine (allTo_nil (fun j => ?_) _).symm
    rcases Nat.lt_or_ge j rows.length with hj | hj
    · rw [H.at_ j hj]; rfl
    · simp [List.getD, hj]
  | cons hk hx _ ih =>
    rename_i L out k x _
    intro rows H
    rcases highest_row rows with h0 | ⟨q, ys, y, hq, hh⟩
    · exfalso
      obtain ⟨i, hi, hxi⟩ := H.in_ x (List.mem_of_getElem? hx)
      have h1 := h0 i
      obtain ⟨A, z, C, hL, -, hz, -, -⟩ := parts hk.1
      obtain rfl : z = x := by rw [hx] at hz; exact (Option.some.inj hz).symm
      rw [H.at_ i hi, hL, idsOf_append, idsOf_cons, if_pos hxi] at h1
      simp at h1
    · obtain ⟨h1, h2⟩ := rows_best H hk hq hh
      rw [hx] at h1
      have h3 := ih h2
      have hql : q < rows.length := (List.getElem?_eq_some_iff.1 hq).1
      rw [allTo_pop hq hh hql, Option.some.inj h1, h3, List.length_set]
theorem allOf_length {L out : List (Int × Int)} (h : AllOf L out) : out.length = L.length := by
  induction h with
  | nil => rfl
  | cons hk _ _ ih => rw [List.length_cons, ih, List.length_eraseIdx_of_lt hk.1]; have := hk.1; omega

/-! ### Both. -/
structure Rel (S : BS) (T : RS) : Prop where
  d : T.d = S.d
  lo : T.lo = S.lo
  hi : T.hi = S.hi
  cp : T.cp = S.cp
  marked : T.marked = S.marked
  high : T.high = S.mark
  rows : RowsOf S.base S.rows T.L
  n : T.L.length = S.n

theorem rel_new (d lo hi cp : Int) : Rel (newS d lo hi cp) ⟨d, lo, hi, cp, [], false, 0⟩ := by
  refine ⟨rfl, rfl, rfl, rfl, rfl, rfl, ⟨fun j _ => ?_, fun e he => (by simp at he)⟩, rfl⟩
  simp only [newS, List.getD, List.getElem?_replicate]
  split <;> rfl
theorem rel_add {S : BS} {T : RS} (H : Rel S T) {j : Nat} (hj : j < S.rows.length) (id : Int) : Rel (addS S j id) { T with L := T.L ++ [((j : Int) + S.base, id)] } :=
  ⟨H.d, H.lo, H.hi, H.cp, H.marked, H.high, rows_add H.rows hj id, by simp [addS, H.n]⟩
theorem rel_cut {S : BS} {T : RS} (H : Rel S T) (G : Good S) (hn : 0 < S.n) {k : Nat} (hk : IsLow T.L k) : ∃ q : Nat, q = loAt S.rows S.low ∧ T.L[k]? = some ((q : Int) + S.base, outS S) ∧ Rel (cutS S) { T with L := T.L.eraseIdx k, marked := true, high := if T.marked = false ∨ T.high < (q : Int) + S.base then (q : Int) + S.base else T.high } := by
  obtain ⟨y, yt, h1, h2, h3, h4⟩ := G.lowRow hn
  obtain ⟨h5, h6⟩ := rows_low H.rows hk h1 h4
  refine ⟨_, rfl, by rw [h2]; exact h5, H.d, H.lo, H.hi, H.cp, rfl, ?_, by rw [h3]; exact h6, ?_⟩
  · show (if T.marked = false ∨ _ then _ else _) = (cutS S).mark
    rw [H.marked, H.high]; rfl
  · show (T.L.eraseIdx k).length = S.n - 1
    rw [List.length_eraseIdx_of_lt hk.1, H.n]
theorem rel_pop {S : BS} {T : RS} (H : Rel S T) (G : Good S) (hn : 0 < S.n) {k : Nat} (hk : IsBest T.L k) : T.L[k]? = some ((hiAt S.rows S.top : Nat) + S.base, popV S) ∧ Rel (popS S) { T with L := T.L.eraseIdx k } := by
  obtain ⟨ys, y, h1, h2, h3, h4⟩ := G.highRow hn
  obtain ⟨h5, h6⟩ := rows_best H.rows hk h1 h4
  refine ⟨by rw [h2]; exact h5, H.d, H.lo, H.hi, H.cp, H.marked, H.high, by rw [h3]; exact h6, ?_⟩
  show (T.L.eraseIdx k).length = S.n - 1
  rw [List.length_eraseIdx_of_lt hk.1, H.n]
theorem rel_lowBk {S : BS} {T : RS} (H : Rel S T) (G : Good S) (hn : 0 < S.n) {k : Nat} (hk : IsLow T.L k) : bk T.L k = (loAt S.rows S.low : Nat) + S.base := by
  obtain ⟨q, rfl, h1, -⟩ := rel_cut H G hn hk
  simp [bk, List.getD, h1]
theorem rel_same {S S2 : BS} {T : RS} (H : Rel S T) (e : S2 = { S with low := S2.low, top := S2.top }) : Rel S2 T := by
  rw [e]
  exact ⟨H.d, H.lo, H.hi, H.cp, H.marked, H.high, H.rows, H.n⟩
theorem rel_size {S : BS} {T : RS} (H : Rel S T) (j : Nat) (hj : j < S.rows.length) : (T.L.filter fun e => e.1 == (j : Int) + S.base).length = (S.rows.getD j []).length := by
  rw [H.rows.at_ j hj]; simp [idsOf]
theorem rel_size0 {S : BS} {T : RS} (H : Rel S T) {v : Int} (hv : v < S.base ∨ (S.rows.length : Int) ≤ v - S.base) : (T.L.filter fun e => e.1 == v).length = 0 := by
  rw [List.length_eq_zero_iff, List.filter_eq_nil_iff]
  intro e he
  obtain ⟨j, hj, h2⟩ := H.rows.in_ e he
  simp; omega
end Go.Proofs.Ytpffofliemooiaa
