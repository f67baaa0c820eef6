/- Put, Lowest, Len, Pop under the invariant. -/
import Derived.Test.YtpffofliemooiaaBuL
open Go.RowKit Go.Own
namespace Go.Proofs.Ytpffofliemooiaa

/-- The shape that no call changes. -/
structure Fit (d lo hi cp : Int) (S : BS) : Prop where
  d1 : 1 ≤ d
  d2 : d ≤ 65536
  lh : lo ≤ hi
  lo64 : I64 lo
  hi64 : I64 hi
  c1 : 1 ≤ cp
  c2 : cp ≤ 65536
  sz : hi / d - lo / d < 65536
  ed : S.d = d
  el : S.lo = lo
  eh : S.hi = hi
  ec : S.cp = cp
  eb : S.base = lo / d
  er : (S.rows.length : Int) = hi / d - lo / d + 1

theorem fit_new {d lo hi cp : Int} (d1 : 1 ≤ d) (d2 : d ≤ 65536) (lh : lo ≤ hi) (lo64 : I64 lo) (hi64 : I64 hi) (c1 : 1 ≤ cp) (c2 : cp ≤ 65536) (sz : hi / d - lo / d < 65536) : Fit d lo hi cp (newS d lo hi cp) := by
  have hm := idx_mono lo hi d d1 lh
  exact ⟨d1, d2, lh, lo64, hi64, c1, c2, sz, rfl, rfl, rfl, rfl, rfl, by simp [newS]; omega⟩
theorem Fit.same {d lo hi cp : Int} {S S2 : BS} (F : Fit d lo hi cp S) (ed : S2.d = S.d) (el : S2.lo = S.lo) (eh : S2.hi = S.hi) (ec : S2.cp = S.cp) (eb : S2.base = S.base) (er : S2.rows.length = S.rows.length) : Fit d lo hi cp S2 :=
  ⟨F.d1, F.d2, F.lh, F.lo64, F.hi64, F.c1, F.c2, F.sz, by rw [ed, F.ed], by rw [el, F.el], by rw [eh, F.eh], by rw [ec, F.ec], by rw [eb, F.eb], by rw [er, F.er]⟩
theorem Fit.add {d lo hi cp : Int} {S : BS} (F : Fit d lo hi cp S) (j : Nat) (id : Int) : Fit d lo hi cp (addS S j id) := F.same rfl rfl rfl rfl rfl (by simp [addS])
theorem Fit.cut {d lo hi cp : Int} {S : BS} (F : Fit d lo hi cp S) : Fit d lo hi cp (cutS S) := F.same rfl rfl rfl rfl rfl (by simp [cutS])
theorem Fit.pop {d lo hi cp : Int} {S : BS} (F : Fit d lo hi cp S) : Fit d lo hi cp (popS S) := F.same rfl rfl rfl rfl rfl (by simp [popS])
theorem Fit.b64 {d lo hi cp : Int} {S : BS} (F : Fit d lo hi cp S) : I64 S.base := by rw [F.eb]; exact idx_I64 F.lo64 F.d1
theorem Fit.t64 {d lo hi cp : Int} {S : BS} (F : Fit d lo hi cp S) : ∀ t : Nat, t < S.rows.length → I64 ((t : Int) + S.base) := by
  intro t ht
  have a := idx_I64 F.lo64 F.d1
  have b := idx_I64 F.hi64 F.d1
  have c := F.er
  rw [F.eb]
  unfold I64 at a b ⊢; omega
theorem Fit.at {d lo hi cp : Int} {S : BS} (F : Fit d lo hi cp S) {m : Int} (h1 : lo ≤ m) (h2 : m ≤ hi) : ∃ j : Nat, m / S.d - S.base = j ∧ j < S.rows.length := by
  have a := idx_mono lo m d F.d1 h1
  have b := idx_mono m hi d F.d1 h2
  have c := F.er
  rw [F.ed, F.eb]
  exact ⟨(m / d - lo / d).toNat, by omega, by omega⟩

theorem tot_mem {rows : List (List Int)} {xs : List Int} (h : xs ∈ rows) : xs.length ≤ tot rows := by
  induction rows with
  | nil => simp at h
  | cons r rows ih =>
    rcases List.mem_cons.1 h with rfl | h
    · simp [tot]
    · have := ih h; simp [tot] at this ⊢; omega
theorem Inv.short {ms : List Int} {i : Nat} {S : BS} (H : Inv ms i S) {c : Nat} (hc : S.n ≤ c) : ∀ xs ∈ S.rows, xs.length ≤ c := by
  intro xs hx
  have := tot_mem hx
  rw [H.total] at this; omega
theorem Inv.some {ms : List Int} {i : Nat} {S : BS} (H : Inv ms i S) (hn : 0 < S.n) : (S.low ≤ S.top ∧ S.top < S.rows.length) ∧ (∃ j, S.low ≤ j ∧ j < S.rows.length ∧ S.rows.getD j [] ≠ []) ∧ (∃ j, j ≤ S.top ∧ S.rows.getD j [] ≠ []) := by
  obtain ⟨j, h1, h2⟩ := tot_pos (by rw [H.total]; exact hn)
  obtain ⟨a, b⟩ := H.far j h2
  exact ⟨⟨by omega, H.low.2⟩, ⟨j, a, h1, h2⟩, ⟨j, b, h2⟩⟩

theorem put1 (b : Nat) {d lo hi cp : Int} {ms : List Int} {i : Nat} {S : BS} {m : Int} (F : Fit d lo hi cp S) (H : Inv ms i S) (hm : ms[i]? = some m) (m64 : I64 m) (h1 : lo ≤ m) (h2 : m ≤ hi) (hn : (S.n : Int) < cp) (w : World) (L : List Asn) (h : Hold w (bkA b S :: L)) :
    Calls Try.prog 12 #[.pointer (some ⟨b, 0, none⟩), .int .i64 m, .int .i64 i] w fun e w' => e = .returned (.tuple #[.int .i64 0, .bool false, .int .i64 0]) ∧ ∃ S', Fit d lo hi cp S' ∧ Inv ms (i + 1) S' ∧ S'.n = S.n + 1 ∧ Hold w' (bkA b S' :: L) := by
  obtain ⟨j, hj, hjr⟩ := F.at h1 h2
  have c1 := F.c1
  have c2 := F.c2
  refine (put_ok b S (by rw [F.ec]; exact F.c1) m i m64 (by rw [F.ed]; exact F.d1) (by rw [F.el]; exact h1) (by rw [F.eh]; exact h2) j hj hjr H.len (by omega) (by rw [F.ec]; exact hn) (H.short (by omega)) H.low w L h).mono ?_
  rintro e w' ⟨he, hh⟩
  exact ⟨he, addS S j i, F.add j i, inv_add H hm (by rw [F.el]; exact h1) (by rw [F.eh]; exact h2) (by omega) hjr, rfl, hh⟩

theorem put2 (b : Nat) {d lo hi cp : Int} {ms : List Int} {i : Nat} {S : BS} {m : Int} (F : Fit d lo hi cp S) (H : Inv ms i S) (hm : ms[i]? = some m) (m64 : I64 m) (h1 : lo ≤ m) (h2 : m ≤ hi) (hn : (S.n : Int) = cp) (w : World) (L : List Asn) (h : Hold w (bkA b S :: L)) :
    Calls Try.prog 12 #[.pointer (some ⟨b, 0, none⟩), .int .i64 m, .int .i64 i] w fun e w' => ∃ (o : Nat) (S' : BS), e = .returned (.tuple #[.int .i64 o, .bool true, .int .i64 0]) ∧ Fit d lo hi cp S' ∧ Inv ms (i + 1) S' ∧ S'.n = S.n ∧ o ≤ i ∧ (∃ mo, ms[o]? = some mo ∧ mo / d ≤ (loAt S'.rows S'.low : Nat) + S'.base) ∧ Hold w' (bkA b S' :: L) := by
  obtain ⟨j, hj, hjr⟩ := F.at h1 h2
  have c1 := F.c1
  have c2 := F.c2
  have H1 : Inv ms (i + 1) (addS S j i) := inv_add H hm (by rw [F.el]; exact h1) (by rw [F.eh]; exact h2) (by omega) hjr
  have hn1 : (addS S j i).n = S.n + 1 := rfl
  obtain ⟨s1, s2, s3⟩ := H1.some (by omega)
  obtain ⟨q1, q2⟩ := loAt_spec s2
  obtain ⟨xs, hxs⟩ : ∃ xs, (addS S j i).rows[loAt (addS S j i).rows (addS S j i).low]? = some xs := ⟨_, List.getElem?_eq_getElem q1⟩
  have hgd : (addS S j i).rows.getD (loAt (addS S j i).rows (addS S j i).low) [] = xs := by simp [List.getD, hxs]
  rw [hgd] at q2
  obtain ⟨y, yt, rfl⟩ : ∃ y yt, xs = y :: yt := by cases xs with
    | nil => exact absurd rfl q2
    | cons y yt => exact ⟨y, yt, rfl⟩
  have hout : outS (addS S j i) = y := by unfold outS; rw [hgd]; rfl
  obtain ⟨y0, y1, mo, y2, -, -, y3⟩ := H1.ids _ _ hxs y (by simp)
  have H2 := inv_cut H1 (by omega)
  have hn2 : (cutS (addS S j i)).n = S.n := by show S.n + 1 - 1 = S.n; omega
  obtain ⟨-, t2, -⟩ := H2.some (by omega)
  obtain ⟨u1, u2⟩ := loAt_spec t2
  have hlow : loAt (addS S j i).rows (addS S j i).low ≤ loAt (cutS (addS S j i)).rows (cutS (addS S j i)).low := (H2.far _ u2).1
  refine (put_drop b S (by rw [F.ec]; exact F.c1) m i m64 (by rw [F.ed]; exact F.d1) (by rw [F.el]; exact h1) (by rw [F.eh]; exact h2) j hj hjr H.len (by omega) (by rw [F.ec]; exact hn) (H.short (by omega)) H.low s1 s2 F.t64 F.b64 w L h).mono ?_
  rintro e w' ⟨he, hh⟩
  refine ⟨y.toNat, cutS (addS S j i), ?_, (F.add j i).cut, H2, hn2, by omega, ⟨mo, y2, ?_⟩, hh⟩
  · rw [he, hout, Int.toNat_of_nonneg y0]
  · have e1 : (addS S j i).d = d := F.ed
    have e2 : (cutS (addS S j i)).base = (addS S j i).base := rfl
    rw [← e1, y3, e2]; omega

/-- All that is held lies below bucket q, or in it and below id o. -/
def Below (S : BS) (q : Nat) (o : Int) : Prop := ∀ (k : Nat) (row : List Int), S.rows[k]? = some row → ∀ id ∈ row, k ≤ q ∧ (k = q → id < o)

theorem pop1 (b : Nat) {d lo hi cp : Int} {ms : List Int} {i : Nat} {S : BS} (F : Fit d lo hi cp S) (H : Inv ms i S) (hn : 0 < S.n) (hc : (S.n : Int) ≤ cp) (w : World) (L : List Asn) (h : Hold w (bkA b S :: L)) :
    Calls Try.prog 16 #[.pointer (some ⟨b, 0, none⟩)] w fun e w' => ∃ (o q : Nat) (S' : BS), e = .returned (.tuple #[.int .i64 o, .int .i64 ((q : Int) + S.base), .bool true]) ∧ Fit d lo hi cp S' ∧ Inv ms i S' ∧ S'.n + 1 = S.n ∧ S'.base = S.base ∧ o < i ∧ (∃ mo, ms[o]? = some mo ∧ mo / d = (q : Int) + S.base) ∧ Below S' q o ∧ (∀ kq ko, Below S kq ko → q ≤ kq ∧ (q = kq → (o : Int) < ko)) ∧ Hold w' (bkA b S' :: L) := by
  have c1 := F.c1
  have c2 := F.c2
  obtain ⟨s1, s2, s3⟩ := H.some hn
  obtain ⟨q1, q2⟩ := hiAt_spec s3
  have q3 : hiAt S.rows S.top < S.rows.length := Nat.lt_of_le_of_lt q1 H.low.2
  obtain ⟨xs, hxs⟩ : ∃ xs, S.rows[hiAt S.rows S.top]? = some xs := ⟨_, List.getElem?_eq_getElem q3⟩
  have hgd : S.rows.getD (hiAt S.rows S.top) [] = xs := by simp [List.getD, hxs]
  rw [hgd] at q2
  obtain ⟨ys, y, rfl⟩ : ∃ ys y, xs = ys ++ [y] := ⟨xs.dropLast, xs.getLast q2, (List.dropLast_concat_getLast q2).symm⟩
  have hout : popV S = y := by unfold popV; rw [hgd]; simp
  obtain ⟨y0, y1, mo, y2, -, -, y3⟩ := H.ids _ _ hxs y (by simp)
  have H2 := inv_pop H hn
  have hrows : (popS S).rows = S.rows.set (hiAt S.rows S.top) ys := by simp only [popS, hgd]; simp
  have hri := List.pairwise_append.1 (H.rise _ _ hxs)
  refine (pop_ok b S (by rw [F.ec]; exact F.c1) hn (by omega) s1 s3 H.len F.t64 F.b64 (H.short (by omega)) w L h).mono ?_
  rintro e w' ⟨he, hh⟩
  refine ⟨y.toNat, hiAt S.rows S.top, popS S, ?_, F.pop, H2, ?_, rfl, by omega, ⟨mo, y2, ?_⟩, ?_, ?_, hh⟩
  · rw [he, hout, Int.toNat_of_nonneg y0]
  · show S.n - 1 + 1 = S.n; omega
  · rw [← F.ed, y3]
  · intro k row hk id hid
    rw [Int.toNat_of_nonneg y0]
    rw [hrows, List.getElem?_set] at hk
    by_cases hkq : hiAt S.rows S.top = k
    · subst hkq
      simp [q3] at hk
      subst hk
      exact ⟨Nat.le_refl _, fun _ => hri.2.2 id hid y (by simp)⟩
    · rw [if_neg hkq] at hk
      have hne : S.rows.getD k [] ≠ [] := by
        intro h0
        simp [List.getD, hk] at h0
        rw [h0] at hid; simp at hid
      refine ⟨?_, fun h => absurd h.symm hkq⟩
      rcases Nat.lt_or_ge (hiAt S.rows S.top) k with h | h
      · exact absurd (hiAt_max (H.far k hne).2 h) hne
      · exact h
  · intro kq ko hB
    rw [Int.toNat_of_nonneg y0]
    exact hB _ _ hxs y (by simp)

end Go.Proofs.Ytpffofliemooiaa
