/- Rows of structs: copied whole; a struct read from, written into the middle. -/
import Derived.Test.YtahhbbcgfhmmgaaStar
import Derived.Test.YtahhbbcgfhmmgaaAgg
open Go.RowKit
namespace Go.Own

section
variable {P : Program}

/-- A struct written over part of a row. -/
theorem Hold.putAll {E : TypeId} {sz b o n cap : Nat} {L : List Asn} : ∀ (vs : List Value) (j : Nat) (w : World) (xs : List Value), Hold w (rowA E sz (some ⟨b, o, none⟩) n cap xs :: L) → j + vs.length ≤ n * sz →
    Hold (w.setCells b (o + j) vs) (rowA E sz (some ⟨b, o, none⟩) n cap (xs.take j ++ vs ++ xs.drop (j + vs.length)) :: L)
  | [], j, w, xs, h, _ => by simpa [World.setCells] using h
  | v :: vs, j, w, xs, h, hl => by
    simp only [List.length_cons] at hl
    have hx := h.bounds.1
    have h1 := Hold.putAll vs (j + 1) _ _ (h.put j (by omega) v) (by omega)
    have e : (xs.set j v).take (j + 1) ++ vs ++ (xs.set j v).drop (j + 1 + vs.length) = xs.take j ++ (v :: vs) ++ xs.drop (j + (v :: vs).length) := by
      rw [List.drop_set_of_lt (by omega), List.take_set, List.take_succ_eq_append_getElem (by omega), List.set_append]
      simp [show min j xs.length = j by omega, Nat.add_comm, Nat.add_left_comm]
    rw [e] at h1
    exact h1

theorem wp_storeRow_h {op : Oper} {a : Act} {w : World} {K : Act → World → Prop} {Q : Exit → Act → World → Prop} (ty : TypeId) (x y : Operand) (ho : op.op = .store ty x y)
    (b o : Nat) (j : Nat) (hx : a.eval x = .pointer (some ⟨b, o + j, none⟩)) (vs : List Value) (hy : a.eval y = .agg vs.toArray) {E : TypeId} {sz n cap : Nat} {xs : List Value} {L : List Asn} (h : Hold w (rowA E sz (some ⟨b, o, none⟩) n cap xs :: L))
    (hl : j + vs.length ≤ n * sz) (hi : (P.info? ty).map (·.size) = some vs.length) (h1 : ∀ v ∈ vs, v.oneCell' = true) (hv : 0 < vs.length)
    (k : ∀ w', Hold w' (rowA E sz (some ⟨b, o, none⟩) n cap (xs.take j ++ vs ++ xs.drop (j + vs.length)) :: L) → K (a.put op.dst undef) w') : op.wp P a w K Q := by
  have hlx := h.bounds.1
  have h2 : (Instr.storeAt ty (.pointer (some ⟨b, o + j, none⟩)) (.agg vs.toArray)).run P w = .ok () (w.setCells b (o + j) vs) := by
    obtain ⟨rb, ro, he, hc, hf⟩ := h.at (by
      rcases Nat.eq_zero_or_pos n with h0 | h0
      · subst h0; rw [Nat.zero_mul] at hl; omega
      · exact h0)
    simp only [Option.some.injEq, Addr.mk.injEq, and_true] at he
    obtain ⟨rfl, rfl⟩ := he
    have := run_storeAt_mid (P := P) w b (o + j) ty vs.toArray (fun i hi' => by
      have hi2 : i < vs.length := by simpa using hi'
      rw [Nat.add_assoc, hc (j + i) (by omega), hf]
      simp; omega) (by simpa using hi) (all_oneCell_toArray h1)
    simpa using this
  unfold Oper.wp execOp
  simp only [ho, hx, hy, Sem.run_bind, h2, Result.andThen_ok]
  exact k _ (Hold.putAll vs j w xs h hl)

/-- A struct read out of a row. -/
theorem Hold.rangeRow {w : World} {E : TypeId} {sz b o n cap : Nat} {xs : List Value} {L : List Asn} (h : Hold w (rowA E sz (some ⟨b, o, none⟩) n cap xs :: L)) (j : Nat) (part : List Value) (hp : (xs.drop j).take part.length = part) (hj : j + part.length ≤ n * sz) (hv : 0 < part.length) : w.rangeAt b (o + j) part := by
  obtain ⟨rb, ro, he, hc, -⟩ := h.at (by
    rcases Nat.eq_zero_or_pos n with h0 | h0
    · subst h0; rw [Nat.zero_mul] at hj; omega
    · exact h0)
  simp only [Option.some.injEq, Addr.mk.injEq, and_true] at he
  obtain ⟨rfl, rfl⟩ := he
  intro i v hi
  have h1 : i < part.length := (List.getElem?_eq_some_iff.1 hi).1
  rw [Nat.add_assoc, hc (j + i) (by omega)]
  rw [← hp, List.getElem?_take, if_pos h1, List.getElem?_drop] at hi
  exact hi

theorem run_copy_rows (w : World) (dT sT ty elem : TypeId) (g o dLen dCap sz : Nat) (a : Addr) (sLen sCap : Nat) (cur : Array Value) (t : TypeId) (cs : List Value)
    (hu : P.underlying dT = some (.slice elem)) (hs : (P.info? elem).map (·.size) = some sz)
    (hg : w.heap[g]? = some (.cells cur t (0, 0))) (hn : cs.length = Nat.min sLen dLen * sz)
    (hsrc : ∀ j v, cs[j]? = some v → w.cell? (a.add j) = some v) (hfit : o + cs.length ≤ cur.size) (h1 : ∀ v ∈ cs, v.oneCell' = true) :
    (Builtin.copy_ #[dT, sT] ty #[.slice (some ⟨g, o, none⟩) dLen dCap, .slice (some a) sLen sCap]).run P w =
      .ok (goInt (Nat.min sLen dLen)) (w.setRow g (cur.toList.take o ++ cs ++ cur.toList.drop (o + cs.length)).toArray) := by
  have hl := run_loadCells_list (P := P) w a cs hsrc
  have hst := run_storeCells_at P g o t cs 0 cur w hg (by simpa using hfit) h1
  cases hq : P.info? elem with
  | none => simp [hq] at hs
  | some i =>
    have hi : i.size = sz := by simpa [hq] using hs
    subst hi
    simp [Builtin.copy_, run_underlying hu, Builtin.lenOf, Builtin.firstCells, sizeOf, typeInfo, hq, ← hn, hl, hst]

/-- copy of a whole row into one as long. -/
theorem wp_copy_all_h {w : World} {L : List Asn} {o : Oper} {a : Act} {K : Act → World → Prop} {Q : Exit → Act → World → Prop} (d s : Operand) (dT sT : TypeId)
    (hop : o.op = .call { callee := .builtin .copy, args := #[d, s], argTypes := #[dT, sT] }) (E : TypeId) (sz : Nat) (hu : P.underlying dT = some (.slice E)) (hsz : (P.info? E).map (·.size) = some sz)
    (ao : Option Addr) (n cap : Nat) (xs : List Value) (h : Hold w (rowA E sz ao n cap xs :: L)) (hd : a.eval d = .slice ao n cap)
    (sv : Value) (ys : List Value) (S : List Nat) (hs : a.eval s = sv) (hr : Rd w sz sv n ys S) (h1 : ∀ u ∈ ys, u.oneCell' = true) (hz : 0 < sz)
    (hK : ∀ w', Hold w' (rowA E sz ao n cap ys :: L) → K (a.put o.dst (goInt n)) w') : o.wp P a w K Q := by
  obtain ⟨B, hB, hlt, hstep⟩ := h.step
  obtain ⟨r1, sao, scap, rfl, r2, r3, r4⟩ := hr
  obtain ⟨a1, a2⟩ := hB
  by_cases h0 : n = 0
  · subst h0
    have hrun : (Builtin.copy_ #[dT, sT] o.type #[.slice ao 0 cap, .slice sao 0 scap]).run P w = .ok (goInt 0) w := by
      cases hq : P.info? E with
      | none => simp [hq] at hsz
      | some i =>
        have hl0 : ∀ ad : Addr, (loadCells ad 0).run P w = .ok #[] w := fun ad => run_loadCells_list (P := P) w ad [] (by simp)
        cases sao <;> cases ao <;> simp [Builtin.copy_, run_underlying hu, Builtin.lenOf, Builtin.firstCells, sizeOf, typeInfo, hq, storeCells, hl0]
    unfold Oper.wp
    simp [execOp, hop, resolve, invoke, builtin, hd, hs, hrun, Result.andThen]
    have hx0 : xs = [] := by apply List.eq_nil_of_length_eq_zero; simpa using a1
    have hy0 : ys = [] := by apply List.eq_nil_of_length_eq_zero; simpa using r1
    subst hx0 hy0
    exact hK w h
  · have hmn : Nat.min n n = n := Nat.min_self n
    rcases a2 with ⟨hv, hn, _⟩ | ⟨b, off, cap', cur, hv, rfl, hh, a3, a4, a5, a6⟩
    · omega
    · simp only [Value.slice.injEq] at hv
      obtain ⟨rfl, _, rfl⟩ := hv
      rcases r4 with r4 | ⟨sb, so, rfl, rfl, hsb, hc⟩
      · omega
      have hcs : ∀ j v, ys[j]? = some v → w.cell? ((⟨sb, so, none⟩ : Addr).add j) = some v := by
        intro j v hj
        have hjl : j < ys.length := (List.getElem?_eq_some_iff.1 hj).1
        rw [Addr.add_lit, hc j (by omega)]; exact hj
      have hle : n * sz ≤ cap * sz := Nat.mul_le_mul_right _ a3
      have hrun := run_copy_rows (P := P) w dT sT o.type E b off n cap sz ⟨sb, so, none⟩ n scap cur E ys hu hsz hh (by rw [hmn]; exact r1) hcs (by omega) h1
      rw [hmn] at hrun
      unfold Oper.wp
      simp only [execOp, hop, resolve, invoke, builtin]
      simp [hd, hs, hrun, Result.andThen]
      refine hK _ (hstep _ (rowA E sz (some ⟨b, off, none⟩) n cap ys) [b] ?_ ⟨r1, .inr ⟨b, off, cap, _, rfl, rfl, setRow_heap w b cur _ E (0, 0) hh, a3, a4, ?_, ?_⟩⟩ (by simp) (fun k hk => ⟨.inl hk, ?_⟩))
      · refine ⟨rfl, rfl, rfl, by simp [World.setRow], fun k _ hk => ?_⟩
        simp only [World.setRow]
        simp at hk
        simp [Array.getElem?_modify, Ne.symm hk]
      · simp only [List.size_toArray, List.length_append, List.length_take, List.length_drop, Array.length_toList]; omega
      · intro j hj
        simp only [List.getElem?_toArray]
        rw [List.getElem?_append_right (by simp; omega), List.getElem?_append_left (by simp; omega)]
        congr 1
        simp; omega
      · have := hlt k hk
        simpa [World.setRow] using this
end
#print axioms wp_copy_all_h
end Go.Own
