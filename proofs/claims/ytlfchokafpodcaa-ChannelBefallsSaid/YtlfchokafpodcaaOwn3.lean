/- append, told in full: in place, or into a new block while all that is old stays. -/
import Derived.Test.YtlfchokafpodcaaOwn2
open Go.RowKit
namespace Go.Own

section
variable {P : Program}

/-- append onto an owned slice: in place, or nothing old is touched. -/
theorem run_append_two (w : World) (t tx ty E : TypeId) (i : TypeInfo) (z : Value) (sz by_ : Nat) (ht : P.underlying t = some (.slice E)) (hi : P.info? E = some i) (hz : i.zero = some z) (hsz : i.size = sz) (hby : i.bytes = by_)
    (hzc : z.cells.size = sz) (v : Value) (n : Nat) (xs : List Value) (B : List Nat) (h : Own w E sz v n xs B) (x : Value) (m : Nat) (news : List Value) (hs : Src P sz tx x m news w)
    (h63 : n + m ≤ maxLen) (hfit : (n + m) * by_ ≤ 140737488355328) :
    ∃ v' w' B', (Builtin.append_ #[t, tx] ty #[v, x]).run P w = .ok v' w' ∧ Own w' E sz v' (n + m) (xs ++ news) B' ∧ Fr B w w' ∧ ((B' = B ∧ ∃ ao cap, v = .slice ao n cap ∧ v' = .slice ao (n + m) cap) ∨ (Fr [] w w' ∧ B' = [w.heap.size])) := by
  subst hsz; subst hby
  unfold maxLen at h63
  obtain ⟨h1, ⟨rfl, rfl, rfl⟩ | ⟨b, off, cap, cur, rfl, rfl, hh, h3, h4, h5, h6⟩⟩ := h
  · -- nil
    have hx0 : xs = [] := by simpa using h1
    subst hx0
    by_cases hm : m = 0
    · subst hm
      have hn0 : news = [] := by have := hs.newsLen; simpa using this
      subst hn0
      refine ⟨.slice none 0 0, w, [], ?_, ⟨by simp, .inl ⟨rfl, rfl, rfl⟩⟩, Fr.refl _ _, .inl ⟨rfl, none, 0, rfl, rfl⟩⟩
      rcases hs.kind with ⟨e', hk⟩ | hk <;> simp [Builtin.append_, run_underlying ht, run_underlying hk, sizeOf, typeInfo, hi, hs.len, hs.cells]
    · have hg := run_append_grow_src (P := P) w t tx ty E i z ht hi hz none 0 0 [] (by simp [Builtin.firstCells]) x m news hs (by omega) (by omega)
        (growslice_fits (by omega) (by simpa using hfit))
      refine ⟨_, _, _, hg, ?_, ?_, .inr ⟨((Fr.refl [] w).drew).alloc _, rfl⟩⟩
      · have hc1 := grownCap_ge w (0 + m) 0 E
        have hc2 := grownCap_le_maxLen w (0 + m) 0 E (by unfold maxLen; omega)
        have hnl := hs.newsLen
        have := Own.new w.drew E i.size (0 + m) (grownCap w (0 + m) 0 E) (([] ++ news).toArray ++ Builtin.zeroCells z.cells (grownCap w (0 + m) 0 E - (0 + m))) hc1 hc2
          (by simp only [List.nil_append, Array.size_append, List.size_toArray, size_zeroCells, hzc, hnl]; rw [← Nat.add_mul]; congr 1; omega)
        have e : ((([] : List Value) ++ news).toArray ++ Builtin.zeroCells z.cells (grownCap w (0 + m) 0 E - (0 + m))).toList.take ((0 + m) * i.size) = [] ++ news := by
          simp only [List.nil_append, Array.toList_append, Nat.zero_add]
          rw [List.take_append_of_le_length (by omega), List.take_of_length_le (by omega)]
        rw [e] at this
        exact this
      · exact ((Fr.refl [] w).drew).alloc _
  · have hbl : b < w.heap.size := (Array.getElem?_eq_some_iff.1 hh).1
    have hnl := hs.newsLen
    have hcell : ∀ j, j < n * i.size → w.cell? ⟨b, off + j, none⟩ = xs[j]? := fun j hj => by simp [World.cell?, hh, h6 j hj]
    by_cases hroom : n + m ≤ cap
    · have hmul : (n + m) * i.size ≤ cap * i.size := Nat.mul_le_mul_right _ hroom
      rw [Nat.add_mul] at hmul
      have hg := run_append_room_src (P := P) w t tx ty E i ht hi b off n cap x m news hs hroom
        (fun j hj => by simp [World.cell?, hh]; omega) (fun j hj => by simp [World.frozen?, hh])
      refine ⟨_, _, [b], hg, ?_, Fr.setCells w b _ news, .inl ⟨rfl, _, _, rfl, rfl⟩⟩
      obtain ⟨cur', a1, a2, a3⟩ := cells_setCells b news (off + n * i.size) w cur E (0, 0) hh
      refine ⟨by rw [List.length_append, h1, hnl, Nat.add_mul], .inr ⟨b, off, cap, cur', rfl, rfl, a1, hroom, h4, by omega, ?_⟩⟩
      intro j hj
      rw [Nat.add_mul] at hj
      rw [a3]
      by_cases hjn : j < n * i.size
      · rw [if_neg (by omega), h6 j hjn, List.getElem?_append_left (by omega)]
      · rw [if_pos (by omega), List.getElem?_append_right (by omega), h1]
        congr 1; omega
    · have hold : (Builtin.firstCells i.size n (.slice (some ⟨b, off, none⟩) n cap)).run P w.drew = .ok xs.toArray w.drew :=
        run_firstCells_some w.drew i.size n ⟨b, off, none⟩ n cap xs h1 (fun j u hu => by
          have hj : j < n * i.size := by have := (List.getElem?_eq_some_iff.1 hu).1; omega
          have := hcell j hj
          rw [hu] at this
          simpa [Addr.add_lit] using this)
      have hg := run_append_grow_src (P := P) w t tx ty E i z ht hi hz (some ⟨b, off, none⟩) n cap xs hold x m news hs (by omega) (by omega)
        (growslice_fits (by omega) hfit)
      refine ⟨_, _, _, hg, ?_, ((Fr.refl [b] w).drew).alloc _, .inr ⟨((Fr.refl [] w).drew).alloc _, rfl⟩⟩
      have hc1 := grownCap_ge w (n + m) cap E
      have hc2 := grownCap_le_maxLen w (n + m) cap E (by unfold maxLen; omega)
      have hle : (xs ++ news).length = (n + m) * i.size := by rw [List.length_append, h1, hnl, Nat.add_mul]
      have := Own.new w.drew E i.size (n + m) (grownCap w (n + m) cap E) ((xs ++ news).toArray ++ Builtin.zeroCells z.cells (grownCap w (n + m) cap E - (n + m))) hc1 hc2
        (by simp only [Array.size_append, List.size_toArray, size_zeroCells, hzc, hle]; rw [← Nat.add_mul]; congr 1; omega)
      have e : ((xs ++ news).toArray ++ Builtin.zeroCells z.cells (grownCap w (n + m) cap E - (n + m))).toList.take ((n + m) * i.size) = xs ++ news := by
        rw [Array.toList_append]
        rw [List.take_append_of_le_length (by simp [hle]), List.take_of_length_le (by simp [hle])]
      rw [e] at this
      exact this

/-- append of one element, which the statement has just laid into a block of its own (W: the world then; w: the world ahead of that block). -/
theorem wp_append_two {w W : World} {o : Oper} {a : Act} {K : Act → World → Prop} {Q : Exit → Act → World → Prop} (s x : Operand) (t : TypeId)
    (hop : o.op = Op.call { callee := Callee.builtin Builtin.append, args := #[s, x], argTypes := #[t, t] })
    (E : TypeId) (i : TypeInfo) (z : Value) (sz by_ : Nat) (ht : P.underlying t = some (.slice E)) (hi : P.info? E = some i) (hz : i.zero = some z) (hsz : i.size = sz) (hby : i.bytes = by_)
    (hzc : z.cells.size = sz) (ao : Option Addr) (n cap : Nat) (xs : List Value) (B : List Nat) (hv : a.eval s = .slice ao n cap) (h : Own w E sz (.slice ao n cap) n xs B) (cs : List Value)
    (hx : a.eval x = .slice (some ⟨w.heap.size, 0, none⟩) 1 1) (hW : W.heap = w.heap.push (.cells cs.toArray E) ∧ W.os = w.os ∧ W.tape = w.tape ∧ W.output = w.output) (hcs : cs.length = sz) (h1 : ∀ u ∈ cs, u.oneCell' = true)
    (h63 : n + 1 ≤ maxLen) (hfit : (n + 1) * by_ ≤ 140737488355328)
    (hK : ∀ ao' cap' w' B', Own w' E sz (.slice ao' (n + 1) cap') (n + 1) (xs ++ cs) B' → Fr B w w' → ((B' = B ∧ ao' = ao ∧ cap' = cap) ∨ (Fr [] w w' ∧ ∀ k, k ∈ B' → w.heap.size ≤ k)) → K (a.put o.dst (.slice ao' (n + 1) cap')) w') : o.wp P a W K Q := by
  have hfr : Fr [] w W := ⟨hW.2.1, hW.2.2.1, hW.2.2.2, by rw [hW.1]; simp, fun k hk _ => by rw [hW.1, Array.getElem?_push, if_neg (by omega)]⟩
  have hnew : W.heap[w.heap.size]? = some (.cells cs.toArray E (0, 0)) := by rw [hW.1]; simp
  obtain ⟨v', w', B', hrun, r1, r2, r3⟩ := run_append_two (P := P) W t t o.type E i z sz by_ ht hi hz hsz hby hzc _ n xs B (h.fr hfr (by simp)) _ 1 cs
    (Src.ofSlice W ht ⟨w.heap.size, 0, none⟩ 1 1 cs (by simpa using hcs) (fun j u hu => by rw [Addr.add_lit]; simp [World.cell?, hnew, hu]) h1) h63 hfit
  obtain ⟨ao', cap', rfl, _, _⟩ := r1.val
  have hk := hK ao' cap' w' B' r1 (hfr.nil.trans r2 (fun k hk => .inl hk)) (by
    rcases r3 with ⟨rfl, ao2, cap2, e1, e2⟩ | ⟨r4, rfl⟩
    · simp only [Value.slice.injEq, true_and] at e1 e2
      exact .inl ⟨rfl, by rw [e1.1, e2.1], by rw [e1.2, e2.2]⟩
    · refine .inr ⟨hfr.trans r4 (by simp), fun k hk => ?_⟩
      have := hfr.size
      simp at hk
      subst hk
      exact this)
  unfold Oper.wp
  simp [execOp, hop, resolve, invoke, builtin, hv, hx, hrun, Result.andThen]
  exact hk

end

/-- The first elements of an owned row. -/
theorem Own.first {w : World} {E : TypeId} {ao : Option Addr} {n cap : Nat} {xs : List Value} {B : List Nat} (h : Own w E 1 (.slice ao n cap) n xs B) (m : Nat) (hm : m ≤ n) : Own w E 1 (.slice ao m cap) m (xs.take m) B := by
  obtain ⟨_, h2, _⟩ := h.rd.bounds
  have := h.sliced (l := 0) (u := m) (m := cap) (by omega) hm (by omega) (Nat.le_refl _)
  simp only [Go.sliced, Nat.zero_mul, List.drop_zero, Nat.mul_one, Nat.sub_zero] at this
  by_cases h0 : cap = 0
  · simpa [h0] using this
  · simpa [h0, Addr.add] using this

end Go.Own
