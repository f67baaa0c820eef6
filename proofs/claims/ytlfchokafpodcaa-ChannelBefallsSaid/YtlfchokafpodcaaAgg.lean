/- Own words: structs and arrays read and written whole, in parts of memory (Hold). -/
import Derived.Test.YtlfchokafpodcaaHold
import Derived.Deep.MidRow
import Derived.IntWalk
open Go.RowKit
namespace Go.Own

section
variable {P : Program}

theorem Hold.range {w : World} {b : Nat} {T : TypeId} {cs : List Value} {L : List Asn} (h : Hold w (cellsA b T cs :: L)) (o : Nat) (part : List Value) (hp : (cs.drop o).take part.length = part) : w.rangeAt b o part := by
  intro j v hj
  rw [h.cell (o + j)]
  have h1 : j < part.length := (List.getElem?_eq_some_iff.1 hj).1
  rw [← hp, List.getElem?_take, if_pos h1, List.getElem?_drop] at hj
  exact hj

/-- A struct or an array, read whole. -/
theorem Hold.loadVar {w : World} {b : Nat} {T : TypeId} {cs : List Value} {L : List Asn} (h : Hold w (cellsA b T cs :: L)) (ty : TypeId) (o : Nat) (part : List Value) (d : TypeDesc) (hp : (cs.drop o).take part.length = part)
    (hu : P.underlying ty = some d) (hd : d.isRow = true) (hi : (P.info? ty).map (·.size) = some part.length) : (Go.loadVar ty ⟨b, o, none⟩).run P w = .ok (.agg part.toArray) w :=
  run_loadVar_mid w b o ty part d (h.range o part hp) hu hd hi

theorem Hold.load {w : World} {b : Nat} {T : TypeId} {cs : List Value} {L : List Asn} (h : Hold w (cellsA b T cs :: L)) (ty : TypeId) (o : Nat) (part : List Value) (d : TypeDesc) (hp : (cs.drop o).take part.length = part)
    (hu : P.underlying ty = some d) (hd : d.isRow = true) (hi : (P.info? ty).map (·.size) = some part.length) : (Instr.loadAt ty (.pointer (some ⟨b, o, none⟩))).run P w = .ok (.agg part.toArray) w :=
  run_loadAt_mid w b o ty part d (h.range o part hp) hu hd hi

theorem blk_setCells {w : World} {b : Nat} {T : TypeId} : ∀ (vs : List Value) (o : Nat) (w : World) (cs : List Value), Blk w b T cs → o + vs.length ≤ cs.length → Blk (w.setCells b o vs) b T (cs.take o ++ vs ++ cs.drop (o + vs.length))
  | [], o, w, cs, h, _ => by simpa [World.setCells] using h
  | v :: vs, o, w, cs, h, hl => by
    simp only [List.length_cons] at hl
    have h1 := blk_setCells (w := w) vs (o + 1) _ _ (h.setCell o v) (by simp; omega)
    have e : (cs.set o v).take (o + 1) ++ vs ++ (cs.set o v).drop (o + 1 + vs.length) = cs.take o ++ (v :: vs) ++ cs.drop (o + (v :: vs).length) := by
      rw [List.drop_set_of_lt (by omega), List.take_set, List.take_succ_eq_append_getElem (by omega), List.set_append]
      simp [show min o cs.length = o by omega, Nat.add_comm, Nat.add_left_comm]
    rw [e] at h1
    exact h1

/-- A struct or an array, written whole. -/
theorem Hold.store {w : World} {b : Nat} {T : TypeId} {cs : List Value} {L : List Asn} (h : Hold w (cellsA b T cs :: L)) (ty : TypeId) (o : Nat) (vs : List Value) (hl : o + vs.length ≤ cs.length) (hi : (P.info? ty).map (·.size) = some vs.length)
    (h1 : ∀ v ∈ vs, v.oneCell' = true) :
    ∃ w', (Instr.storeAt ty (.pointer (some ⟨b, o, none⟩)) (.agg vs.toArray)).run P w = .ok () w' ∧ Hold w' (cellsA b T (cs.take o ++ vs ++ cs.drop (o + vs.length)) :: L) := by
  obtain ⟨B, ⟨rfl, hb⟩, h2, h3⟩ := h.step
  refine ⟨w.setCells b o vs, ?_, h3 _ _ [b] (Fr.setCells w b o vs) ⟨rfl, blk_setCells (w := w) vs o w cs hb hl⟩ (by simp) (fun k hk => ⟨.inl hk, ?_⟩)⟩
  · have := run_storeAt_mid (P := P) w b o ty vs.toArray (fun j hj => by
      rw [h.cell, h.frozen]
      have : j < vs.length := by simpa using hj
      simp; omega) (by simpa using hi) (all_oneCell_toArray h1)
    simpa using this
  · have := h2 k hk
    exact Nat.lt_of_lt_of_le this (Fr.setCells w b o vs).size

/-- The same at a whole block. -/
theorem Hold.storeAll {w : World} {b : Nat} {T : TypeId} {cs : List Value} {L : List Asn} (h : Hold w (cellsA b T cs :: L)) (ty : TypeId) (vs : List Value) (hl : vs.length = cs.length) (hi : (P.info? ty).map (·.size) = some vs.length)
    (h1 : ∀ v ∈ vs, v.oneCell' = true) : ∃ w', (Instr.storeAt ty (.pointer (some ⟨b, 0, none⟩)) (.agg vs.toArray)).run P w = .ok () w' ∧ Hold w' (cellsA b T vs :: L) := by
  obtain ⟨w', h2, h3⟩ := h.store ty 0 vs (by omega) hi h1
  refine ⟨w', h2, h3.as ?_⟩
  rw [List.drop_eq_nil_of_le (by omega)]
  simp

theorem Hold.loadAll {w : World} {b : Nat} {T : TypeId} {cs : List Value} {L : List Asn} (h : Hold w (cellsA b T cs :: L)) (ty : TypeId) (d : TypeDesc)
    (hu : P.underlying ty = some d) (hd : d.isRow = true) (hi : (P.info? ty).map (·.size) = some cs.length) : (Instr.loadAt ty (.pointer (some ⟨b, 0, none⟩))).run P w = .ok (.agg cs.toArray) w :=
  h.load ty 0 cs d (by simp) hu hd hi

theorem Hold.loadVarAll {w : World} {b : Nat} {T : TypeId} {cs : List Value} {L : List Asn} (h : Hold w (cellsA b T cs :: L)) (ty : TypeId) (d : TypeDesc)
    (hu : P.underlying ty = some d) (hd : d.isRow = true) (hi : (P.info? ty).map (·.size) = some cs.length) : (Go.loadVar ty ⟨b, 0, none⟩).run P w = .ok (.agg cs.toArray) w :=
  h.loadVar ty 0 cs d (by simp) hu hd hi

/-- At the operation: a struct or an array, written whole (an arm of the walk). -/
theorem wpList_storeAll_h {ops : Array Oper} {rest : List Oper} {op : Oper} {a : Act} {w : World} {Q : Exit → Act → World → Prop} (hgd : op.guard = none) (ty : TypeId) (x y : Operand) (ho : op.op = .store ty x y)
    (b : Nat) (hx : a.eval x = .pointer (some ⟨b, 0, none⟩)) (vs : List Value) (hy : a.eval y = .agg vs.toArray) {T : TypeId} {cs : List Value} {L : List Asn} (h : Hold w (cellsA b T cs :: L))
    (hl : vs.length = cs.length) (hi : (P.info? ty).map (·.size) = some vs.length) (h1 : ∀ v ∈ vs, v.oneCell' = true)
    (k : ∀ w', Hold w' (cellsA b T vs :: L) → wpList P ops Q rest (a.put op.dst undef) w') : wpList P ops Q (op :: rest) a w := by
  obtain ⟨w', h2, h3⟩ := h.storeAll (P := P) ty vs hl hi h1
  refine wpList_plain hgd fun K hK => ?_
  unfold Oper.wp execOp
  simp only [ho, hx, hy, Sem.run_bind, h2, Result.andThen_ok]
  exact hK _ _ (k w' h3)

theorem wpList_loadAll_h {ops : Array Oper} {rest : List Oper} {op : Oper} {a : Act} {w : World} {Q : Exit → Act → World → Prop} (hgd : op.guard = none) (ty : TypeId) (x : Operand) (ho : op.op = .load ty x)
    (b : Nat) (hx : a.eval x = .pointer (some ⟨b, 0, none⟩)) {T : TypeId} {cs : List Value} {L : List Asn} (h : Hold w (cellsA b T cs :: L)) (d : TypeDesc)
    (hu : P.underlying ty = some d) (hd : d.isRow = true) (hi : (P.info? ty).map (·.size) = some cs.length)
    (k : wpList P ops Q rest (a.put op.dst (.agg cs.toArray)) w) : wpList P ops Q (op :: rest) a w :=
  wpList_load_mid hgd ty x ho b 0 hx cs d (h.range 0 cs (by simp)) hu hd hi k

/-- Results that lie in memory. -/
theorem res_cell {fn : Func} {p : Tmp} {ty : TypeId} {tmps : Array Value} {w : World} {ad : Addr} {v : Value} (hl : (Go.loadVar ty ad).run P w = .ok v w) (h : fn.results = #[.cell p ty]) (hp : tmps.getD p undef = .pointer (some ad)) :
    (results fn tmps).run P w = .ok v w := by
  have hp' : tmps[p]?.getD undef = .pointer (some ad) := by simpa using hp
  simp [results, h, hp', asAddr, hl]

theorem res_cell_tmp {fn : Func} {p u : Tmp} {ty : TypeId} {tmps : Array Value} {w : World} {ad : Addr} {v x : Value} (hl : (Go.loadVar ty ad).run P w = .ok v w) (h : fn.results = #[.cell p ty, .tmp u]) (hp : tmps.getD p undef = .pointer (some ad))
    (hx : tmps.getD u undef = x) : (results fn tmps).run P w = .ok (.tuple #[v, x]) w := by
  have hp' : tmps[p]?.getD undef = .pointer (some ad) := by simpa using hp
  subst hx
  simp [results, h, hp', asAddr, hl]

/-- The world of a goal, under a name of its own. -/
theorem gen_world {c : Code} {Q : Exit → Act → World → Prop} {a : Act} {W : World} {L : List Asn} (h : Hold W L) (k : ∀ w, Hold w L → c.wp P Q a w) : c.wp P Q a W := k W h

end

/-- Two new blocks. -/
theorem Hold.box2 {w : World} {L : List Asn} (h : Hold w L) (T U : TypeId) (cs ds : List Value) : Hold ((w.alloc (.cells cs.toArray T)).alloc (.cells ds.toArray U)) (cellsA (w.heap.size + 1) U ds :: cellsA w.heap.size T cs :: L) := by
  have := (h.box T cs).box U ds
  simpa using this

end Go.Own
