/- Own words: a map with string keys among the parts of memory (Hold): entries known one by one. -/
import Derived.Test.YtibmokkalloabaaEq
import Derived.ChangeMaps5
open Go.RowKit
namespace Go.Own

/-- Block b is a map of just these entries. -/
def mapA (b : Nat) (es : Array MapEntry) (clock : Nat) : Asn where
  ok B w := B = [b] ∧ w.heap[b]? = some (.map es clock)
  stable := by
    rintro B w w' _ _ _ _ _ f ⟨rfl, h⟩
    exact ⟨rfl, (f b (by simp)).trans h⟩

theorem Hold.mapBlk {w : World} {b : Nat} {es : Array MapEntry} {clock : Nat} {L : List Asn} (h : Hold w (mapA b es clock :: L)) : w.heap[b]? = some (.map es clock) := by
  obtain ⟨B, ⟨_, h⟩, _⟩ := h.first
  exact h

theorem Hold.mapNew {w : World} {L : List Asn} (h : Hold w L) : Hold (w.alloc (.map #[] 0)) (mapA w.heap.size #[] 0 :: L) :=
  h.new ((Fr.refl _ _).alloc _) (B := [w.heap.size]) ⟨rfl, by show (w.heap.push _)[w.heap.size]? = _; simp⟩ (by simp) (by simp)

theorem Fr.setBlock {w : World} {b : Nat} (o : Obj) : Fr [b] w (ChangeMaps.setBlock w b o) :=
  ⟨rfl, rfl, rfl, by simp [ChangeMaps.setBlock], fun k _ hk => by
    have : b ≠ k := fun e => hk (by simp [e])
    simp [ChangeMaps.setBlock, Array.getElem?_setIfInBounds_ne this]⟩

theorem Hold.mapSet {w : World} {b : Nat} {es es' : Array MapEntry} {clock clock' : Nat} {L : List Asn} (h : Hold w (mapA b es clock :: L)) : Hold (ChangeMaps.setBlock w b (.map es' clock')) (mapA b es' clock' :: L) := by
  have hb := h.mapBlk
  obtain ⟨B, ⟨rfl, h1⟩, h2, h3⟩ := h.step
  have hlt : b < w.heap.size := h2 b (by simp)
  exact h3 _ _ [b] (Fr.setBlock _) ⟨rfl, by simp [ChangeMaps.setBlock, hlt]⟩ (by simp) (fun k hk => ⟨.inl hk, by simp at hk; subst hk; simpa [ChangeMaps.setBlock] using hlt⟩)

section
variable {P : Program}

/-- The entry of a text. -/
def findS (s : ByteArray) : List MapEntry → Nat → Option (Nat × Value)
  | [], _ => none
  | e :: es, i => match e.key with
    | .string t => if (s == t) = true then some (i, e.val) else findS s es (i + 1)
    | _ => none
def keysB (es : List MapEntry) : Bool := es.all fun e => match e.key with | .string _ => true | _ => false
def keysS (es : List MapEntry) : Prop := ∀ e ∈ es, ∃ t, e.key = .string t
theorem keysS_of {es : List MapEntry} (h : keysB es = true) : keysS es := fun e he => by
  have := List.all_eq_true.1 h e he
  revert this
  cases e.key <;> simp

theorem findNow_S {s : ByteArray} : ∀ {es : List MapEntry} {i : Nat}, keysS es → Instr.findNow .string (.string s) es i = some (findS s es i)
  | [], _, _ => rfl
  | e :: es, i, h => by
    obtain ⟨t, ht⟩ := h e (by simp)
    unfold Instr.findNow findS
    rw [ht]
    simp only [Instr.sameNow]
    cases hst : (s == t) with
    | true => rfl
    | false => exact findNow_S (fun e he => h e (by simp [he]))

theorem run_findKeyS {w : World} {kt : TypeId} (hk : P.underlying kt = some .string) {s : ByteArray} {es : List MapEntry} (h : keysS es) : (Instr.findKey kt (.string s) es).run P w = .ok (findS s es 0) w := by
  unfold Instr.findKey
  simp only [Sem.run_bind, run_underlying hk, Result.andThen_ok, findNow_S h]
  rfl

/-- A new entry. -/
theorem run_insert_new {w : World} {b : Nat} {es : Array MapEntry} {clock : Nat} {L : List Asn} (h : Hold w (mapA b es clock :: L)) {t kt e : TypeId} (ht : P.underlying t = some (.map kt e)) (hk : P.underlying kt = some .string) {s : ByteArray} (v : Value)
    (hs : keysS es.toList) (hf : findS s es.toList 0 = none) :
    ∃ w', (Instr.mapUpdate t (.map (some b)) (.string s) v).run P w = .ok () w' ∧ Hold w' (mapA b (es.push { key := .string s, val := v, born := clock }) (clock + 1) :: L) := by
  refine ⟨_, ?_, h.mapSet⟩
  simp [Instr.mapUpdate, run_underlying ht, MapKept.run_getObj_map h.mapBlk, MapKept.run_checkKey (k := .string s) hk trivial, run_findKeyS hk hs, hf, MapKept.run_setObj_map _ h.mapBlk, Result.andThen, ChangeMaps.setBlock]

/-- At the operation (an arm of the walk). -/
theorem wpList_insert_h {ops : Array Oper} {rest : List Oper} {op : Oper} {a : Act} {w : World} {Q : Exit → Act → World → Prop} (hgd : op.guard = none) (t : TypeId) (m k x : Operand) (ho : op.op = .insert t m k x)
    (b : Nat) (hm : a.eval m = .map (some b)) (s : ByteArray) (hk : a.eval k = .string s) (v : Value) (hx : a.eval x = v) {kt e : TypeId} (ht : P.underlying t = some (.map kt e)) (hkt : P.underlying kt = some .string)
    {es : Array MapEntry} {clock : Nat} {L : List Asn} (h : Hold w (mapA b es clock :: L)) (hs : keysS es.toList) (hf : findS s es.toList 0 = none)
    (K : ∀ w', Hold w' (mapA b (es.push { key := .string s, val := v, born := clock }) (clock + 1) :: L) → wpList P ops Q rest (a.put op.dst undef) w') : wpList P ops Q (op :: rest) a w := by
  obtain ⟨w', h2, h3⟩ := run_insert_new h ht hkt v hs hf
  refine wpList_plain hgd fun K' hK => ?_
  unfold Oper.wp execOp
  simp only [ho, hm, hk, hx, Sem.run_bind, h2, Result.andThen_ok]
  exact hK _ _ (K w' h3)

/-- v, ok := m[s]. -/
theorem run_lookup_h {w : World} {b : Nat} {es : Array MapEntry} {clock : Nat} {L : List Asn} (h : Hold w (mapA b es clock :: L)) {t kt e : TypeId} (ht : P.underlying t = some (.map kt e)) (hk : P.underlying kt = some .string) {s : ByteArray} {z : Value} (hz : (zeroValue e).run P w = .ok z w)
    (hs : keysS es.toList) : (Instr.lookup t (.map (some b)) (.string s) true).run P w = .ok (.tuple #[((findS s es.toList 0).map (·.2)).getD z, .bool (findS s es.toList 0).isSome]) w := by
  cases hf : findS s es.toList 0 with
  | none => simp [Instr.lookup, run_underlying ht, MapKept.run_getObj_map h.mapBlk, MapKept.run_checkKey (k := .string s) hk trivial, run_findKeyS hk hs, hf, hz, Result.andThen]
  | some r =>
    obtain ⟨i, v⟩ := r
    simp [Instr.lookup, run_underlying ht, MapKept.run_getObj_map h.mapBlk, MapKept.run_checkKey (k := .string s) hk trivial, run_findKeyS hk hs, hf, Result.andThen]
end
end Go.Own
