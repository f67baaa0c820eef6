/- Own words: structs and arrays of numbers, compared whole. -/
import Derived.Test.YtpffofliemooiaaAgg
import Derived.DeepKeys
import Derived.Laws.StructEq
open Go.RowKit
namespace Go.Own

section
variable {P : Program}

theorem run_agg_equal {t : TypeId} {m : Nat} (hk : P.keyTypeAt m t = true) (hm : m ≤ 10000) {D D' : Nat} {xs ys : List Value} {lx ly : List Lit} (fx : (Value.agg xs.toArray).formed P t = true) (fy : (Value.agg ys.toArray).formed P t = true)
    (hx : P.keyLits D t xs = some lx) (hy : P.keyLits D' t ys = some ly) {v : Bool} (hv : v = true ↔ lx = ly) (w : World) :
    (Op.equalIn 10000 t (.agg xs.toArray) (.agg ys.toArray)).run P w = .ok v w := by
  obtain ⟨r, h1, h2⟩ := run_equalIn_deep (P := P) (10000 - m) m t hk w D D' (.agg xs.toArray) (.agg ys.toArray) lx ly fx fy (by simpa [Value.cells] using hx) (by simpa [Value.cells] using hy)
  rw [show 10000 - m + m = 10000 by omega] at h1
  rw [h1]
  have : r = v := by rw [Bool.eq_iff_iff, h2, hv]
  rw [this]

/-- x == y, the operation. -/
theorem exec_agg_eql {ev : Operand → Value} {o : Oper} {t : TypeId} {x y : Operand} {ty : TypeId} (ho : o.op = .binOp .eql t x y ty) {xs ys : List Value} (ex : ev x = .agg xs.toArray) (ey : ev y = .agg ys.toArray)
    (hg : P.eqGuardType P.depth t = false) {v : Bool} (he : ∀ w, (Op.equalIn 10000 t (.agg xs.toArray) (.agg ys.toArray)).run P w = .ok v w) (w : World) : (execOp ev o).run P w = .ok (.value (.bool v)) w := by
  unfold execOp
  simp only [ho, ex, ey, Sem.run_bind, run_eqGuard_agg (P := P) w .eql t x y _ _ hg, Result.andThen_ok, run_eql_struct, he, Sem.run_pure]

theorem exec_agg_neq {ev : Operand → Value} {o : Oper} {t : TypeId} {x y : Operand} {ty : TypeId} (ho : o.op = .binOp .neq t x y ty) {xs ys : List Value} (ex : ev x = .agg xs.toArray) (ey : ev y = .agg ys.toArray)
    (hg : P.eqGuardType P.depth t = false) {v : Bool} (he : ∀ w, (Op.equalIn 10000 t (.agg xs.toArray) (.agg ys.toArray)).run P w = .ok v w) (w : World) : (execOp ev o).run P w = .ok (.value (.bool (!v))) w := by
  unfold execOp
  simp only [ho, ex, ey, Sem.run_bind, run_eqGuard_agg (P := P) w .neq t x y _ _ hg, Result.andThen_ok, run_neq_struct, he, Sem.run_pure]

/-- An operation that yields a value at any world (an arm of the walk). -/
theorem wpList_yields {ops : Array Oper} {rest : List Oper} {o : Oper} {a : Act} {w : World} {Q : Exit → Act → World → Prop} {v : Value} (he : ∀ w, (execOp a.eval o).run P w = .ok (.value v) w)
    (k : wpList P ops Q rest (a.put o.dst v) w) (hgd : o.guard = none) : wpList P ops Q (o :: rest) a w := by
  refine wpList_plain hgd fun K hK => ?_
  unfold Oper.wp
  rw [he]
  exact hK _ _ k

/-- The same where a guard says yes. -/
theorem wpList_yw {ops : Array Oper} {rest : List Oper} {o : Oper} {a : Act} {w : World} {Q : Exit → Act → World → Prop} {v : Value} (hw : Region.wanted o (yielded ops a.tmps) = true) (he : (execOp a.eval o).run P w = .ok (.value v) w)
    (k : wpList P ops Q rest (a.put o.dst v) w) : wpList P ops Q (o :: rest) a w := by
  refine wpList_step fun K hK => ?_
  rw [if_pos hw]
  unfold Oper.wp
  rw [he]
  exact hK _ _ k

theorem mapM_some {α β : Type} (g : α → Option β) (f : α → β) : ∀ (l : List α), (∀ x ∈ l, g x = some (f x)) → l.mapM g = some (l.map f)
  | [], _ => rfl
  | x :: l, h => by
    rw [List.mapM_cons, h x (by simp), mapM_some g f l (fun y hy => h y (by simp [hy]))]
    rfl

theorem keyLits_array {d : Nat} {t e : TypeId} {n : Nat} {cs : List Value} (hu : P.underlying t = some (.array n e)) (hl : cs.length = P.cellsOf t) (f : Nat → List Lit)
    (h : ∀ i, i < n → P.keyLits d e ((cs.drop (i * P.cellsOf e)).take (P.cellsOf e)) = some (f i)) : P.keyLits (d + 1) t cs = some ((List.range n).map f).flatten := by
  unfold Program.keyLits
  simp only [hu]
  rw [if_pos hl, mapM_some _ f _ (fun i hi => h i (by simpa using hi))]
  rfl

theorem keyLits_int {d : Nat} {t : TypeId} {q : IntKind} {n : Int} (hu : P.underlying t = some (.int q)) (hw : (Lit.int q n).wf = true) : P.keyLits (d + 1) t [.int q n] = some [.int q n] := by
  unfold Program.keyLits
  simp only [hu]
  simp [hw]

end
#print axioms exec_agg_eql
end Go.Own
