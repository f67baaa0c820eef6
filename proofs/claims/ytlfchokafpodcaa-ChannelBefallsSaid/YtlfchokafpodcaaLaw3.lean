/- Arguments opened: structs with rows in them. -/
import Derived.Test.YtlfchokafpodcaaLaw2
open Go.ChangeShapes Go.WideShapes Go.ChangeAt Go.RowKit Go.Deep
namespace Go.Own

theorem mapM_fields {H : Type} {P : Program} (g : Field → Option (DataW H × List MemPlace)) : ∀ (l : List Field) (ys : List (DataW H × List MemPlace)), l.mapM g = some ys →
    ∀ f ∈ l, ∃ y ∈ ys, g f = some y ∧ ∀ q ∈ y.1.weights P f.type, q ∈ DataW.weightsEach P (l.map (·.type)) (ys.map (·.1))
  | [], _, _, f, hf => by simp at hf
  | a :: l, ys, h, f, hf => by
    rw [List.mapM_cons] at h
    cases hg : g a with
    | none => simp [hg] at h
    | some b =>
      cases hm : l.mapM g with
      | none => simp [hg, hm] at h
      | some bs =>
        simp [hg, hm] at h
        subst h
        rcases List.mem_cons.1 hf with rfl | hf
        · exact ⟨b, by simp, hg, fun q hq => by simp only [List.map_cons, DataW.weightsEach, List.mem_append]; exact .inl hq⟩
        · obtain ⟨y, h1, h2, h3⟩ := mapM_fields g l bs hm f hf
          exact ⟨y, by simp [h1], h2, fun q hq => by simp only [List.map_cons, DataW.weightsEach, List.mem_append]; exact .inr (h3 q hq)⟩

theorem trod_fields2 {H : Type} {enc : TypeId × Value → H} {P : Program} {W : World} {b0 : Nat} {spare : Nat → Bool} {held : Bool} {fuel : Nat} {t : TypeId} {fs : Array Field} {cs : List Value} {x : DataW H × List MemPlace} (ht : P.underlying t = some (.struct fs))
    (h : DataW.trod enc P W b0 spare held fuel t cs = some x) :
    cs.length = P.cellsOf t ∧ ∃ fuel', ∀ f ∈ fs.toList, ∃ y, DataW.trod enc P W b0 spare held fuel' f.type ((cs.drop f.offset).take (P.cellsOf f.type)) = some y ∧ (∀ p ∈ y.2, p ∈ x.2) ∧ ∀ q ∈ y.1.weights P f.type, q ∈ x.1.weights P t := by
  cases fuel with
  | zero => simp [DataW.trod] at h
  | succ fuel =>
    simp only [DataW.trod, ht] at h
    split at h
    · rename_i hl
      refine ⟨hl, fuel, fun f hf => ?_⟩
      cases hm : fs.toList.mapM fun f => DataW.trod enc P W b0 spare held fuel f.type ((cs.drop f.offset).take (P.cellsOf f.type)) with
      | none => simp [hm] at h
      | some ys =>
        rw [hm] at h
        simp only [Option.map_some, Option.some.injEq] at h
        subst h
        obtain ⟨y, h1, h2, h3⟩ := mapM_fields (P := P) _ _ _ hm f hf
        refine ⟨y, h2, fun p hp => List.mem_flatMap.2 ⟨y, h1, hp⟩, fun q hq => ?_⟩
        simp only [DataW.weights, ht]
        exact h3 q hq
    · cases h

end Go.Own
