/- Every marker's check, row and sidelobe is the reference's: MarkerTells, without a condition. -/
import Derived.Test.YtibmokkalloabaaMkP
import Derived.Test.YtibmokkalloabaaMkQ
import Derived.Test.YtibmokkalloabaaRows
open Go.ChangeShapes Go.WideShapes Go.ChangeAt Go.RowKit Go.Own
namespace Go.Proofs.Ytibmokkalloabaa

theorem ownk : ownKnob Try.prog.godebug = none := by kernel_rfl
theorem laid : laidOutB Try.prog = true := by kernel_rfl

set_option maxRecDepth 100000 in
theorem markerTells_lifted (os : Os) (started : os.Started) (H : Type) (enc : TypeId × Value → H) :
    ReturnsInHanded {} Try.checked os 7 .any (Rows.markerTellsSpec.pre6 enc Try.prog Try.f7 Rows.markerTellsRow.domain false) (Rows.markerTellsSpec.post enc Try.prog Try.f7 false true false false) := by
  refine law_of_walk (C := Try.checked) (tb := 4) ownk started (by kernel_rfl) Try.func7 laid
    (ChangeSpec.witness6 (enc := enc) (C := Try.checked) false ⟨#[], #[.agg #[.int .u64 0, .int .i64 0]], []⟩ 8 (by kernel_rfl) (by kernel_rfl) (by kernel_rfl) (by kernel_rfl)) (by rfl) Try.underlying4 rfl ?_ ?_ ?_
  · intro ds hds
    rw [Try.params7] at hds
    match ds, hds with
    | [_], _ => exact ⟨rfl, rfl, rfl⟩
  · rw [Try.params7]
    intro t ht
    simp only [List.mem_cons, List.not_mem_nil, or_false] at ht
    rcases ht with rfl
    all_goals exact ⟨by kernel_rfl, of_decide_eq_true (by kernel_rfl)⟩
  intro W base args ds ps hval0 hA hlt hw0
  have hval : ∀ (j : Nat) t v, Try.f7.params[j]? = some t → args[j]? = some v → Value.okWide Try.prog W .any base t v := hval0
  have hw : ∀ q ∈ DataW.weightsEach Try.prog Try.f7.params.toList ds, q ≤ reachBytes := hw0
  clear hval0 hw0
  rw [Try.params7] at hA hval hw
  obtain ⟨v0, vs0, d0, ds0, p0, q0, hargs, rfl, rfl, h0, r0⟩ := trodAll_cons hA
  obtain ⟨rfl, rfl, rfl⟩ := trodAll_nil r0
  obtain rfl : args = #[v0] := by cases args; simp_all
  clear hargs
  obtain ⟨mB, mn, rfl, mb, mw⟩ := open_marker (hval 0 24 v0 rfl rfl) h0
  exact (tells_walk mB mn mb W [oldA W] (Hold.start W)).mono fun e w' ⟨he, h⟩ => ⟨he, h.old⟩

theorem markerTells_proved : Rows.MarkerTellsSaid :=
  OpenClaim.holds_of_wide 7 Try.f7 rfl rfl rfl rfl rfl rfl rfl ⟨rfl, rfl, rfl, rfl, rfl⟩ rfl rfl rfl rfl rfl (by kernel_rfl) Try.func7 (by kernel_rfl)
    (of_decide_eq_true (by kernel_rfl)) (by unfold Func.isWrapper; first | (rw [if_pos (by decide +kernel)]; kernel_rfl) | (rw [if_neg (by decide +kernel)]; exact ⟨rfl, rfl⟩))
    (fun os started H enc _ => markerTells_lifted os started H enc)
#print axioms markerTells_proved

end Go.Proofs.Ytibmokkalloabaa
