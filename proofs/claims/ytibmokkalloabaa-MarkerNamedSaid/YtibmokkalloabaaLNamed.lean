/- Every name is the reference's marker: MarkerNamed, without a condition. -/
import Derived.Test.YtibmokkalloabaaMkK
import Derived.Test.YtibmokkalloabaaLaw
import Derived.Test.YtibmokkalloabaaRows
open Go.ChangeShapes Go.WideShapes Go.ChangeAt Go.RowKit Go.Own
namespace Go.Proofs.Ytibmokkalloabaa

theorem ownk : ownKnob Try.prog.godebug = none := by kernel_rfl
theorem laid : laidOutB Try.prog = true := by kernel_rfl

set_option maxRecDepth 100000 in
theorem markerNamed_lifted (os : Os) (started : os.Started) (H : Type) (enc : TypeId × Value → H) :
    ReturnsInHanded {} Try.checked os 3 .any (Rows.markerNamedSpec.pre6 enc Try.prog Try.f3 Rows.markerNamedRow.domain false) (Rows.markerNamedSpec.post enc Try.prog Try.f3 false true false false) := by
  refine law_of_walk (C := Try.checked) (tb := 4) ownk started (by kernel_rfl) Try.func3 laid
    (ChangeSpec.witness6 (enc := enc) (C := Try.checked) false ⟨#[], #[.string ⟨#[]⟩], []⟩ 8 (by kernel_rfl) (by kernel_rfl) (by kernel_rfl) (by kernel_rfl)) (by rfl) Try.underlying4 rfl ?_ ?_ ?_
  · intro ds hds
    rw [Try.params3] at hds
    match ds, hds with
    | [_], _ => exact ⟨rfl, rfl, rfl⟩
  · rw [Try.params3]
    intro t ht
    simp only [List.mem_cons, List.not_mem_nil, or_false] at ht
    rcases ht with rfl
    all_goals exact ⟨by kernel_rfl, of_decide_eq_true (by kernel_rfl)⟩
  intro W base args ds ps hval0 hA hlt hw0
  have hval : ∀ (j : Nat) t v, Try.f3.params[j]? = some t → args[j]? = some v → Value.okWide Try.prog W .any base t v := hval0
  have hw : ∀ q ∈ DataW.weightsEach Try.prog Try.f3.params.toList ds, q ≤ reachBytes := hw0
  clear hval0 hw0
  rw [Try.params3] at hA hval hw
  obtain ⟨v0, vs0, d0, ds0, p0, q0, hargs, rfl, rfl, h0, r0⟩ := trodAll_cons hA
  obtain ⟨rfl, rfl, rfl⟩ := trodAll_nil r0
  obtain rfl : args = #[v0] := by cases args; simp_all
  clear hargs
  obtain ⟨⟨⟨s⟩⟩, rfl, rfl, rfl, ws⟩ := Go.ChangeMaps.open_string Try.underlying9 (hval 0 9 v0 rfl rfl) h0
  exact (mnamed_walk s W [oldA W] (Hold.start W)).mono fun e w' ⟨he, h⟩ => ⟨he, h.old⟩

theorem markerNamed_proved : Rows.MarkerNamedSaid :=
  OpenClaim.holds_of_wide 3 Try.f3 rfl rfl rfl rfl rfl rfl rfl ⟨rfl, rfl, rfl, rfl, rfl⟩ rfl rfl rfl rfl rfl (by kernel_rfl) Try.func3 (by kernel_rfl)
    (of_decide_eq_true (by kernel_rfl)) (by unfold Func.isWrapper; first | (rw [if_pos (by decide +kernel)]; kernel_rfl) | (rw [if_neg (by decide +kernel)]; exact ⟨rfl, rfl⟩))
    (fun os started H enc _ => markerNamed_lifted os started H enc)
#print axioms markerNamed_proved

end Go.Proofs.Ytibmokkalloabaa
