/- What befalls a channel: set, slipped, inserted in the row that was looked at: ChannelBefalls, without a condition. -/
import Derived.Test.YtlfchokafpodcaaBfB
import Derived.Test.YtlfchokafpodcaaLaw
import Derived.Test.YtlfchokafpodcaaRows
open Go.ChangeShapes Go.WideShapes Go.ChangeAt Go.RowKit Go.Own
namespace Go.Proofs.Ytlfchokafpodcaa

theorem ownk : ownKnob Try.prog.godebug = none := by kernel_rfl
theorem laid : laidOutB Try.prog = true := by kernel_rfl

set_option maxRecDepth 100000 in
theorem channelBefalls_lifted (os : Os) (started : os.Started) (H : Type) (enc : TypeId × Value → H) :
    ReturnsInHanded {} Try.checked os 5 .any (Rows.channelBefallsSpec.pre6 enc Try.prog Try.f5 Rows.channelBefallsRow.domain false) (Rows.channelBefallsSpec.post enc Try.prog Try.f5 false true false false) := by
  refine law_of_walk (C := Try.checked) (tb := 4) ownk started (by kernel_rfl) Try.func5 laid
    (ChangeSpec.witness6 (enc := enc) (C := Try.checked) false ⟨#[], #[.slice none 0 0, .slice none 0 0], []⟩ 8 (by kernel_rfl) (by kernel_rfl) (by kernel_rfl) (by kernel_rfl)) (by rfl) Try.underlying4 rfl ?_ ?_ ?_
  · intro ds hds
    rw [Try.params5] at hds
    match ds, hds with
    | [_, _], _ => exact ⟨rfl, rfl, rfl⟩
  · rw [Try.params5]
    intro t ht
    simp only [List.mem_cons, List.not_mem_nil, or_false] at ht
    rcases ht with rfl | rfl
    all_goals exact ⟨by kernel_rfl, of_decide_eq_true (by kernel_rfl)⟩
  intro W base args ds ps hval0 hA hlt hw0
  have hval : ∀ (j : Nat) t v, Try.f5.params[j]? = some t → args[j]? = some v → Value.okWide Try.prog W .any base t v := hval0
  have hw : ∀ q ∈ DataW.weightsEach Try.prog Try.f5.params.toList ds, q ≤ reachBytes := hw0
  clear hval0 hw0
  rw [Try.params5] at hA hval hw
  obtain ⟨v0, vs0, d0, ds0, p0, q0, hargs, rfl, rfl, h0, r0⟩ := trodAll_cons hA
  obtain ⟨v1, vs1, d1, ds1, p1, q1, rfl, rfl, rfl, h1, r1⟩ := trodAll_cons r0
  obtain ⟨rfl, rfl, rfl⟩ := trodAll_nil r1
  obtain rfl : args = #[v0, v1] := by cases args; simp_all
  clear hargs
  obtain ⟨yo, yn, yc, ys, rfl, hY, hyn⟩ := open_w (hval 0 22 v0 rfl rfl) h0 (fun p hp => hlt p (by simp [hp])) (fun q hq => hw q (by simp [DataW.weightsEach, hq]))
  obtain ⟨ao, n, cap, rfl, hO, hn⟩ := open_ops (hval 1 36 v1 rfl rfl) h1 (fun p hp => hlt p (by simp [hp])) (fun q hq => hw q (by simp [DataW.weightsEach, hq]))
  exact (befalls_walk ys (oldA W) yo yn yc hY hyn ao n cap hO hn W [] (Hold.start W)).mono fun e w' ⟨he, h⟩ => ⟨he, h.old⟩

theorem channelBefalls_proved : Rows.ChannelBefallsSaid :=
  OpenClaim.holds_of_wide 5 Try.f5 rfl rfl rfl rfl rfl rfl rfl ⟨rfl, rfl, rfl, rfl, rfl⟩ rfl rfl rfl rfl rfl (by kernel_rfl) Try.func5 (by kernel_rfl)
    (of_decide_eq_true (by kernel_rfl)) (by unfold Func.isWrapper; first | (rw [if_pos (by decide +kernel)]; kernel_rfl) | (rw [if_neg (by decide +kernel)]; exact ⟨rfl, rfl⟩))
    (fun os started H enc _ => channelBefalls_lifted os started H enc)
#print axioms channelBefalls_proved

end Go.Proofs.Ytlfchokafpodcaa
