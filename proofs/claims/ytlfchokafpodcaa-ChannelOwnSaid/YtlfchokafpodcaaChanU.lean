/- The laws that play scripts, proved. -/
import Derived.Test.YtlfchokafpodcaaChanQ
import Derived.Test.YtlfchokafpodcaaRows
open Go.ChangeShapes Go.WideShapes Go.ChangeAt Go.RowKit Go.Own
namespace Go.Proofs.Ytlfchokafpodcaa

theorem ownk : ownKnob Try.prog.godebug = none := by kernel_rfl
theorem laid : laidOutB Try.prog = true := by kernel_rfl

set_option maxRecDepth 100000 in
theorem channelOwn_lifted (os : Os) (started : os.Started) (H : Type) (enc : TypeId × Value → H) :
    ReturnsInHanded {} Try.checked os 3 .any (Rows.channelOwnSpec.pre6 enc Try.prog Try.f3 Rows.channelOwnRow.domain false) (Rows.channelOwnSpec.post enc Try.prog Try.f3 false true false false) := by
  refine law_of_walk (C := Try.checked) (tb := 4) ownk started (by kernel_rfl) Try.func3 laid
    (ChangeSpec.witness6 (enc := enc) (C := Try.checked) false ⟨#[], #[.slice none 0 0, .int .i64 0], []⟩ 8 (by kernel_rfl) (by kernel_rfl) (by kernel_rfl) (by kernel_rfl)) (by rfl) Try.underlying4 rfl ?_ ?_ ?_
  · intro ds hds
    rw [Try.params3] at hds
    match ds, hds with
    | [_, _], _ => exact ⟨rfl, rfl, rfl⟩
  · rw [Try.params3]
    intro t ht
    simp only [List.mem_cons, List.not_mem_nil, or_false] at ht
    rcases ht with rfl | rfl
    all_goals exact ⟨by kernel_rfl, of_decide_eq_true (by kernel_rfl)⟩
  intro W base args ds ps hval0 hA hlt hw0
  have hval : ∀ (j : Nat) t v, Try.f3.params[j]? = some t → args[j]? = some v → Value.okWide Try.prog W .any base t v := hval0
  have hw : ∀ q ∈ DataW.weightsEach Try.prog Try.f3.params.toList ds, q ≤ reachBytes := hw0
  clear hval0 hw0
  rw [Try.params3] at hA hval hw
  obtain ⟨v0, vs0, d0, ds0, p0, q0, hargs, rfl, rfl, h0, r0⟩ := trodAll_cons hA
  obtain ⟨v1, vs1, d1, ds1, p1, q1, rfl, rfl, rfl, h1, r1⟩ := trodAll_cons r0
  obtain ⟨rfl, rfl, rfl⟩ := trodAll_nil r1
  obtain rfl : args = #[v0, v1] := by cases args; simp_all
  clear hargs
  have e0 := okWide_slice Try.underlying22 (hval 0 22 v0 rfl rfl)
  obtain ⟨fuel0, hf0⟩ := h0
  obtain ⟨ao0, n0, cap0, l0, S0, ev0, hrd0, hS0, hn0⟩ := trod_bytes Try.underlying22 Try.underlying5 cells5 bytes5 hf0 (fun p hp => hlt p (by simp [hp])) (fun q hq => hw q (by simp [DataW.weightsEach, hq]))
  obtain ⟨ea0, en0, ec0, rfl⟩ := e0
  simp [Value.cells] at ev0
  obtain ⟨rfl, rfl, rfl⟩ := ev0
  obtain ⟨a, rfl, rfl, rfl, wa⟩ := open_int Try.underlying3 (hval 1 3 v1 rfl rfl) h1
  have ga : -9223372036854775808 ≤ a ∧ a ≤ 9223372036854775807 := by
    have := wa
    simp only [Lit.wf, IntKind.has, IntKind.min, IntKind.max, IntKind.bits, IntKind.signed, Bool.and_eq_true, decide_eq_true_eq] at this
    simp at this
    omega
  exact own_walk l0 S0 _ _ _ a W hrd0 hS0 hn0 ga.1 ga.2

theorem channelOwn_proved : Rows.ChannelOwnSaid :=
  OpenClaim.holds_of_wide 3 Try.f3 rfl rfl rfl rfl rfl rfl rfl ⟨rfl, rfl, rfl, rfl, rfl⟩ rfl rfl rfl rfl rfl (by kernel_rfl) Try.func3 (by kernel_rfl)
    (of_decide_eq_true (by kernel_rfl)) (by unfold Func.isWrapper; first | (rw [if_pos (by decide +kernel)]; kernel_rfl) | (rw [if_neg (by decide +kernel)]; exact ⟨rfl, rfl⟩))
    (fun os started H enc _ => channelOwn_lifted os started H enc)
#print axioms channelOwn_proved

end Go.Proofs.Ytlfchokafpodcaa
