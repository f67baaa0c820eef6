/- Every New, and every calls: what is dropped, popped, seen, gone over is the reference's: BucketsPlays, without a condition. -/
import Derived.Test.YtpffofliemooiaaBuAa
import Derived.Test.YtpffofliemooiaaRows
open Go.ChangeShapes Go.WideShapes Go.ChangeAt Go.RowKit Go.Own
namespace Go.Proofs.Ytpffofliemooiaa

theorem ownk : ownKnob Try.prog.godebug = none := by kernel_rfl
theorem laid : laidOutB Try.prog = true := by kernel_rfl

set_option maxRecDepth 100000 in
theorem bucketsPlays_lifted (os : Os) (started : os.Started) (H : Type) (enc : TypeId × Value → H) :
    ReturnsInHanded {} Try.checked os 7 .any (Rows.bucketsPlaysSpec.pre6 enc Try.prog Try.f7 Rows.bucketsPlaysRow.domain false) (Rows.bucketsPlaysSpec.post enc Try.prog Try.f7 false true false false) := by
  refine law_of_walk (C := Try.checked) (tb := 4) ownk started (by kernel_rfl) Try.func7 laid
    (ChangeSpec.witness6 (enc := enc) (C := Try.checked) false ⟨#[], #[.agg #[.int .i64 0, .int .i64 0, .int .i64 0, .int .i64 0], .slice none 0 0], []⟩ 8 (by kernel_rfl) (by kernel_rfl) (by kernel_rfl) (by kernel_rfl)) (by rfl) Try.underlying4 rfl ?_ ?_ ?_
  · intro ds hds
    rw [Try.params7] at hds
    match ds, hds with
    | [_, _], _ => exact ⟨rfl, rfl, rfl⟩
  · rw [Try.params7]
    intro t ht
    simp only [List.mem_cons, List.not_mem_nil, or_false] at ht
    rcases ht with rfl | rfl
    all_goals exact ⟨by kernel_rfl, of_decide_eq_true (by kernel_rfl)⟩
  intro W base args ds ps hval0 hA hlt hw0
  have hval : ∀ (j : Nat) t v, Try.f7.params[j]? = some t → args[j]? = some v → Value.okWide Try.prog W .any base t v := hval0
  have hw : ∀ q ∈ DataW.weightsEach Try.prog Try.f7.params.toList ds, q ≤ reachBytes := hw0
  clear hval0 hw0
  rw [Try.params7] at hA hval hw
  obtain ⟨v0, vs0, d0, ds0, p0, q0, hargs, rfl, rfl, h0, r0⟩ := trodAll_cons hA
  obtain ⟨v1, vs1, d1, ds1, p1, q1, rfl, rfl, rfl, h1, r1⟩ := trodAll_cons r0
  obtain ⟨rfl, rfl, rfl⟩ := trodAll_nil r1
  obtain rfl : args = #[v0, v1] := by cases args; simp_all
  clear hargs
  obtain ⟨d, lo, hi, cp, rfl, id, ilo, ihi, icp⟩ := open_setup (hval 0 23 v0 rfl rfl) h0
  obtain ⟨ao, n, cap, zs, rfl, hR, hz, hzs, hn⟩ := open_ops (hval 1 45 v1 rfl rfl) h1 (fun p hp => hlt p (by simp [hp])) (fun q hq => hw q (by simp [DataW.weightsEach, hq]))
  exact (plays_walk d lo hi cp ilo ihi zs hzs (oldA W) ao n cap hR hz hn W [] (Hold.start W)).mono fun e w' ⟨he, h⟩ => ⟨he, h.old⟩

theorem bucketsPlays_proved : Rows.BucketsPlaysSaid :=
  OpenClaim.holds_of_wide 7 Try.f7 rfl rfl rfl rfl rfl rfl rfl ⟨rfl, rfl, rfl, rfl, rfl⟩ rfl rfl rfl rfl rfl (by kernel_rfl) Try.func7 (by kernel_rfl)
    (of_decide_eq_true (by kernel_rfl)) (by unfold Func.isWrapper; first | (rw [if_pos (by decide +kernel)]; kernel_rfl) | (rw [if_neg (by decide +kernel)]; exact ⟨rfl, rfl⟩))
    (fun os started H enc _ => bucketsPlays_lifted os started H enc)
#print axioms bucketsPlays_proved

end Go.Proofs.Ytpffofliemooiaa
