/- No place looked at is better than what is best, none ahead as good; what is found is at or above the threshold, and all of it: MarkerBest, where what it reads is of bulk at most 1048576. -/
import Derived.Test.YtibmokkalloabaaMkBb
import Derived.Test.YtibmokkalloabaaMkX
import Derived.Test.YtibmokkalloabaaRows
open Go.ChangeShapes Go.WideShapes Go.ChangeAt Go.RowKit Go.Own
namespace Go.Proofs.Ytibmokkalloabaa

theorem ownk : ownKnob Try.prog.godebug = none := by kernel_rfl
theorem laid : laidOutB Try.prog = true := by kernel_rfl

set_option maxRecDepth 100000 in
theorem markerBest_lifted (os : Os) (started : os.Started) (H : Type) (enc : TypeId × Value → H) (F : Stop.Interp) :
    ReturnsInHanded {} Try.checked os 9 .any ((Rows.OpenSpec.upto Rows.markerBestSpec).pre6 enc Try.prog Try.f9 Rows.markerBestUptoRow.domain false) (((Rows.OpenSpec.upto Rows.markerBestSpec).at F).post enc Try.prog Try.f9 false true false false) := by
  refine law_of_walk_upto (C := Try.checked) (s := Rows.OpenSpec.upto Rows.markerBestSpec) (k := Rows.uptoSmall) rfl (tb := 4) ownk started (by kernel_rfl) Try.func9 laid
    (OpenSpec.witness (enc := enc) (C := Try.checked) (s := Rows.OpenSpec.upto Rows.markerBestSpec) (k := Rows.uptoSmall) rfl false ⟨#[], #[.agg #[.int .u64 0, .int .i64 0, .int .i64 0, .slice none 0 0, .int .i64 0, .int .i64 0, .int .i64 0], .int .i64 0], []⟩ 8 (by kernel_rfl) (by kernel_rfl) (by kernel_rfl)
      (x := ([.agg [.agg [.lit (.int .u64 0), .lit (.int .i64 0)], .lit (.int .i64 0), .nil, .lit (.int .i64 0), .lit (.int .i64 0), .lit (.int .i64 0)], .lit (.int .i64 0)], [], [])) (by kernel_rfl) rfl (by kernel_rfl)) (by rfl) Try.underlying4 rfl rfl rfl ?_ ?_ ?_
  · intro ds hds
    rw [Try.params9] at hds
    match ds, hds with
    | [_, _], _ => exact ⟨rfl, rfl, rfl⟩
  · rw [Try.params9]
    intro t ht
    simp only [List.mem_cons, List.not_mem_nil, or_false] at ht
    rcases ht with rfl | rfl
    all_goals exact ⟨by kernel_rfl, of_decide_eq_true (by kernel_rfl)⟩
  intro W base args ds ps hval0 hA hlt hw0 hk
  have hval : ∀ (j : Nat) t v, Try.f9.params[j]? = some t → args[j]? = some v → Value.okWide Try.prog W .any base t v := hval0
  have hw : ∀ q ∈ DataW.weightsEach Try.prog Try.f9.params.toList ds, q ≤ reachBytes := hw0
  clear hval0 hw0
  rw [Try.params9] at hA hval hw
  obtain ⟨v0, vs0, d0, ds0, p0, q0, hargs, rfl, rfl, h0, r0⟩ := trodAll_cons hA
  obtain ⟨v1, vs1, d1, ds1, p1, q1, rfl, rfl, rfl, h1, r1⟩ := trodAll_cons r0
  obtain ⟨rfl, rfl, rfl⟩ := trodAll_nil r1
  obtain rfl : args = #[v0, v1] := by cases args; simp_all
  clear hargs
  obtain ⟨cs, B, n, N, ao, m, cap, ys, fr, tu, th, rfl, hL, hu⟩ := open_lookU (hval 0 47 v0 rfl rfl) h0 (fun p hp => hlt p (by simp [hp])) (fun q hq => hw q (by simp [DataW.weightsEach, hq]))
  have hm := Nat.le_trans hu (bulks.bound hk _ (by simp))
  obtain ⟨rfl, lB, ln, lN, lR, lm, lf, lt, lth⟩ := hL
  obtain ⟨mo, rfl, rfl, rfl, wmo⟩ := open_int Try.underlying3 (hval 1 3 v1 rfl rfl) h1
  have hmo := int_wf wmo

  exact (bestl_walk B n N lB ys (oldA W) ao m cap lR hm fr tu th mo lth hmo W [] (Hold.start W)).mono fun e w' ⟨he, h⟩ => ⟨he, h.old⟩

theorem markerBestUpto_proved : Rows.MarkerBestUptoSaid :=
  OpenClaim.holds_of_cond 9 Try.f9 rfl rfl rfl rfl rfl rfl rfl ⟨rfl, rfl, rfl, rfl, rfl⟩ rfl rfl rfl rfl rfl (by kernel_rfl) Try.func9 (by kernel_rfl)
    (of_decide_eq_true (by kernel_rfl)) (by unfold Func.isWrapper; first | (rw [if_pos (by decide +kernel)]; kernel_rfl) | (rw [if_neg (by decide +kernel)]; exact ⟨rfl, rfl⟩))
    (fun os started H enc _ F => markerBest_lifted os started H enc F)
#print axioms markerBestUpto_proved

end Go.Proofs.Ytibmokkalloabaa
