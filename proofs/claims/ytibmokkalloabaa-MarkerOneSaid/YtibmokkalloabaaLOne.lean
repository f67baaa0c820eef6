/- A level that is changed by d changes what it is worth by twice d: MarkerOne, without a condition. -/
import Derived.Test.YtibmokkalloabaaMkZ
import Derived.Test.YtibmokkalloabaaMkQ
import Derived.Test.YtibmokkalloabaaRows
open Go.ChangeShapes Go.WideShapes Go.ChangeAt Go.RowKit Go.Own
namespace Go.Proofs.Ytibmokkalloabaa

theorem ownk : ownKnob Try.prog.godebug = none := by kernel_rfl
theorem laid : laidOutB Try.prog = true := by kernel_rfl

theorem nat_of_wf8 {n : Int} (h : (Lit.int .u8 n).wf = true) : ∃ x : Nat, n = (x : Int) ∧ x < 256 := by
  simp only [Lit.wf, IntKind.has, IntKind.min, IntKind.max, IntKind.bits, IntKind.signed, Bool.and_eq_true, decide_eq_true_eq] at h
  simp at h
  exact ⟨n.toNat, by omega, by omega⟩

set_option maxRecDepth 100000 in
theorem markerOne_lifted (os : Os) (started : os.Started) (H : Type) (enc : TypeId × Value → H) :
    ReturnsInHanded {} Try.checked os 6 .any (Rows.markerOneSpec.pre6 enc Try.prog Try.f6 Rows.markerOneRow.domain false) (Rows.markerOneSpec.post enc Try.prog Try.f6 false true false false) := by
  refine law_of_walk (C := Try.checked) (tb := 4) ownk started (by kernel_rfl) Try.func6 laid
    (ChangeSpec.witness6 (enc := enc) (C := Try.checked) false ⟨#[], #[.agg #[.int .u64 0, .int .i64 0, .int .i64 0, .slice none 0 0, .int .i64 0, .int .i64 0, .int .i64 0], .int .i64 0, .int .u8 0], []⟩ 8 (by kernel_rfl) (by kernel_rfl) (by kernel_rfl) (by kernel_rfl)) (by rfl) Try.underlying4 rfl ?_ ?_ ?_
  · intro ds hds
    rw [Try.params6] at hds
    match ds, hds with
    | [_, _, _], _ => exact ⟨rfl, rfl, rfl⟩
  · rw [Try.params6]
    intro t ht
    simp only [List.mem_cons, List.not_mem_nil, or_false] at ht
    rcases ht with rfl | rfl | rfl
    all_goals exact ⟨by kernel_rfl, of_decide_eq_true (by kernel_rfl)⟩
  intro W base args ds ps hval0 hA hlt hw0
  have hval : ∀ (j : Nat) t v, Try.f6.params[j]? = some t → args[j]? = some v → Value.okWide Try.prog W .any base t v := hval0
  have hw : ∀ q ∈ DataW.weightsEach Try.prog Try.f6.params.toList ds, q ≤ reachBytes := hw0
  clear hval0 hw0
  rw [Try.params6] at hA hval hw
  obtain ⟨v0, vs0, d0, ds0, p0, q0, hargs, rfl, rfl, h0, r0⟩ := trodAll_cons hA
  obtain ⟨v1, vs1, d1, ds1, p1, q1, rfl, rfl, rfl, h1, r1⟩ := trodAll_cons r0
  obtain ⟨v2, vs2, d2, ds2, p2, q2, rfl, rfl, rfl, h2, r2⟩ := trodAll_cons r1
  obtain ⟨rfl, rfl, rfl⟩ := trodAll_nil r2
  obtain rfl : args = #[v0, v1, v2] := by cases args; simp_all
  clear hargs
  obtain ⟨cs, B, n, N, ao, m, cap, ys, fr, tu, th, rfl, hL⟩ := open_look (hval 0 47 v0 rfl rfl) h0 (fun p hp => hlt p (by simp [hp])) (fun q hq => hw q (by simp [DataW.weightsEach, hq]))
  obtain ⟨rfl, lB, lI, lN, lR, lm, lf, lt, lth⟩ := hL
  obtain ⟨pt, rfl, rfl, rfl, wpt⟩ := open_int Try.underlying3 (hval 1 3 v1 rfl rfl) h1
  obtain ⟨l, rfl, rfl, rfl, wl⟩ := open_int Try.underlying5 (hval 2 5 v2 rfl rfl) h2
  obtain ⟨ln, rfl, lb⟩ := nat_of_wf8 wl
  exact (one_walk B n N lB ys (oldA W) ao m cap lR lm fr tu th pt ln lb ⟨‹I64 n›.1, ‹I64 n›.2⟩ W [] (Hold.start W)).mono fun e w' ⟨he, h⟩ => ⟨he, h.old⟩

theorem markerOne_proved : Rows.MarkerOneSaid :=
  OpenClaim.holds_of_wide 6 Try.f6 rfl rfl rfl rfl rfl rfl rfl ⟨rfl, rfl, rfl, rfl, rfl⟩ rfl rfl rfl rfl rfl (by kernel_rfl) Try.func6 (by kernel_rfl)
    (of_decide_eq_true (by kernel_rfl)) (by unfold Func.isWrapper; first | (rw [if_pos (by decide +kernel)]; kernel_rfl) | (rw [if_neg (by decide +kernel)]; exact ⟨rfl, rfl⟩))
    (fun os started H enc _ => markerOne_lifted os started H enc)
#print axioms markerOne_proved

end Go.Proofs.Ytibmokkalloabaa
