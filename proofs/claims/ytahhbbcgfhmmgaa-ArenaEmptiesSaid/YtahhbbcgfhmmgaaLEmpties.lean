/- When all were dropped, in whatever order, nothing is left: ArenaEmpties, without a condition. -/
import Derived.Test.YtahhbbcgfhmmgaaArQ
import Derived.Test.YtahhbbcgfhmmgaaLaw
import Derived.Test.YtahhbbcgfhmmgaaRows
open Go.ChangeShapes Go.WideShapes Go.ChangeAt Go.RowKit Go.Own
namespace Go.Proofs.Ytahhbbcgfhmmgaa

theorem ownk : ownKnob Try.prog.godebug = none := by kernel_rfl
theorem laid : laidOutB Try.prog = true := by kernel_rfl

set_option maxRecDepth 100000 in
theorem arenaEmpties_lifted (os : Os) (started : os.Started) (H : Type) (enc : TypeId × Value → H) :
    ReturnsInHanded {} Try.checked os 3 .any (Rows.arenaEmptiesSpec.pre6 enc Try.prog Try.f3 Rows.arenaEmptiesRow.domain false) (Rows.arenaEmptiesSpec.post enc Try.prog Try.f3 false true false false) := by
  refine law_of_walk (C := Try.checked) (tb := 4) ownk started (by kernel_rfl) Try.func3 laid
    (ChangeSpec.witness6 (enc := enc) (C := Try.checked) false ⟨#[], #[.int .i64 0, .slice none 0 0, .slice none 0 0], []⟩ 8 (by kernel_rfl) (by kernel_rfl) (by kernel_rfl) (by kernel_rfl)) (by rfl) Try.underlying4 rfl ?_ ?_ ?_
  · intro ds hds
    rw [Try.params3] at hds
    match ds, hds with
    | [_, _, _], _ => exact ⟨rfl, rfl, rfl⟩
  · rw [Try.params3]
    intro t ht
    simp only [List.mem_cons, List.not_mem_nil, or_false] at ht
    rcases ht with rfl | rfl | rfl
    all_goals exact ⟨by kernel_rfl, of_decide_eq_true (by kernel_rfl)⟩
  intro W base args ds ps hval0 hA hlt hw0
  have hval : ∀ (j : Nat) t v, Try.f3.params[j]? = some t → args[j]? = some v → Value.okWide Try.prog W .any base t v := hval0
  have hw : ∀ q ∈ DataW.weightsEach Try.prog Try.f3.params.toList ds, q ≤ reachBytes := hw0
  clear hval0 hw0
  rw [Try.params3] at hA hval hw
  obtain ⟨v0, vs0, d0, ds0, p0, q0, hargs, rfl, rfl, h0, r0⟩ := trodAll_cons hA
  obtain ⟨v1, vs1, d1, ds1, p1, q1, rfl, rfl, rfl, h1, r1⟩ := trodAll_cons r0
  obtain ⟨v2, vs2, d2, ds2, p2, q2, rfl, rfl, rfl, h2, r2⟩ := trodAll_cons r1
  obtain ⟨rfl, rfl, rfl⟩ := trodAll_nil r2
  obtain rfl : args = #[v0, v1, v2] := by cases args; simp_all
  clear hargs
  obtain ⟨c, rfl, rfl, rfl, wc⟩ := open_int Try.underlying3 (hval 0 3 v0 rfl rfl) h0
  obtain ⟨ao, n, cap, rfl, hO, hn⟩ := open_ops (hval 1 22 v1 rfl rfl) h1 (fun p hp => hlt p (by simp [hp])) (fun q hq => hw q (by simp [DataW.weightsEach, hq]))
  obtain ⟨oo, on, ocap, zs, rfl, hZ, -⟩ := open_order (hval 2 23 v2 rfl rfl) h2 (fun p hp => hlt p (by simp [hp])) (fun q hq => hw q (by simp [DataW.weightsEach, hq]))
  by_cases hc : 1 ≤ c ∧ c ≤ 65536
  · obtain ⟨m, rfl⟩ := Int.eq_ofNat_of_zero_le (show 0 ≤ c by omega)
    exact (empties_good m (by omega) (by omega) (oldA W) ao n cap hO (by omega) oo on ocap zs hZ W [] (Hold.start W)).mono fun e w' ⟨he, h⟩ => ⟨he, h.old⟩
  · exact (empties_bad c hc _ _ W [oldA W] (Hold.start W)).mono fun e w' ⟨he, h⟩ => ⟨he, h.old⟩

theorem arenaEmpties_proved : Rows.ArenaEmptiesSaid :=
  OpenClaim.holds_of_wide 3 Try.f3 rfl rfl rfl rfl rfl rfl rfl ⟨rfl, rfl, rfl, rfl, rfl⟩ rfl rfl rfl rfl rfl (by kernel_rfl) Try.func3 (by kernel_rfl)
    (of_decide_eq_true (by kernel_rfl)) (by unfold Func.isWrapper; first | (rw [if_pos (by decide +kernel)]; kernel_rfl) | (rw [if_neg (by decide +kernel)]; exact ⟨rfl, rfl⟩))
    (fun os started H enc _ => arenaEmpties_lifted os started H enc)
#print axioms arenaEmpties_proved

end Go.Proofs.Ytahhbbcgfhmmgaa
