/- Buckets alone: what Put and Pop do, and what the reference does thereafter (for BucketsLeft). -/
import Derived.Test.YtpffofliemooiaaBuAa
open Go.RowKit Go.Own
namespace Go.Proofs.Ytpffofliemooiaa

structure One (d lo hi cp : Int) (S : BS) : Prop where
  fit : Fit d lo hi cp S
  good : Good S
  cap : (S.n : Int) ≤ cp
section
variable {d lo hi cp : Int} {S : BS} {T : RS}
theorem Two.one (H : Two d lo hi cp S T) : One d lo hi cp S := ⟨H.fit, H.good, H.cap⟩
theorem One.c1 (H : One d lo hi cp S) : 1 ≤ S.cp := by rw [H.fit.ec]; exact H.fit.c1
theorem One.n9 (H : One d lo hi cp S) : (S.n : Int) ≤ 65536 := Int.le_trans H.cap H.fit.c2
theorem One.short (H : One d lo hi cp S) : ∀ xs ∈ S.rows, xs.length ≤ 65536 := H.good.short (by have := H.n9; omega)

theorem put_one (H : One d lo hi cp S) (b : Nat) (m id : Int) (hm : I64 m) (w : World) (L : List Asn) (h : Hold w (bkA b S :: L)) :
    Calls Try.prog 12 #[.pointer (some ⟨b, 0, none⟩), .int .i64 m, .int .i64 id] w fun e w' => ∃ x dr z S1, e = .returned (.tuple #[.int .i64 x, .bool dr, .int .i64 z]) ∧ One d lo hi cp S1 ∧ (∀ T, Two d lo hi cp S T → RPut d lo hi cp T m id x dr z S1) ∧ Hold w' (bkA b S1 :: L) := by
  have F := H.fit
  by_cases hf : m < S.lo ∨ S.hi < m
  · refine (put_farx b S H.c1 m id hf w L h).mono ?_
    rintro e w' ⟨he, hh⟩
    refine ⟨0, false, 11, S, he, H, fun T H r w L hr => ?_, hh⟩
    have R := H.rel
    refine (rput_far r T m id (by rw [R.lo, R.hi]; exact hf) w L hr).mono ?_
    rintro e w' ⟨he, hh⟩
    exact ⟨he, T, H, hh⟩
  · have h1 : S.lo ≤ m := by omega
    have h2 : m ≤ S.hi := by omega
    obtain ⟨j, hj, hjr⟩ := F.at (by rw [← F.el]; exact h1) (by rw [← F.eh]; exact h2)
    have hd1 : 1 ≤ S.d := by rw [F.ed]; exact F.d1
    have hj2 : m / S.d = (j : Int) + S.base := by omega
    have G1 := good_add id H.good hjr
    have hn1 : (addS S j id).n = S.n + 1 := rfl
    by_cases hc : (S.n : Int) < cp
    · refine (put_ok b S H.c1 m id hm hd1 h1 h2 j hj hjr H.good.len H.n9 (by rw [F.ec]; exact hc) H.short H.good.low w L h).mono ?_
      rintro e w' ⟨he, hh⟩
      refine ⟨0, false, 0, addS S j id, he, ⟨F.add j id, G1, by rw [hn1]; omega⟩, fun T H2 r w L hr => ?_, hh⟩
      have R := H2.rel
      have PR := fun r w L hr => rput_ok r T m id hm (by rw [R.d]; exact hd1) (by rw [R.d, F.ed]; exact F.d2) (by rw [R.lo]; exact h1) (by rw [R.hi]; exact h2) (by rw [R.n, R.cp, F.ec]; exact H.cap) (by rw [R.cp, F.ec]; exact F.c2) w L hr
      rw [show m / T.d = (j : Int) + S.base by rw [R.d]; exact hj2] at PR
      have en : T.L.length = S.n := R.n
      have ec : T.cp = cp := by rw [R.cp, F.ec]
      have R1 := rel_add R hjr id
      refine (PR r w L hr).mono ?_
      rintro e w' (⟨-, he, hh⟩ | ⟨hn, -⟩)
      · exact ⟨he, _, ⟨F.add j id, G1, R1, by rw [hn1]; omega⟩, hh⟩
      · omega
    · have hceq : (S.n : Int) = cp := by have := H.cap; omega
      obtain ⟨s1, s2, s3⟩ := G1.holds (by omega)
      refine (put_drop b S H.c1 m id hm hd1 h1 h2 j hj hjr H.good.len H.n9 (by rw [F.ec]; exact hceq) H.short H.good.low s1 s2 F.t64 F.b64 w L h).mono ?_
      rintro e w' ⟨he, hh⟩
      refine ⟨_, true, 0, cutS (addS S j id), he, ⟨(F.add j id).cut, good_cut G1 (by omega), by show ((S.n + 1 - 1 : Nat) : Int) ≤ cp; omega⟩, fun T H2 r w L hr => ?_, hh⟩
      have R := H2.rel
      have PR := fun r w L hr => rput_ok r T m id hm (by rw [R.d]; exact hd1) (by rw [R.d, F.ed]; exact F.d2) (by rw [R.lo]; exact h1) (by rw [R.hi]; exact h2) (by rw [R.n, R.cp, F.ec]; exact H.cap) (by rw [R.cp, F.ec]; exact F.c2) w L hr
      rw [show m / T.d = (j : Int) + S.base by rw [R.d]; exact hj2] at PR
      have en : T.L.length = S.n := R.n
      have ec : T.cp = cp := by rw [R.cp, F.ec]
      have R1 := rel_add R hjr id
      refine (PR r w L hr).mono ?_
      rintro e w' (⟨hn, -⟩ | ⟨-, k, x, hlow, hx, he, hh⟩)
      · omega
      · obtain ⟨q, hq, hx2, R2⟩ := rel_cut R1 G1 (by omega) hlow
        have hx3 : x = ((q : Int) + (addS S j id).base, outS (addS S j id)) := by
          have : some x = some _ := hx.symm.trans hx2
          exact Option.some.inj this
        subst hx3
        exact ⟨he, _, ⟨(F.add j id).cut, good_cut G1 (by omega), R2, by show ((S.n + 1 - 1 : Nat) : Int) ≤ cp; omega⟩, hh⟩

theorem pop_one (H : One d lo hi cp S) (b : Nat) (w : World) (L : List Asn) (h : Hold w (bkA b S :: L)) :
    Calls Try.prog 16 #[.pointer (some ⟨b, 0, none⟩)] w fun e w' => ∃ id at_ ok S1, e = .returned (.tuple #[.int .i64 id, .int .i64 at_, .bool ok]) ∧ One d lo hi cp S1 ∧ (∀ T, Two d lo hi cp S T → RPop d lo hi cp T id at_ ok S1) ∧ Hold w' (bkA b S1 :: L) := by
  by_cases hn : S.n = 0
  · refine (pop0 b S H.c1 hn w L h).mono ?_
    rintro e w' ⟨he, rfl⟩
    refine ⟨0, 0, false, S, he, H, fun T H r w L hr => ?_, h⟩
    refine (rpop0 r T (List.eq_nil_of_length_eq_zero (by rw [H.rel.n, hn])) w L hr).mono ?_
    rintro e w' ⟨he, hh⟩
    exact ⟨he, T, H, hh⟩
  · obtain ⟨s1, s2, s3⟩ := H.good.holds (by omega)
    refine (pop_ok b S H.c1 (by omega) H.n9 s1 s3 H.good.len H.fit.t64 H.fit.b64 H.short w L h).mono ?_
    rintro e w' ⟨he, hh⟩
    refine ⟨_, _, true, popS S, he, ⟨H.fit.pop, good_pop H.good (by omega), by have := H.cap; show ((S.n - 1 : Nat) : Int) ≤ cp; omega⟩, fun T H r w L hr => ?_, hh⟩
    refine (rpop_ok r T (by rw [H.rel.n]; omega) H.tl w L hr).mono ?_
    rintro e w' ⟨k, x, hb, hx, he, hh⟩
    obtain ⟨h1, R1⟩ := rel_pop H.rel H.good (by omega) hb
    have hx3 : x = ((hiAt S.rows S.top : Nat) + S.base, popV S) := Option.some.inj (hx.symm.trans h1)
    subst hx3
    exact ⟨he, _, ⟨H.fit.pop, good_pop H.good (by omega), R1, by have := H.cap; show ((S.n - 1 : Nat) : Int) ≤ cp; omega⟩, hh⟩

end

end Go.Proofs.Ytpffofliemooiaa
