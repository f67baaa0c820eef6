/- Buckets and the reference side by side: each call of both. -/
import Derived.Test.YtpffofliemooiaaBuY
open Go.RowKit Go.Own
namespace Go.Proofs.Ytpffofliemooiaa

structure Two (d lo hi cp : Int) (S : BS) (T : RS) : Prop where
  fit : Fit d lo hi cp S
  good : Good S
  rel : Rel S T
  cap : (S.n : Int) ≤ cp

section
variable {d lo hi cp : Int} {S : BS} {T : RS}
theorem Two.c1 (H : Two d lo hi cp S T) : 1 ≤ S.cp := by rw [H.fit.ec]; exact H.fit.c1
theorem Two.n9 (H : Two d lo hi cp S T) : (S.n : Int) ≤ 65536 := Int.le_trans H.cap H.fit.c2
theorem Two.short (H : Two d lo hi cp S T) : ∀ xs ∈ S.rows, xs.length ≤ 65536 := H.good.short (by have := H.n9; omega)
theorem Two.tl (H : Two d lo hi cp S T) : T.L.length ≤ 65537 := by have := H.rel.n; have := H.n9; omega

/-! ### New. -/
theorem two_new (d1 : 1 ≤ d) (d2 : d ≤ 65536) (lh : lo ≤ hi) (lo64 : I64 lo) (hi64 : I64 hi) (c1 : 1 ≤ cp) (c2 : cp ≤ 65536) (sz : hi / d - lo / d < 65536) : Two d lo hi cp (newS d lo hi cp) ⟨d, lo, hi, cp, [], false, 0⟩ :=
  ⟨fit_new d1 d2 lh lo64 hi64 c1 c2 sz, good_new d lo hi cp lh d1 c1 sz, rel_new d lo hi cp, by show (0 : Int) ≤ cp; omega⟩

/-! ### Put. -/
/-- What the reference's Put does where the buckets' has answered (x, dr, z) and is S1 by now. -/
def RPut (d lo hi cp : Int) (T : RS) (m id x : Int) (dr : Bool) (z : Int) (S1 : BS) : Prop := ∀ r w L, Hold w (rfA r T :: L) →
  Calls Try.prog 19 #[.pointer (some ⟨r, 0, none⟩), .int .i64 m, .int .i64 id] w fun e w' => e = .returned (.tuple #[.int .i64 x, .bool dr, .int .i64 z]) ∧ ∃ T1, Two d lo hi cp S1 T1 ∧ Hold w' (rfA r T1 :: L)
theorem put_two (H : Two d lo hi cp S T) (b : Nat) (m id : Int) (hm : I64 m) (w : World) (L : List Asn) (h : Hold w (bkA b S :: L)) :
    Calls Try.prog 12 #[.pointer (some ⟨b, 0, none⟩), .int .i64 m, .int .i64 id] w fun e w' => ∃ x dr z S1, e = .returned (.tuple #[.int .i64 x, .bool dr, .int .i64 z]) ∧ RPut d lo hi cp T m id x dr z S1 ∧ Hold w' (bkA b S1 :: L) := by
  have F := H.fit
  have R := H.rel
  by_cases hf : m < S.lo ∨ S.hi < m
  · refine (put_farx b S H.c1 m id hf w L h).mono ?_
    rintro e w' ⟨he, hh⟩
    refine ⟨0, false, 11, S, he, fun r w L hr => ?_, hh⟩
    refine (rput_far r T m id (by rw [R.lo, R.hi]; exact hf) w L hr).mono ?_
    rintro e w' ⟨he, hh⟩
    exact ⟨he, T, H, hh⟩
  · have h1 : S.lo ≤ m := by omega
    have h2 : m ≤ S.hi := by omega
    obtain ⟨j, hj, hjr⟩ := F.at (by rw [← F.el]; exact h1) (by rw [← F.eh]; exact h2)
    have hd1 : 1 ≤ S.d := by rw [F.ed]; exact F.d1
    have hj2 : m / S.d = (j : Int) + S.base := by omega
    have PR := fun r w L hr => rput_ok r T m id hm (by rw [R.d]; exact hd1) (by rw [R.d, F.ed]; exact F.d2) (by rw [R.lo]; exact h1) (by rw [R.hi]; exact h2) (by rw [R.n, R.cp, F.ec]; exact H.cap) (by rw [R.cp, F.ec]; exact F.c2) w L hr
    rw [show m / T.d = (j : Int) + S.base by rw [R.d]; exact hj2] at PR
    have en : T.L.length = S.n := R.n
    have ec : T.cp = cp := by rw [R.cp, F.ec]
    have G1 := good_add id H.good hjr
    have R1 := rel_add R hjr id
    have hn1 : (addS S j id).n = S.n + 1 := rfl
    by_cases hc : (S.n : Int) < cp
    · refine (put_ok b S H.c1 m id hm hd1 h1 h2 j hj hjr H.good.len H.n9 (by rw [F.ec]; exact hc) H.short H.good.low w L h).mono ?_
      rintro e w' ⟨he, hh⟩
      refine ⟨0, false, 0, addS S j id, he, fun r w L hr => ?_, hh⟩
      refine (PR r w L hr).mono ?_
      rintro e w' (⟨-, he, hh⟩ | ⟨hn, -⟩)
      · exact ⟨he, _, ⟨F.add j id, G1, R1, by rw [hn1]; omega⟩, hh⟩
      · omega
    · have hceq : (S.n : Int) = cp := by have := H.cap; omega
      obtain ⟨s1, s2, s3⟩ := G1.holds (by omega)
      refine (put_drop b S H.c1 m id hm hd1 h1 h2 j hj hjr H.good.len H.n9 (by rw [F.ec]; exact hceq) H.short H.good.low s1 s2 F.t64 F.b64 w L h).mono ?_
      rintro e w' ⟨he, hh⟩
      refine ⟨_, true, 0, cutS (addS S j id), he, fun r w L hr => ?_, hh⟩
      refine (PR r w L hr).mono ?_
      rintro e w' (⟨hn, -⟩ | ⟨-, k, x, hlow, hx, he, hh⟩)
      · omega
      · obtain ⟨q, hq, hx2, R2⟩ := rel_cut R1 G1 (by omega) hlow
        have hx3 : x = ((q : Int) + (addS S j id).base, outS (addS S j id)) := by
          have : some x = some _ := hx.symm.trans hx2
          exact Option.some.inj this
        subst hx3
        exact ⟨he, _, ⟨(F.add j id).cut, good_cut G1 (by omega), R2, by show ((S.n + 1 - 1 : Nat) : Int) ≤ cp; omega⟩, hh⟩

/-! ### Pop. -/
def RPop (d lo hi cp : Int) (T : RS) (id at_ : Int) (ok : Bool) (S1 : BS) : Prop := ∀ r w L, Hold w (rfA r T :: L) →
  Calls Try.prog 22 #[.pointer (some ⟨r, 0, none⟩)] w fun e w' => e = .returned (.tuple #[.int .i64 id, .int .i64 at_, .bool ok]) ∧ ∃ T1, Two d lo hi cp S1 T1 ∧ Hold w' (rfA r T1 :: L)
theorem pop_two (H : Two d lo hi cp S T) (b : Nat) (w : World) (L : List Asn) (h : Hold w (bkA b S :: L)) :
    Calls Try.prog 16 #[.pointer (some ⟨b, 0, none⟩)] w fun e w' => ∃ id at_ ok S1, e = .returned (.tuple #[.int .i64 id, .int .i64 at_, .bool ok]) ∧ RPop d lo hi cp T id at_ ok S1 ∧ Hold w' (bkA b S1 :: L) := by
  by_cases hn : S.n = 0
  · refine (pop0 b S H.c1 hn w L h).mono ?_
    rintro e w' ⟨he, rfl⟩
    refine ⟨0, 0, false, S, he, fun r w L hr => ?_, h⟩
    refine (rpop0 r T (List.eq_nil_of_length_eq_zero (by rw [H.rel.n, hn])) w L hr).mono ?_
    rintro e w' ⟨he, hh⟩
    exact ⟨he, T, H, hh⟩
  · obtain ⟨s1, s2, s3⟩ := H.good.holds (by omega)
    refine (pop_ok b S H.c1 (by omega) H.n9 s1 s3 H.good.len H.fit.t64 H.fit.b64 H.short w L h).mono ?_
    rintro e w' ⟨he, hh⟩
    refine ⟨_, _, true, popS S, he, fun r w L hr => ?_, hh⟩
    refine (rpop_ok r T (by rw [H.rel.n]; omega) H.tl w L hr).mono ?_
    rintro e w' ⟨k, x, hb, hx, he, hh⟩
    obtain ⟨h1, R1⟩ := rel_pop H.rel H.good (by omega) hb
    have hx3 : x = ((hiAt S.rows S.top : Nat) + S.base, popV S) := Option.some.inj (hx.symm.trans h1)
    subst hx3
    exact ⟨he, _, ⟨H.fit.pop, good_pop H.good (by omega), R1, by have := H.cap; show ((S.n - 1 : Nat) : Int) ≤ cp; omega⟩, hh⟩

/-! ### Highest, Lowest. -/
def RHigh (T : RS) (x : Int) (ok : Bool) : Prop := ∀ r w L, Hold w (rfA r T :: L) →
  Calls Try.prog 34 #[.pointer (some ⟨r, 0, none⟩)] w fun e w' => e = .returned (.tuple #[.int .i64 x, .bool ok]) ∧ Hold w' (rfA r T :: L)
theorem high_two (H : Two d lo hi cp S T) (b : Nat) (w : World) (L : List Asn) (h : Hold w (bkA b S :: L)) :
    Calls Try.prog 30 #[.pointer (some ⟨b, 0, none⟩)] w fun e w' => ∃ x ok S1, e = .returned (.tuple #[.int .i64 x, .bool ok]) ∧ I64 x ∧ RHigh T x ok ∧ Two d lo hi cp S1 T ∧ Hold w' (bkA b S1 :: L) := by
  by_cases hn : S.n = 0
  · refine (highest0 b S H.c1 hn w L h).mono ?_
    rintro e w' ⟨he, rfl⟩
    refine ⟨0, false, S, he, by unfold I64; omega, fun r w L hr => rhighest0 r T (List.eq_nil_of_length_eq_zero (by rw [H.rel.n, hn])) w L hr, H, h⟩
  · obtain ⟨s1, s2, s3⟩ := H.good.holds (by omega)
    refine (highest_ok b S H.c1 (by omega) s1 s3 H.good.len H.fit.t64 w L h).mono ?_
    rintro e w' ⟨he, hh⟩
    obtain ⟨q1, -⟩ := hiAt_spec s3
    refine ⟨_, true, { S with top := hiAt S.rows S.top }, he, H.fit.t64 _ (Nat.lt_of_le_of_lt q1 H.good.low.2), fun r w L hr => ?_, ⟨H.fit.same rfl rfl rfl rfl rfl rfl, good_top H.good (by omega), rel_same H.rel rfl, H.cap⟩, hh⟩
    refine (rhighest_ok r T (by rw [H.rel.n]; omega) H.tl w L hr).mono ?_
    rintro e w' ⟨⟨k, hb, he⟩, hh⟩
    obtain ⟨h1, -⟩ := rel_pop H.rel H.good (by omega) hb
    refine ⟨?_, hh⟩
    rw [he]
    simp [bk, List.getD, h1]
def RLow (T : RS) (x : Int) (ok : Bool) : Prop := ∀ r w L, Hold w (rfA r T :: L) →
  Calls Try.prog 35 #[.pointer (some ⟨r, 0, none⟩)] w fun e w' => e = .returned (.tuple #[.int .i64 x, .bool ok]) ∧ Hold w' (rfA r T :: L)
/-- Of all that are least the first one. -/
theorem low_first {L : List (Int × Int)} {k : Nat} (hk : k < L.length) (hmin : ∀ j, j < L.length → bk L k ≤ bk L j) : ∃ k', IsLow L k' ∧ bk L k' = bk L k := by
  induction k using Nat.strongRecOn with
  | _ k ih =>
    by_cases hx : ∃ j, j < k ∧ bk L j = bk L k
    · obtain ⟨j, hj, he⟩ := hx
      obtain ⟨k', h1, h2⟩ := ih j hj (by omega) (fun i hi => by rw [he]; exact hmin i hi)
      exact ⟨k', h1, h2.trans he⟩
    · refine ⟨k, ⟨hk, fun j hj => ⟨hmin j hj, fun h => ?_⟩⟩, rfl⟩
      have h1 := hmin j hj
      have h2 : bk L j ≠ bk L k := fun e => hx ⟨j, h, e⟩
      omega
theorem low_two (H : Two d lo hi cp S T) (b : Nat) (w : World) (L : List Asn) (h : Hold w (bkA b S :: L)) :
    Calls Try.prog 13 #[.pointer (some ⟨b, 0, none⟩)] w fun e w' => ∃ x ok S1, e = .returned (.tuple #[.int .i64 x, .bool ok]) ∧ I64 x ∧ RLow T x ok ∧ Two d lo hi cp S1 T ∧ Hold w' (bkA b S1 :: L) := by
  by_cases hn : S.n = 0
  · have P := lowest0 b S H.c1 hn w L h
    refine P.mono ?_
    rintro e w' ⟨he, rfl⟩
    refine ⟨0, false, S, he, by unfold I64; omega, fun r w L hr => rlowest0 r T (List.eq_nil_of_length_eq_zero (by rw [H.rel.n, hn])) w L hr, H, h⟩
  · obtain ⟨s1, s2, s3⟩ := H.good.holds (by omega)
    refine (lowest_ok b S H.c1 (by omega) s1 s2 H.good.len H.fit.t64 w L h).mono ?_
    rintro e w' ⟨he, hh⟩
    obtain ⟨q1, -⟩ := loAt_spec s2
    refine ⟨_, true, { S with low := loAt S.rows S.low }, he, H.fit.t64 _ q1, fun r w L hr => ?_, ⟨H.fit.same rfl rfl rfl rfl rfl rfl, good_low H.good (by omega), rel_same H.rel rfl, H.cap⟩, hh⟩
    refine (rlowest_ok r T (by rw [H.rel.n]; omega) H.tl w L hr).mono ?_
    rintro e w' ⟨⟨k, ⟨hk, hmin⟩, he⟩, hh⟩
    obtain ⟨k', h1, h2⟩ := low_first hk hmin
    refine ⟨?_, hh⟩
    rw [he, ← h2, rel_lowBk H.rel H.good (by omega) h1]

/-! ### Size. -/
theorem size_same (H : Two d lo hi cp S T) (v : Int) : (T.L.filter fun e => e.1 == v).length = sizeV S v := by
  unfold sizeV
  by_cases hv : S.base ≤ v ∧ v - S.base < S.rows.length
  · rw [if_pos hv]
    obtain ⟨j, hj⟩ : ∃ j : Nat, v = (j : Int) + S.base := ⟨(v - S.base).toNat, by omega⟩
    subst hj
    rw [show ((j : Int) + S.base - S.base).toNat = j by omega]
    exact rel_size H.rel j (by omega)
  · rw [if_neg hv]
    exact rel_size0 H.rel (by omega)
theorem Two.er (H : Two d lo hi cp S T) : (S.rows.length : Int) = S.hi / S.d - S.base + 1 := by
  rw [H.fit.eh, H.fit.ed, H.fit.eb]; exact H.fit.er
theorem size_two (H : Two d lo hi cp S T) (b : Nat) (v : Int) (w : World) (L : List Asn) (h : Hold w (bkA b S :: L)) :
    Calls Try.prog 38 #[.pointer (some ⟨b, 0, none⟩), .int .i64 v] w fun e w' => e = .returned (.int .i64 (sizeV S v)) ∧ Hold w' (bkA b S :: L) :=
  size_ok b S H.c1 H.good.len (by rw [H.fit.ed]; exact H.fit.d1) (by rw [H.fit.eh]; exact H.fit.hi64) H.er v w L h
theorem rsize_two (H : Two d lo hi cp S T) (r : Nat) (v : Int) (w : World) (L : List Asn) (h : Hold w (rfA r T :: L)) :
    Calls Try.prog 39 #[.pointer (some ⟨r, 0, none⟩), .int .i64 v] w fun e w' => e = .returned (.int .i64 (sizeV S v)) ∧ Hold w' (rfA r T :: L) := by
  have := rsize_ok r T v H.tl w L h
  rw [size_same H v] at this
  exact this

/-! ### All. -/
theorem tot_snoc (A : List (List Int)) (x : List Int) : tot (A ++ [x]) = tot A + x.length := by simp [tot]
theorem allTo_length {base : Int} {rows : List (List Int)} : ∀ {K : Nat}, K ≤ rows.length → (allTo base rows K).length = tot (rows.take K)
  | 0, _ => by simp [allTo, tot]
  | K + 1, h => by
    have hK : K < rows.length := by omega
    rw [allTo, List.length_append, allTo_length (by omega), List.take_add_one, List.getElem?_eq_getElem hK]
    show _ = tot (rows.take K ++ [rows[K]])
    rw [tot_snoc]
    simp [List.getD, hK]; omega
theorem Two.allLen (H : Two d lo hi cp S T) : (allTo S.base S.rows S.rows.length).length = S.n := by
  rw [allTo_length (Nat.le_refl _), List.take_of_length_le (Nat.le_refl _), H.good.total]
theorem dropL {w : World} : ∀ {M L : List Asn}, Hold w (M ++ L) → Hold w L
  | [], _, h => h
  | _ :: M, _, h => dropL (M := M) h.drop
theorem kpB {B b : Nat} {S : BS} {M L : List Asn} {W : World} (h : Hold W (M ++ cellsA B 25 [.pointer (some ⟨b, 0, none⟩)] :: bkA b S :: L)) : KpB B b S.base W := by
  have h1 := dropL h
  obtain ⟨ro, rc, vs, -, h2⟩ := bk_open h1.drop
  exact ⟨h1.cell 0, (bkM h2).2.2.2.2.1⟩
theorem listed_two (H : Two d lo hi cp S T) (b : Nat) (w : World) (L : List Asn) (h : Hold w (bkA b S :: L)) :
    Calls Try.prog 24 #[.pointer (some ⟨b, 0, none⟩)] w fun e w' => ∃ ao cap, e = .returned (.slice ao (allTo S.base S.rows S.rows.length).length cap) ∧ Hold w' (rowA 59 2 ao (allTo S.base S.rows S.rows.length).length cap (ents (allTo S.base S.rows S.rows.length)) :: bkA b S :: L) := by
  refine listed_ok (some ⟨b, 0, none⟩) [bkA b S] (fun B => KpB B b S.base) (allTo S.base S.rows S.rows.length) (by rw [H.allLen]; have := H.n9; omega) (fun B => gives_ok B b S H.c1 H.good.len H.short H.fit.t64) L (fun B M W hW => kpB hW) w h
theorem rall_two (H : Two d lo hi cp S T) (r : Nat) (w : World) (L : List Asn) (h : Hold w (rfA r T :: L)) :
    Calls Try.prog 20 #[.pointer (some ⟨r, 0, none⟩)] w fun e w' => ∃ ao cap, e = .returned (.slice ao (allTo S.base S.rows S.rows.length).length cap) ∧ Hold w' (rowA 59 2 ao (allTo S.base S.rows S.rows.length).length cap (ents (allTo S.base S.rows S.rows.length)) :: rfA r T :: L) := by
  refine (rall_ok r T H.tl w L h).mono ?_
  rintro e w' ⟨out, ao, cap, h1, he, hh⟩
  obtain rfl := all_same h1 H.rel.rows
  exact ⟨ao, cap, he, hh⟩
end

end Go.Proofs.Ytpffofliemooiaa
