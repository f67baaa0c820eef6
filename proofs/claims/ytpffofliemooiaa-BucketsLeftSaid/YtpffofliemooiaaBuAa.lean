/- looks; BucketsPlays' walk. -/
import Derived.Test.YtpffofliemooiaaBuZ
import Derived.Test.YtpffofliemooiaaBuQ
open Go.RowKit Go.Own
namespace Go.Proofs.Ytpffofliemooiaa

set_option maxHeartbeats 2000000 in
set_option maxRecDepth 20000 in
theorem looks_ok {d lo hi cp : Int} {S : BS} {T : RS} (H : Two d lo hi cp S T) (b r : Nat) (m : Int) (hm : I64 m) (w : World) (L : List Asn) (h : Hold w (bkA b S :: rfA r T :: L)) :
    Calls Try.prog 25 #[.pointer (some ⟨b, 0, none⟩), .pointer (some ⟨r, 0, none⟩), .int .i64 m] w fun e w' => e = .returned (.bool true) ∧ ∃ S1, Two d lo hi cp S1 T ∧ Hold w' (bkA b S1 :: rfA r T :: L) := by
  have P1 := high_two H b w _ h
  clear h
  go_enter Try.func25, Try.ntmps25
  go_upto_region 2 with (go_at_call 30; refine P1.mono ?_; clear P1; rintro e w1 ⟨x, ok, S1, rfl, hx, PR1, H1, h1⟩)
  have P2 := PR1 r w1 _ (h1.mv 1)
  clear PR1
  go_upto_region 3 with (go_at_call 34; refine P2.mono ?_; clear P2; rintro e w2 ⟨rfl, h2⟩)
  have P3 := low_two H1 b w2 _ (h2.mv 1)
  clear h1 h2
  go_upto_region 4 with (go_at_call 13; refine P3.mono ?_; clear P3; rintro e w3 ⟨y, ok2, S2, rfl, hy, PR3, H2, h3⟩)
  have P4 := PR3 r w3 _ (h3.mv 1)
  clear PR3
  go_upto_region 5 with (go_at_call 35; refine P4.mono ?_; clear P4; rintro e w4 ⟨rfl, h4⟩)
  have P5 := mark_ok b S2 H2.c1 w4 _ (h4.mv 1)
  clear h3 h4
  go_upto_region 6 with (go_at_call 28; refine P5.mono ?_; clear P5; rintro e w5 ⟨rfl, h5⟩)
  have P6 := rmark_ok r T w5 _ (h5.mv 1)
  rw [H2.rel.high, H2.rel.marked] at P6
  clear h5
  go_upto_region 7 with (go_at_call 36; refine P6.mono ?_; clear P6; rintro e w6 ⟨rfl, h6⟩)
  obtain ⟨ao, cap, h7⟩ := rf_open h6
  have c0 : w6.cell? ⟨r, 0, none⟩ = some (.int .i64 T.d) := h7.cell 0
  clear h7
  have h8 : Hold w6 (bkA b S2 :: rfA r T :: L) := h6.mv 1
  have PI := rIndex_ok m T.d hm w6
  clear h6
  go_upto_region 8 with (go_at_call 14; refine PI.mono ?_; clear PI; rintro e w7 ⟨rfl, rfl⟩)
  generalize idxV m T.d = v
  clear c0
  have PL := fun w L h => len_ok b S2 H2.c1 w L h
  have PRL := fun w L h => rlen_ok r T w L h
  rw [H2.rel.n] at PRL
  have PS := fun v w L h => size_two H2 b v w L h
  have PRS := fun v w L h => rsize_two H2 r v w L h
  have HH2 := Lib.hid H2
  clear H2 H H1
  go_wp2_with (first
    | (go_at_call 15; refine (PL _ _ h8).mono ?_; clear PL; rintro e w8 ⟨rfl, rfl⟩)
    | (go_at_call 37; refine (PRL _ _ (h8.mv 1)).mono ?_; clear PRL; rintro e w8 ⟨rfl, rfl⟩)
    | (go_at_call 38; refine (PS _ _ _ h8).mono ?_; rintro e w8 ⟨rfl, h8⟩)
    | (go_at_call 39; refine (PRS _ _ _ (h8.mv 1)).mono ?_; rintro e w9 ⟨rfl, h9⟩; have h8 := h9.swap; clear h9))
  go_ret
  exact ⟨rfl, S2, HH2.out, h8⟩

theorem nth_is {zs : List Int} {k : Nat} (hk : k < zs.length) : (is zs)[k]? = some (.int .i64 (zs.getD k 0)) ∧ zs.getD k 0 ∈ zs := by
  simp [is, List.getD, hk]
/-- The cells of call k. -/
theorem opsG {C : Asn} {ao : Option Addr} {n cap : Nat} {zs : List Int} (hR : Reads C 3 (.slice ao n cap) n (is zs)) (hz : zs.length = n * 3) {k : Nat} (hk : k < n) {w : World} {L : List Asn} (h : Hold w (C :: L)) :
    ∃ rb ro, ao = some ⟨rb, ro, none⟩ ∧ ∀ W L, Hold W (C :: L) → W.cell? ⟨rb, ro + k * 3, none⟩ = some (.int .i64 (zs.getD (k * 3) 0)) ∧ W.cell? ⟨rb, ro + k * 3 + 1, none⟩ = some (.int .i64 (zs.getD (k * 3 + 1) 0)) ∧ W.cell? ⟨rb, ro + k * 3 + 2, none⟩ = some (.int .i64 (zs.getD (k * 3 + 2) 0)) := by
  obtain ⟨S, hrd⟩ := h.reads hR
  obtain ⟨rb, ro, rfl, -, -, -⟩ := hrd.addr (by omega)
  refine ⟨rb, ro, rfl, fun W L hW => ?_⟩
  obtain ⟨S2, hrd2⟩ := hW.reads hR
  obtain ⟨rb2, ro2, he, -, -, hcs⟩ := hrd2.addr (by omega)
  simp only [Option.some.injEq, Addr.mk.injEq, and_true] at he
  obtain ⟨rfl, rfl⟩ := he
  refine ⟨?_, ?_, ?_⟩
  · rw [hcs (k * 3) (by omega)]; exact (nth_is (by omega)).1
  · rw [Nat.add_assoc, hcs (k * 3 + 1) (by omega)]; exact (nth_is (by omega)).1
  · rw [Nat.add_assoc, hcs (k * 3 + 2) (by omega)]; exact (nth_is (by omega)).1

set_option maxRecDepth 20000 in
theorem plays_bad (d lo hi cp : Int) (hlo : I64 lo) (hhi : I64 hi) (hbad : newE d lo hi cp ≠ 0) (ao : Option Addr) (n cap : Nat) (w : World) (L : List Asn) (h : Hold w L) :
    Calls Try.prog 7 #[.agg #[.int .i64 d, .int .i64 lo, .int .i64 hi, .int .i64 cp], .slice ao n cap] w fun e w' => e = .returned (.bool true) ∧ Hold w' L := by
  have P1 := fun w => new_badx d lo hi cp hlo hhi hbad w
  have P2 := fun w => rnew_bad d lo hi cp hlo hhi hbad w
  generalize newE d lo hi cp = z at P1 P2
  clear hbad
  go_enter Try.func7, Try.ntmps7
  have hb : Hold _ (seA w.heap.size d lo hi cp :: L) := h.box 23 [.int .i64 d, .int .i64 lo, .int .i64 hi, .int .i64 cp]
  go_upto_region 1 with (fail)
  refine gen_world hb (fun w1 hb => ?_)
  generalize w.heap.size = q at *
  obtain ⟨g0, g1, g2, g3⟩ := seM hb
  go_upto_region 3 with (first
    | (go_at_call 9; refine (P1 _).mono ?_; rintro e w2 ⟨rfl, rfl⟩)
    | (go_at_call 18; refine (P2 _).mono ?_; rintro e w2 ⟨rfl, rfl⟩))
  have P3 := live_ok w1 _ hb
  clear P1 P2 h g0 g1 g2 g3
  go_upto_block 0 with (first
    | (go_at_call 10; refine (num_any _ _).mono ?_; rintro e w2 ⟨rfl, rfl⟩)
    | (go_at_call 11; refine P3.mono ?_; rintro e w3 ⟨rfl, h3⟩))
  clear P3 hb
  go_wp2
  go_loopw [9] (fun iv wr => iv = .int .i64 0 ∧ Hold wr (seA q d lo hi cp :: L)) (fun iv _ => 0)
  case atStart => exact ⟨rfl, h3⟩
  case round =>
    clear h3
    obtain ⟨rfl, hr⟩ := hrel
    by_cases hn : n = 0
    · subst hn
      go_wp2
      go_ret
      exact ⟨rfl, hr.drop⟩
    · have hn2 : (0 : Int) < n := by omega
      have hn3 : 0 < n := by omega
      go_wp2
      go_ret
      exact ⟨rfl, hr.drop⟩

def PlaysRel (b r q : Nat) (d lo hi cp : Int) (n : Nat) (C : Asn) (L : List Asn) (iv : Value) (wr : World) : Prop :=
  ∃ (k : Nat) (S : BS) (T : RS), k ≤ n ∧ iv = .int .i64 k ∧ Two d lo hi cp S T ∧ Hold wr (bkA b S :: rfA r T :: seA q d lo hi cp :: C :: L)

set_option maxHeartbeats 4000000 in
set_option maxRecDepth 20000 in
theorem plays_good (d lo hi cp : Int) (hd1 : 1 ≤ d) (hd2 : d ≤ 65536) (hlo : I64 lo) (hhi : I64 hi) (hlh : lo ≤ hi) (hc1 : 1 ≤ cp) (hc2 : cp ≤ 65536) (hsz : hi / d - lo / d < 65536) (zs : List Int) (hzs : ∀ z ∈ zs, I64 z) (C : Asn) (ao : Option Addr) (n cap : Nat) (hR : Reads C 3 (.slice ao n cap) n (is zs)) (hz : zs.length = n * 3) (hn9 : n * 24 ≤ 140737488351232) (w : World) (L : List Asn) (h : Hold w (C :: L)) :
    Calls Try.prog 7 #[.agg #[.int .i64 d, .int .i64 lo, .int .i64 hi, .int .i64 cp], .slice ao n cap] w fun e w' => e = .returned (.bool true) ∧ Hold w' (C :: L) := by
  have P1 := fun w L h => new_good d lo hi cp hd1 hd2 hlo hhi hlh hc1 hc2 hsz w L h
  have P2 := fun w L h => rnew_good d lo hi cp hd1 hd2 hlo hhi hlh hc1 hc2 hsz w L h
  have H0 := two_new hd1 hd2 hlh hlo hhi hc1 hc2 hsz
  have HZS := Lib.hid (And.intro hzs hz)
  have HLO := Lib.hid hlo
  have hN : (n : Int) ≤ 5864062014634 := by omega
  clear hd1 hd2 hlo hhi hlh hc1 hc2 hsz hzs hz hn9
  go_enter Try.func7, Try.ntmps7
  have hb : Hold _ (seA w.heap.size d lo hi cp :: C :: L) := h.box 23 [.int .i64 d, .int .i64 lo, .int .i64 hi, .int .i64 cp]
  go_upto_region 1 with (fail)
  refine gen_world hb (fun w1 hb => ?_)
  generalize w.heap.size = q at *
  obtain ⟨g0, g1, g2, g3⟩ := seM hb
  go_upto_region 2 with (go_at_call 9; refine (P1 _ _ hb).mono ?_; rintro e w2 ⟨b, rfl, h2⟩)
  obtain ⟨e0, e1, e2, e3⟩ := seM (h2.mv 1)
  clear g0 g1 g2 g3 P1 hb
  go_upto_region 3 with (go_at_call 18; refine (P2 _ _ h2).mono ?_; rintro e w3 ⟨r, rfl, h3⟩)
  have P3 := live_ok w3 _ h3
  clear P2 h e0 e1 e2 e3 h2 h3
  go_upto_block 0 with (first
    | (go_at_call 10; refine (num_any _ _).mono ?_; rintro e w2 ⟨rfl, rfl⟩)
    | (go_at_call 11; refine P3.mono ?_; rintro e w4 ⟨rfl, h4⟩))
  have h5 := h4.swap
  clear P3 h4
  go_wp2
  go_loopw [9] (fun iv wr => PlaysRel b r q d lo hi cp n C L iv wr) (fun iv _ => n - (intOf iv).toNat)
  case atStart => exact ⟨0, _, _, Nat.zero_le _, rfl, H0, h5⟩
  case round =>
    clear h5 H0
    obtain ⟨k, S, T, hk, rfl, H, hr⟩ := hrel
    by_cases hlt : k < n
    · have hki : (k : Int) < n := by omega
      have hk0 : 0 ≤ (k : Int) := by omega
      obtain ⟨rb, ro, rfl, HG⟩ := opsG hR HZS.out.2 hlt (hr.mv 3)
      obtain ⟨c0, c1, c2⟩ := HG wr _ (hr.mv 3)
      have hme : I64 (zs.getD (k * 3 + 1) 0) := HZS.out.1 _ (nth_is (by have := HZS.out.2; omega)).2
      generalize zs.getD (k * 3) 0 = kd at c0
      generalize zs.getD (k * 3 + 1) 0 = me at c1 hme
      generalize zs.getD (k * 3 + 2) 0 = id at c2
      have hb := hr.box 50 [.int .i64 kd, .int .i64 me, .int .i64 id]
      obtain ⟨p, hp⟩ : ∃ p, wr.heap.size = p := ⟨_, rfl⟩
      rw [hp] at hb
      clear HG
      go_upto_region 9 with (fail)
      refine gen_world hb (fun w5 hb => ?_)
      have d0 : w5.cell? ⟨p, 0, none⟩ = some (.int .i64 kd) := hb.cell 0
      have d1 : w5.cell? ⟨p, 1, none⟩ = some (.int .i64 me) := hb.cell 1
      have d2 : w5.cell? ⟨p, 2, none⟩ = some (.int .i64 id) := hb.cell 2
      clear hp hr c0 c1 c2
      by_cases hk1 : kd = 1
      · have hq1 : (kd == 1) = true := by simpa using hk1
        have PP := put_two H b me id hme w5 _ (hb.mv 1)
        clear hk1 hb H
        go_upto_region 14 with (go_at_call 12; refine PP.mono ?_; rintro e w6 ⟨x, dr, z, S1, rfl, PR, h6⟩)
        have i1 : w6.cell? ⟨p, 1, none⟩ = some (.int .i64 me) := (h6.mv 1).cell 1
        have i2 : w6.cell? ⟨p, 2, none⟩ = some (.int .i64 id) := (h6.mv 1).cell 2
        have PR2 := PR r w6 _ (h6.mv 2)
        clear PP PR h6 d0 d1 d2
        go_upto_region 15 with (go_at_call 19; refine PR2.mono ?_; rintro e w7 ⟨rfl, T1, H1, h7⟩)
        have HH1 := Lib.hid H1
        have h8 := ((h7.arr [2, 1, 0])).drop
        (try dsimp only [Go.Own.front, Go.Own.arrA, Go.Own.atA, Go.Own.dropA, List.length_cons, List.length_nil, Nat.zero_add, Nat.reduceAdd] at h8)
        clear PR2 i1 i2 H1 h7
        go_wp2_with (go_at_call 10; refine (num_any _ _).mono ?_; rintro e w8 ⟨rfl, rfl⟩)
        go_roundw
        case rel => exact ⟨k + 1, S1, T1, by omega, by go_num, HH1.out, h8⟩
        case measure => (simp [intOf] <;> omega)
      · have hq1 : (kd == 1) = false := by simpa using hk1
        clear hk1
        by_cases hk2 : kd = 2
        · have hq2 : (kd == 2) = true := by simpa using hk2
          have PP := pop_two H b w5 _ (hb.mv 1)
          clear hk2 hb H
          go_upto_region 19 with (go_at_call 16; refine PP.mono ?_; rintro e w6 ⟨x, at_, ok, S1, rfl, PR, h6⟩)
          have PR2 := PR r w6 _ (h6.mv 2)
          clear PP PR h6 d0 d1 d2
          go_upto_region 20 with (go_at_call 22; refine PR2.mono ?_; rintro e w7 ⟨rfl, T1, H1, h7⟩)
          have HH1 := Lib.hid H1
          have h8 := ((h7.arr [2, 1, 0])).drop
          (try dsimp only [Go.Own.front, Go.Own.arrA, Go.Own.atA, Go.Own.dropA, List.length_cons, List.length_nil, Nat.zero_add, Nat.reduceAdd] at h8)
          clear PR2 H1 h7
          go_wp2
          go_roundw
          case rel => exact ⟨k + 1, S1, T1, by omega, by go_num, HH1.out, h8⟩
          case measure => (simp [intOf] <;> omega)
        · have hq2 : (kd == 2) = false := by simpa using hk2
          clear hk2
          by_cases hk3 : kd = 3
          · have hq3 : (kd == 3) = true := by simpa using hk3
            have PP := listed_two H b w5 _ (hb.mv 1)
            have PA := fun w L h => rall_two H r w L h
            have PE := fun ao bo ac bc w L h => entries_ok (allTo S.base S.rows S.rows.length) ao bo ac bc (by rw [H.allLen]; have := H.n9; omega) w L h
            have HH := Lib.hid H
            clear hk3 hb H
            generalize allTo S.base S.rows S.rows.length = xs at PP PA PE
            go_wp2_with (first
              | (go_at_call 24; refine PP.mono ?_; clear PP; rintro e w6 ⟨a6, c6, rfl, h6⟩)
              | (go_at_call 20; refine (PA w6 _ (h6.mv 3)).mono ?_; clear PA; rintro e w7 ⟨a7, c7, rfl, h7⟩)
              | (go_at_call 23; refine (PE a6 a7 c6 c7 w7 _ (h7.arr [2, 0, 1])).mono ?_; clear PE; rintro e w8 ⟨rfl, h8⟩))
            have h9 := (h8.drop.drop.arr [2, 1, 0]).drop
            (try dsimp only [Go.Own.front, Go.Own.arrA, Go.Own.atA, Go.Own.dropA, List.length_cons, List.length_nil, Nat.zero_add, Nat.reduceAdd] at h9)
            clear h6 h7 h8
            go_roundw
            case rel => exact ⟨k + 1, S, T, by omega, by go_num, HH.out, h9⟩
            case measure => (simp [intOf] <;> omega)
          · have hq3 : (kd == 3) = false := by simpa using hk3
            have PP := looks_ok H b r me hme w5 _ (hb.arr [1, 2, 0])
            clear hk3 hb H
            go_wp2_with (go_at_call 25; refine PP.mono ?_; clear PP; rintro e w6 ⟨rfl, S1, H1, h6⟩)
            have HH := Lib.hid H1
            have h9 := (h6.mv 2).drop
            (try dsimp only [Go.Own.front, Go.Own.arrA, Go.Own.atA, Go.Own.dropA, List.length_cons, List.length_nil, Nat.zero_add, Nat.reduceAdd] at h9)
            clear h6 H1
            go_roundw
            case rel => exact ⟨k + 1, S1, T, by omega, by go_num, HH.out, h9⟩
            case measure => (simp [intOf] <;> omega)
    · obtain rfl : k = n := by omega
      obtain ⟨g0, g1, g2, g3⟩ := seM (hr.mv 2)
      have PL := looks_ok H b r lo HLO.out wr _ hr
      clear hr H
      go_wp2_with (first
        | (go_at_call 25; refine PL.mono ?_; clear PL; rintro e w5 ⟨rfl, S1, H1, h5⟩; have PP := listed_two H1 b w5 _ h5; have PA := fun w L h => rall_two H1 r w L h; have PE := fun ao bo ac bc w L h => entries_ok (allTo S1.base S1.rows S1.rows.length) ao bo ac bc (by rw [H1.allLen]; have := H1.n9; omega) w L h; clear H1 h5; generalize allTo S1.base S1.rows S1.rows.length = xs at PP PA PE)
        | (go_at_call 24; refine PP.mono ?_; clear PP; rintro e w6 ⟨a6, c6, rfl, h6⟩)
        | (go_at_call 20; refine (PA w6 _ (h6.mv 2)).mono ?_; clear PA; rintro e w7 ⟨a7, c7, rfl, h7⟩)
        | (go_at_call 23; refine (PE a6 a7 c6 c7 w7 _ (h7.arr [2, 0, 1])).mono ?_; clear PE; rintro e w8 ⟨rfl, h8⟩))
      go_ret
      exact ⟨rfl, h8.drop.drop.drop.drop.drop⟩

theorem plays_walk (d lo hi cp : Int) (hlo : I64 lo) (hhi : I64 hi) (zs : List Int) (hzs : ∀ z ∈ zs, I64 z) (C : Asn) (ao : Option Addr) (n cap : Nat) (hR : Reads C 3 (.slice ao n cap) n (is zs)) (hz : zs.length = n * 3) (hn9 : n * 24 ≤ 140737488351232) (w : World) (L : List Asn) (h : Hold w (C :: L)) :
    Calls Try.prog 7 #[.agg #[.int .i64 d, .int .i64 lo, .int .i64 hi, .int .i64 cp], .slice ao n cap] w fun e w' => e = .returned (.bool true) ∧ Hold w' (C :: L) := by
  by_cases hbad : newE d lo hi cp = 0
  · have hg : (1 ≤ d ∧ d ≤ 65536) ∧ lo ≤ hi ∧ 1 ≤ cp ∧ cp ≤ 65536 ∧ hi / d - lo / d < 65536 := by
      unfold newE at hbad
      split at hbad
      · cases hbad
      · split at hbad
        · cases hbad
        · split at hbad
          · cases hbad
          · omega
    obtain ⟨⟨g1, g2⟩, g3, g4, g5, g6⟩ := hg
    exact plays_good d lo hi cp g1 g2 hlo hhi g3 g4 g5 g6 zs hzs C ao n cap hR hz hn9 w L h
  · exact plays_bad d lo hi cp hlo hhi hbad ao n cap w _ h

end Go.Proofs.Ytpffofliemooiaa
