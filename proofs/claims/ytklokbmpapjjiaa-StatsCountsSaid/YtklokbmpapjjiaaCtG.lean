/- The walk of StatsCounts. -/
import Derived.Test.YtklokbmpapjjiaaCtH
open Go.RowKit Go.Own
namespace Go.Proofs.Ytklokbmpapjjiaa

/-- Two counters alike, or none. -/
def pairA (m : Nat) (pv rv : Value) : Bool → Asn
  | false => starA (pureA (pv = .pointer none ∧ rv = .pointer none)) (noA 85 encU (.pointer none))
  | true => exA fun x : Nat × Nat × SV => starA (pureA (pv = .pointer (some ⟨x.1, 0, none⟩) ∧ rv = .pointer (some ⟨x.2.1, 0, none⟩) ∧ Cnt x.2.2 m)) (starA (cellsA x.1 85 (encC x.2.2)) (cellsA x.2.1 94 (enc x.2.2)))

theorem pair_nil {m : Nat} {w : World} {L : List Asn} (h : Hold w L) : Hold w (pairA m (.pointer none) (.pointer none) false :: L) :=
  Hold.star.2 (Hold.pure.2 ⟨⟨rfl, rfl⟩, h.nil_no 85 encU⟩)
theorem pair_made {m b c : Nat} {s : SV} {w : World} {L : List Asn} (hc : Cnt s m) (h : Hold w (cellsA b 85 (encC s) :: cellsA c 94 (enc s) :: L)) : Hold w (pairA m (.pointer (some ⟨b, 0, none⟩)) (.pointer (some ⟨c, 0, none⟩)) true :: L) :=
  Hold.ex.2 ⟨(b, c, s), Hold.star.2 (Hold.pure.2 ⟨⟨rfl, rfl, hc⟩, Hold.star.2 h⟩)⟩
theorem pair_cases {m : Nat} {pv rv : Value} {o : Bool} {w : World} {L : List Asn} (h : Hold w (pairA m pv rv o :: L)) : (o = false ∧ pv = .pointer none ∧ rv = .pointer none ∧ Hold w (noA 85 encU (.pointer none) :: L)) ∨
    ∃ b c s, o = true ∧ pv = .pointer (some ⟨b, 0, none⟩) ∧ rv = .pointer (some ⟨c, 0, none⟩) ∧ Cnt s m ∧ Hold w (cellsA b 85 (encC s) :: cellsA c 94 (enc s) :: L) := by
  cases o with
  | false =>
    have h1 := Hold.pure.1 (Hold.star.1 h)
    exact .inl ⟨rfl, h1.1.1, h1.1.2, h1.2⟩
  | true =>
    obtain ⟨⟨b, c, s⟩, h1⟩ := Hold.ex.1 h
    have h2 := Hold.pure.1 (Hold.star.1 h1)
    exact .inr ⟨b, c, s, rfl, h2.1.1, h2.1.2.1, h2.1.2.2, Hold.star.1 h2.2⟩

theorem pcounts (mm : Nat) (o : Bool) (pv rv : Value) (k : Int) (bit lev : Nat) (hbit : bit < 256) (hlev : lev < 256) (x y : List UInt8) (C : Asn) (ax ay : Option Addr) (n cx m cy : Nat) (hX : Reads C 1 (.slice ax n cx) n (ub x)) (hY : Reads C 1 (.slice ay m cy) m (ub y)) (hn : n ≤ 140737488351232) (hm : m ≤ 140737488351232) (w : World) (L : List Asn)
    (h : Hold w (pairA mm pv rv o :: C :: L)) :
    Calls Try.prog 36 #[pv, rv, .agg #[.int .i64 k, .int .u8 bit, .int .u8 lev, .slice ax n cx, .slice ay m cy]] w fun e w' => e = .returned (.bool true) ∧ Hold w' (pairA mm pv rv o :: C :: L) := by
  rcases pair_cases h with ⟨rfl, rfl, rfl, h1⟩ | ⟨b, c, s, rfl, rfl, rfl, hc, h1⟩
  · exact (counts_no _ k bit lev hbit hlev x y C ax ay n cx m cy hX hY hn hm w L h1).mono fun e w' ⟨he, hw⟩ => ⟨he, Hold.star.2 (Hold.pure.2 ⟨⟨rfl, rfl⟩, hw⟩)⟩
  · exact (counts_made s mm hc b c k bit lev hbit hlev x y C ax ay n cx m cy hX hY hn hm w L h1).mono fun e w' ⟨he, s', hs', hw⟩ => ⟨he, pair_made hs' hw⟩

/-- Two statistics alike: the program's, and the reference's. -/
theorem pstats (mm : Nat) (o : Bool) (pv rv : Value) (w : World) (L : List Asn) (h : Hold w (pairA mm pv rv o :: L)) : ∃ s : SV, s.ok ∧ (o = true → Cnt s mm) ∧
    Calls Try.prog 31 #[pv] w (fun e w' => e = .returned (.agg (enc s).toArray) ∧ Hold w' (pairA mm pv rv o :: L) ∧
      Calls Try.prog 37 #[rv] w' (fun e w' => e = .returned (.agg (enc s).toArray) ∧ Hold w' (pairA mm pv rv o :: L))) := by
  rcases pair_cases h with ⟨rfl, rfl, rfl, h1⟩ | ⟨b, c, s, rfl, rfl, rfl, hc, h1⟩
  · refine ⟨⟨0, fun _ => 0⟩, ⟨by simp, by simp, fun i hi => by simp⟩, by simp, (cstats_no _ w L h1).mono fun e w1 ⟨he, hw⟩ => ⟨he, Hold.star.2 (Hold.pure.2 ⟨⟨rfl, rfl⟩, hw⟩), ?_⟩⟩
    exact (rstats_no w1 _ hw).mono fun e w2 ⟨he, hw⟩ => ⟨he, Hold.star.2 (Hold.pure.2 ⟨⟨rfl, rfl⟩, hw⟩)⟩
  · refine ⟨s, hc.ok, fun _ => hc, (cstats_ok s b w _ h1).mono fun e w1 ⟨he, hw⟩ => ⟨he, pair_made hc hw, ?_⟩⟩
    exact (rstats_ok s c w1 _ (hw.mv 1)).mono fun e w2 ⟨he, hw⟩ => ⟨he, pair_made hc (hw.mv 1)⟩

theorem pnew (n : Int) (w : World) (L : List Asn) (h : Hold w L) : ∃ (o : Bool) (er m : Nat), (2 ≤ n → n ≤ 16 → o = true ∧ er = 0) ∧
    Calls Try.prog 29 #[.int .i64 n] w (fun e w' => ∃ pv, e = .returned (.tuple #[pv, .int .i64 er]) ∧ ∃ L', Hold w' L' ∧
      Calls Try.prog 35 #[.int .i64 n] w' (fun e w'' => ∃ rv, e = .returned (.tuple #[rv, .int .i64 er]) ∧ Hold w'' (pairA m pv rv o :: L))) := by
  by_cases hn : n < 2 ∨ 16 < n
  · refine ⟨false, 1, 0, by omega, (cnew_no n hn w).mono fun e w' ⟨he, hw⟩ => ⟨_, he, L, hw ▸ h, ?_⟩⟩
    exact (rnew_no n hn w').mono fun e w'' ⟨he, hw2⟩ => ⟨_, he, pair_nil (hw2 ▸ hw ▸ h)⟩
  · obtain ⟨m, rfl⟩ : ∃ m : Nat, n = m := ⟨n.toNat, by omega⟩
    refine ⟨true, 0, m, fun _ _ => ⟨rfl, rfl⟩, (cnew_ok m (by omega) (by omega) w L h).mono fun e w' ⟨b, he, hw⟩ => ⟨_, he, _, hw, ?_⟩⟩
    exact (rnew_ok m (by omega) (by omega) w' _ hw).mono fun e w'' ⟨c, he, hw2⟩ => ⟨_, he, pair_made (new_cnt (by omega) (by omega)) (hw2.mv 1)⟩

def CouRel (N : Nat) (A1 A2 C : Asn) (L : List Asn) (i : Value) (wr : World) : Prop := ∃ k : Nat, k ≤ N ∧ i = .int .i64 k ∧ Hold wr (A1 :: C :: A2 :: L)

set_option maxHeartbeats 8000000 in
set_option maxRecDepth 20000 in
theorem countsl_walk (lv : Int) (ao : Option Addr) (n cap : Nat) (ao2 : Option Addr) (n2 cap2 : Nat) (C : Asn) (hO : OpsOf C ao n cap) (hO2 : OpsOf C ao2 n2 cap2) (w : World) (L : List Asn) (h : Hold w (C :: L)) :
    Calls Try.prog 9 #[.int .i64 lv, .slice ao n cap, .slice ao2 n2 cap2] w fun e w' => e = .returned (.bool true) ∧ Hold w' (C :: L) := by
  have hn : n ≤ 140737488351232 := by obtain ⟨_, _, h1, _⟩ := hO; exact h1
  have hn2 : n2 ≤ 140737488351232 := by obtain ⟨_, _, h1, _⟩ := hO2; exact h1
  obtain ⟨o1, e1, m1, -, P1⟩ := pnew lv w _ h
  go_enter Try.func9, Try.ntmps9
  go_upto_region 3 with (first
    | (go_at_call 29; refine P1.mono ?_; rintro e w1 ⟨pv, rfl, L1, h1, P2⟩)
    | (go_at_call 35; refine P2.mono ?_; rintro e w2 ⟨rv, rfl, h2⟩))
  clear P1 P2 h h1
  obtain ⟨o2, e2, m2, ho2, P3⟩ := pnew 4 w2 _ h2
  obtain ⟨rfl, rfl⟩ := ho2 (by omega) (by omega)
  clear ho2
  go_upto_region 5 with (first
    | (go_at_call 29; refine P3.mono ?_; rintro e w3 ⟨pv2, rfl, L3, h3, P4⟩)
    | (go_at_call 35; refine P4.mono ?_; rintro e w4 ⟨rv2, rfl, h4⟩))
  clear P3 P4 h3 h2
  have hcase : (pv = .pointer none ∧ rv = .pointer none) ∨ ∃ b c, pv = .pointer (some ⟨b, 0, none⟩) ∧ rv = .pointer (some ⟨c, 0, none⟩) := by
    rcases pair_cases (h4.mv 1) with ⟨_, a, b, _⟩ | ⟨b, c, s, _, h5, h6, _⟩
    · exact .inl ⟨a, b⟩
    · exact .inr ⟨b, c, h5, h6⟩
  obtain ⟨b2, c2, rfl, rfl⟩ : ∃ b c, pv2 = .pointer (some ⟨b, 0, none⟩) ∧ rv2 = .pointer (some ⟨c, 0, none⟩) := by
    rcases pair_cases h4 with ⟨h5, _⟩ | ⟨b, c, s, _, h5, h6, _⟩
    · cases h5
    · exact ⟨b, c, h5, h6⟩
  have PC1 := pcounts m1 o1 pv rv
  have PC2 := pcounts m2 true (.pointer (some ⟨b2, 0, none⟩)) (.pointer (some ⟨c2, 0, none⟩))
  have PS1 := pstats m1 o1 pv rv
  have PS2 := pstats m2 true (.pointer (some ⟨b2, 0, none⟩)) (.pointer (some ⟨c2, 0, none⟩))
  have h5 : Hold w4 (pairA m1 pv rv o1 :: C :: pairA m2 (.pointer (some ⟨b2, 0, none⟩)) (.pointer (some ⟨c2, 0, none⟩)) true :: L) := (h4.mv 2).mv 2
  clear h4
  generalize pairA m1 pv rv o1 = A1 at *
  generalize pairA m2 (.pointer (some ⟨b2, 0, none⟩)) (.pointer (some ⟨c2, 0, none⟩)) true = A2 at *
  obtain ⟨N, hN1, hN2, hN3⟩ : ∃ N, n ≤ N ∧ n2 ≤ N ∧ (N = n ∨ N = n2) := by
    by_cases hc : n ≤ n2
    · exact ⟨n2, hc, Nat.le_refl _, .inr rfl⟩
    · exact ⟨n, Nat.le_refl _, by omega, .inl rfl⟩
  have HO := Lib.hid hO
  have HO2 := Lib.hid hO2
  have HC1 := Lib.hid PC1
  have HC2 := Lib.hid PC2
  have HS1 := Lib.hid PS1
  have HS2 := Lib.hid PS2
  clear hO hO2 PC1 PC2 PS1 PS2
  rcases hcase with ⟨rfl, rfl⟩ | ⟨b1, c1, rfl, rfl⟩
  all_goals
    go_upto_region 7 with (first
      | (go_at_call 18; refine (num_any _ _ _ h5).mono ?_; rintro e w' ⟨rfl, rfl⟩)
      | (go_at_call 21; refine (knows_ok _ _ h5).mono ?_; rintro e w6 ⟨rfl, h6⟩))
    clear h5
    go_wp2
    go_loopw [15] (fun i wr => CouRel N A1 A2 C L i wr) (fun i _ => N - (intOf i).toNat)
    case atStart => exact ⟨0, by omega, rfl, h6⟩
    case round =>
      clear h6
      obtain ⟨k, hk, rfl, hr⟩ := hrel
      by_cases hlt : k < n
      · have hki : (k : Int) < n := by omega
        obtain ⟨rb, ro, kd, bit, lev, x, y, ax, ay, n1, cx, m, cy, rfl, q1, q2, q3, q4, q5, q6, G⟩ := op_at HO.out hlt (hr.mv 1)
        have GA := G _ _ (hr.mv 1)
        have K1 := HC1.out kd bit lev q1 q2 x y C ax ay n1 cx m cy q3 q4 q5 q6 wr _ hr
        clear G
        by_cases hlt2 : k < n2
        · have hki2 : (k : Int) < n2 := by omega
          obtain ⟨rb2, ro2, kd2, bit2, lev2, x2, y2, ax2, ay2, n12, cx2, mm2, cy2, rfl, q12, q22, q32, q42, q52, q62, G⟩ := op_at HO2.out hlt2 (hr.mv 1)
          have K2 := fun w L h => HC2.out kd2 bit2 lev2 q12 q22 x2 y2 C ax2 ay2 n12 cx2 mm2 cy2 q32 q42 q52 q62 w L h
          have HG := Lib.hid G
          clear G
          go_upto_region 12 with (first
            | (go_at_call 36; (with_reducible refine K1.mono ?_); rintro e w7 ⟨rfl, h7⟩; have h7 := (h7.mv 1).mv 2; have GB := HG.out _ _ (h7.mv 1); clear K1)
            | (go_at_call 36; (with_reducible refine (K2 _ _ h7).mono ?_); rintro e w8 ⟨rfl, h8⟩)
            | ((with_reducible refine wpList_yw (o := ⟨some 80, _, _, _, _, _⟩) (v := .agg #[.int .i64 kd, .int .u8 bit, .int .u8 lev, .slice ax n1 cx, .slice ay m cy]) ?_ ?_ ?_); (focus rfl); (focus exact exec_load75 (by rfl) (by rfl) GA))
            | ((with_reducible refine wpList_yw (o := ⟨some 95, _, _, _, _, _⟩) (v := .agg #[.int .i64 kd2, .int .u8 bit2, .int .u8 lev2, .slice ax2 n12 cx2, .slice ay2 mm2 cy2]) ?_ ?_ ?_); (focus rfl); (focus exact exec_load75 (by rfl) (by rfl) GB)))
          have h8 : Hold w8 (A1 :: C :: A2 :: L) := (h8.mv 1).mv 2
          clear h7 hr GA GB K2
          obtain ⟨s1, z1, -, S1⟩ := HS1.out w8 _ h8
          have E1 := eq26 z1 z1 (v := true) (by simp [same_refl])
          have EE1 := Lib.hid E1
          clear E1 z1
          go_wp2_with (first
            | (go_at_call 31; (with_reducible refine S1.mono ?_); rintro e w9 ⟨rfl, h9, S1'⟩; clear S1)
            | (go_at_call 37; (with_reducible refine S1'.mono ?_); rintro e w10 ⟨rfl, h10⟩; clear S1'; have h10 := (h10.mv 2); obtain ⟨s2, z2, -, S2⟩ := HS2.out _ _ h10; have E2 := eq26 z2 z2 (v := true) (by simp [same_refl]); have EE2 := Lib.hid E2; clear E2 z2)
            | (go_at_call 31; (with_reducible refine S2.mono ?_); rintro e w11 ⟨rfl, h11, S2'⟩; clear S2)
            | (go_at_call 37; (with_reducible refine S2'.mono ?_); rintro e w12 ⟨rfl, h12⟩; clear S2'; obtain ⟨s3, z3, cc3, S3⟩ := HS2.out _ _ h12; have hc3 := cc3 (by simp); have KC := check_ok s3 z3; rw [hc3.check] at KC; clear cc3 hc3 z3)
            | (go_at_call 31; (with_reducible refine S3.mono ?_); rintro e w13 ⟨rfl, h13, S3'⟩; clear S3 S3')
            | (go_at_call 19; refine (KC _ _ h13).mono ?_; rintro e w14 ⟨rfl, h14⟩)
            | (go_at_call 18; refine (num_any _ _ _ h14).mono ?_; rintro e w' ⟨rfl, rfl⟩)
            | ((with_reducible refine wpList_yw (o := ⟨some 104, _, _, _, _, _⟩) (v := .bool false) ?_ ?_ ?_); (focus rfl); (focus exact exec_agg_neq (by rfl) (by rfl) (by rfl) g26 EE1.out _))
            | ((with_reducible refine wpList_yw (o := ⟨some 110, _, _, _, _, _⟩) (v := .bool false) ?_ ?_ ?_); (focus rfl); (focus exact exec_agg_neq (by rfl) (by rfl) (by rfl) g26 EE2.out _)))
          go_roundw
          case rel => exact ⟨k + 1, by omega, by go_num, (h14.mv 2).mv 2⟩
          case measure => simp [intOf]; omega
        · have hki2 : (n2 : Int) ≤ k := by omega
          go_upto_region 12 with (first
            | (go_at_call 36; (with_reducible refine K1.mono ?_); rintro e w8 ⟨rfl, h8⟩)
            | ((with_reducible refine wpList_yw (o := ⟨some 80, _, _, _, _, _⟩) (v := .agg #[.int .i64 kd, .int .u8 bit, .int .u8 lev, .slice ax n1 cx, .slice ay m cy]) ?_ ?_ ?_); (focus rfl); (focus exact exec_load75 (by rfl) (by rfl) GA)))
          clear hr GA K1
          obtain ⟨s1, z1, -, S1⟩ := HS1.out w8 _ h8
          have E1 := eq26 z1 z1 (v := true) (by simp [same_refl])
          have EE1 := Lib.hid E1
          clear E1 z1
          go_wp2_with (first
            | (go_at_call 31; (with_reducible refine S1.mono ?_); rintro e w9 ⟨rfl, h9, S1'⟩; clear S1)
            | (go_at_call 37; (with_reducible refine S1'.mono ?_); rintro e w10 ⟨rfl, h10⟩; clear S1'; have h10 := (h10.mv 2); obtain ⟨s2, z2, -, S2⟩ := HS2.out _ _ h10; have E2 := eq26 z2 z2 (v := true) (by simp [same_refl]); have EE2 := Lib.hid E2; clear E2 z2)
            | (go_at_call 31; (with_reducible refine S2.mono ?_); rintro e w11 ⟨rfl, h11, S2'⟩; clear S2)
            | (go_at_call 37; (with_reducible refine S2'.mono ?_); rintro e w12 ⟨rfl, h12⟩; clear S2'; obtain ⟨s3, z3, cc3, S3⟩ := HS2.out _ _ h12; have hc3 := cc3 (by simp); have KC := check_ok s3 z3; rw [hc3.check] at KC; clear cc3 hc3 z3)
            | (go_at_call 31; (with_reducible refine S3.mono ?_); rintro e w13 ⟨rfl, h13, S3'⟩; clear S3 S3')
            | (go_at_call 19; refine (KC _ _ h13).mono ?_; rintro e w14 ⟨rfl, h14⟩)
            | (go_at_call 18; refine (num_any _ _ _ h14).mono ?_; rintro e w' ⟨rfl, rfl⟩)
            | ((with_reducible refine wpList_yw (o := ⟨some 104, _, _, _, _, _⟩) (v := .bool false) ?_ ?_ ?_); (focus rfl); (focus exact exec_agg_neq (by rfl) (by rfl) (by rfl) g26 EE1.out _))
            | ((with_reducible refine wpList_yw (o := ⟨some 110, _, _, _, _, _⟩) (v := .bool false) ?_ ?_ ?_); (focus rfl); (focus exact exec_agg_neq (by rfl) (by rfl) (by rfl) g26 EE2.out _)))
          go_roundw
          case rel => exact ⟨k + 1, by omega, by go_num, (h14.mv 2).mv 2⟩
          case measure => simp [intOf]; omega
      · have hki : (n : Int) ≤ k := by omega
        by_cases hlt2 : k < n2
        · have hki2 : (k : Int) < n2 := by omega
          obtain ⟨rb2, ro2, kd2, bit2, lev2, x2, y2, ax2, ay2, n12, cx2, mm2, cy2, rfl, q12, q22, q32, q42, q52, q62, G⟩ := op_at HO2.out hlt2 (hr.mv 1)
          have GB := G _ _ (hr.mv 1)
          have h7 := (hr.mv 1).mv 2
          have K2 := HC2.out kd2 bit2 lev2 q12 q22 x2 y2 C ax2 ay2 n12 cx2 mm2 cy2 q32 q42 q52 q62 wr _ h7
          clear G
          go_upto_region 12 with (first
            | (go_at_call 36; (with_reducible refine K2.mono ?_); rintro e w8 ⟨rfl, h8⟩)
            | ((with_reducible refine wpList_yw (o := ⟨some 95, _, _, _, _, _⟩) (v := .agg #[.int .i64 kd2, .int .u8 bit2, .int .u8 lev2, .slice ax2 n12 cx2, .slice ay2 mm2 cy2]) ?_ ?_ ?_); (focus rfl); (focus exact exec_load75 (by rfl) (by rfl) GB)))
          have h8 : Hold w8 (A1 :: C :: A2 :: L) := (h8.mv 1).mv 2
          clear h7 hr GB K2
          obtain ⟨s1, z1, -, S1⟩ := HS1.out w8 _ h8
          have E1 := eq26 z1 z1 (v := true) (by simp [same_refl])
          have EE1 := Lib.hid E1
          clear E1 z1
          go_wp2_with (first
            | (go_at_call 31; (with_reducible refine S1.mono ?_); rintro e w9 ⟨rfl, h9, S1'⟩; clear S1)
            | (go_at_call 37; (with_reducible refine S1'.mono ?_); rintro e w10 ⟨rfl, h10⟩; clear S1'; have h10 := (h10.mv 2); obtain ⟨s2, z2, -, S2⟩ := HS2.out _ _ h10; have E2 := eq26 z2 z2 (v := true) (by simp [same_refl]); have EE2 := Lib.hid E2; clear E2 z2)
            | (go_at_call 31; (with_reducible refine S2.mono ?_); rintro e w11 ⟨rfl, h11, S2'⟩; clear S2)
            | (go_at_call 37; (with_reducible refine S2'.mono ?_); rintro e w12 ⟨rfl, h12⟩; clear S2'; obtain ⟨s3, z3, cc3, S3⟩ := HS2.out _ _ h12; have hc3 := cc3 (by simp); have KC := check_ok s3 z3; rw [hc3.check] at KC; clear cc3 hc3 z3)
            | (go_at_call 31; (with_reducible refine S3.mono ?_); rintro e w13 ⟨rfl, h13, S3'⟩; clear S3 S3')
            | (go_at_call 19; refine (KC _ _ h13).mono ?_; rintro e w14 ⟨rfl, h14⟩)
            | (go_at_call 18; refine (num_any _ _ _ h14).mono ?_; rintro e w' ⟨rfl, rfl⟩)
            | ((with_reducible refine wpList_yw (o := ⟨some 104, _, _, _, _, _⟩) (v := .bool false) ?_ ?_ ?_); (focus rfl); (focus exact exec_agg_neq (by rfl) (by rfl) (by rfl) g26 EE1.out _))
            | ((with_reducible refine wpList_yw (o := ⟨some 110, _, _, _, _, _⟩) (v := .bool false) ?_ ?_ ?_); (focus rfl); (focus exact exec_agg_neq (by rfl) (by rfl) (by rfl) g26 EE2.out _)))
          go_roundw
          case rel => exact ⟨k + 1, by omega, by go_num, (h14.mv 2).mv 2⟩
          case measure => simp [intOf]; omega
        · have hki2 : (n2 : Int) ≤ k := by omega
          go_wp2
          go_ret
          exact ⟨rfl, (hr.drop.mv 1).drop⟩

end Go.Proofs.Ytklokbmpapjjiaa
