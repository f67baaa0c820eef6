/- The walk of ArenaEmpties. -/
import Derived.Test.YtahhbbcgfhmmgaaArP
open Go.RowKit Go.Own
namespace Go.Proofs.Ytahhbbcgfhmmgaa

def lenOf : Value → Nat
  | .slice _ n _ => n
  | _ => 0

def EmRel (b c n : Nat) (C : Asn) (L : List Asn) (hv mv iv : Value) (wr : World) : Prop :=
  ∃ (k : Nat) (A : AR) (Hs : List Nat) (ho : Option Addr) (hc : Nat), k ≤ n ∧ iv = .int .i64 k ∧ hv = .slice ho Hs.length hc ∧ mv = .int .i64 Hs.length ∧ E1 c A Hs ∧ Hold wr (arA b A :: rowA 3 1 ho Hs.length hc (nums Hs) :: C :: L)
def EmMid (b c : Nat) (Hs : List Nat) (ho : Option Addr) (hc : Nat) (C : Asn) (L : List Asn) (xv fv : Value) (wr : World) : Prop :=
  ∃ (A : AR) (id e : Nat), xv = .int .i64 id ∧ fv = .int .i64 e ∧ ((e = 0 ∧ E1 c A (Hs ++ [id])) ∨ (¬ e = 0 ∧ E1 c A Hs)) ∧ Hold wr (arA b A :: rowA 3 1 ho Hs.length hc (nums Hs) :: C :: L)
def EmRel2 (b c M : Nat) (C : Asn) (L : List Asn) (hv gv iv : Value) (wr : World) : Prop :=
  ∃ (k : Nat) (A : AR) (Hs : List Nat) (gone : Nat) (ho : Option Addr) (hc : Nat), k + Hs.length = M ∧ iv = .int .i64 k ∧ hv = .slice ho Hs.length hc ∧ gv = .int .i64 gone ∧ E2 c M A Hs gone ∧ Hold wr (arA b A :: rowA 3 1 ho Hs.length hc (nums Hs) :: C :: L)
theorem E1.len {c : Nat} {A : AR} {Hs : List Nat} (h : E1 c A Hs) : Hs.length ≤ 65536 := by
  obtain ⟨born, hI, h1, h2, h3, h4, h5⟩ := h
  have := hI.count; have := hI.len; have := hI.cap2; omega
theorem E2.len {c M : Nat} {A : AR} {Hs : List Nat} {gone : Nat} (h : E2 c M A Hs gone) : gone ≤ M := by
  obtain ⟨born, hI, h1, h2, h3, h4, h5⟩ := h
  omega
theorem nums_at {l : List Nat} {k i : Nat} (h : l[k]? = some i) : (nums l)[k]? = some (.int .i64 (i : Int)) := by
  rw [nums, List.getElem?_map, h]; rfl

set_option maxHeartbeats 4000000 in
set_option maxRecDepth 20000 in
theorem empties_bad (c : Int) (hc : ¬ (1 ≤ c ∧ c ≤ 65536)) (x y : Value) (w : World) (L : List Asn) (h : Hold w L) :
    Calls Try.prog 3 #[.int .i64 c, x, y] w fun e w' => e = .returned (.bool true) ∧ Hold w' L := by
  have PN := new_bad c hc w
  go_enter Try.func3, Try.ntmps3
  by_cases h1 : 1 ≤ c
  · have h2 : ¬ c ≤ 65536 := by omega
    have h2' : decide (c ≤ 65536) = false := by simp; omega
    clear hc
    go_wp2_with (first
      | (go_at_call 7; refine PN.mono ?_; rintro e w2 ⟨rfl, rfl⟩)
      | (go_at_call 8; refine (num_any _ _).mono ?_; rintro e w2 ⟨rfl, rfl⟩)
      | (go_at_call 9; refine (live_ok _ _ h).mono ?_; rintro e w4 ⟨rfl, h4⟩))
    go_ret
    exact ⟨rfl, h4⟩
  · have h1' : c < 1 := by omega
    clear hc
    go_wp2_with (first
      | (go_at_call 7; refine PN.mono ?_; rintro e w2 ⟨rfl, rfl⟩)
      | (go_at_call 8; refine (num_any _ _).mono ?_; rintro e w2 ⟨rfl, rfl⟩)
      | (go_at_call 9; refine (live_ok _ _ h).mono ?_; rintro e w4 ⟨rfl, h4⟩))
    go_ret
    exact ⟨rfl, h4⟩

set_option maxHeartbeats 4000000 in
set_option maxRecDepth 20000 in
theorem empties_good (c : Nat) (hc1 : 1 ≤ c) (hc2 : c ≤ 65536) (C : Asn) (ao : Option Addr) (n cap : Nat) (hO : RowsOf C 7 OpRow ao n cap) (hn : n ≤ 140737488351232) (oo : Option Addr) (on ocap : Nat) (zs : List Int) (hZ : Reads C 1 (.slice oo on ocap) on (Go.Own.i64s zs)) (w : World) (L : List Asn) (h : Hold w (C :: L)) :
    Calls Try.prog 3 #[.int .i64 c, .slice ao n cap, .slice oo on ocap] w fun e w' => e = .returned (.bool true) ∧ Hold w' (C :: L) := by
  obtain ⟨i3, hi3, hz0, hz1, hz2⟩ := info_parts info3
  have PN := new_good c hc1 hc2 w _ h
  have hE0 : E1 c (AR.new c) [] := E1.new hc1 hc2
  have HO := Lib.hid (And.intro hO hZ)
  have HC := Lib.hid (And.intro hc1 hc2)
  have hN : (n : Int) ≤ 9223372036854775807 := by omega
  clear hc1 hc2 hO hZ hn h
  go_enter Try.func3, Try.ntmps3
  go_upto_region 6 with (first
    | (go_at_call 7; refine PN.mono ?_; rintro e w2 ⟨b, rfl, h2⟩)
    | (go_at_call 8; refine (num_any _ _).mono ?_; rintro e w2 ⟨rfl, rfl⟩))
  clear PN
  have h3 := (h2.nilRow 3 1).mv 1
  (try dsimp only [Go.Own.front, Go.Own.arrA, Go.Own.atA, Go.Own.dropA, List.length_cons, List.length_nil, Nat.zero_add, Nat.reduceAdd] at h3)
  go_wp2
  go_loopw [9, 10, 12] (fun hv mv iv wr => EmRel b c n C L hv mv iv wr) (fun _ _ iv _ => n - (intOf iv).toNat)
  case atStart => exact ⟨0, AR.new c, [], none, 0, by omega, rfl, rfl, rfl, hE0, h3⟩
  case round =>
    clear h2 h3 hE0
    obtain ⟨k, A, Hs, ho, hcp, hk, rfl, rfl, rfl, hE, hr⟩ := hrel
    have hHl := hE.len
    have HE := Lib.hid hE
    clear hE
    by_cases hlt : k < n
    · have hki : (k : Int) < n := by omega
      have hk0 : 0 ≤ (k : Int) := by omega
      obtain ⟨rb, ro, vs, rfl, ⟨kd, told, on', bit, s, d, m, rfl, hbit, hs, hon⟩, GC⟩ := HO.out.1.at hlt (by omega) (hr.mv 2)
      have GC2 : ∀ W L, Hold W (C :: L) → W.cell? ⟨rb, ro + k * 7, none⟩ = some (.int .i64 kd) ∧ W.cell? ⟨rb, ro + k * 7 + 2, none⟩ = some (.int .i64 on') ∧ W.cell? ⟨rb, ro + k * 7 + 3, none⟩ = some (.int .u8 bit) ∧ W.rangeAt rb (ro + k * 7 + 4) [.int .u32 s, .int .i64 d, .int .i64 m] := fun W L hW => by
        refine ⟨GC W L hW 0 (by omega), GC W L hW 2 (by omega), GC W L hW 3 (by omega), fun j v hj => ?_⟩
        have hj3 : j < 3 := (List.getElem?_eq_some_iff.1 hj).1
        rw [Nat.add_assoc, Nat.add_assoc, GC W L hW (4 + j) (by omega)]
        rcases (by omega : j = 0 ∨ j = 1 ∨ j = 2) with rfl | rfl | rfl <;> exact hj
      have HS := Lib.hid (And.intro hbit hs)
      obtain ⟨g0, g2, g3, gR⟩ := GC2 _ _ (hr.mv 2)
      have HGC := Lib.hid GC2
      clear GC GC2 hbit hs hon
      go_upto_block 2 with (fail)
      go_cut [13, 14] (fun xv fv wc => EmMid b c Hs ho hcp C L xv fv wc)
      case first =>
        by_cases hk1 : kd = 1
        · subst hk1
          have PR := root_ok b A _ HE.out.choose_spec.1 s d m wr _ hr
          have hE2 := HE.out.root HS.out.2 d m
          generalize rootA A s d m = R at *
          obtain ⟨id, e, A2⟩ := R
          have HE2 := Lib.hid hE2
          clear hE2
          simp only at PR
          go_wp2_with (first
            | ((with_reducible refine wpList_yw (o := ⟨some 64, _, _, _, _, _⟩) (v := .agg #[.int .u32 s, .int .i64 d, .int .i64 m]) ?_ ?_ ?_); (focus rfl); (focus exact exec_load32 (by rfl) (by rfl) gR))
            | (go_at_call 10; refine PR.mono ?_; rintro ee w5 ⟨rfl, h5⟩))
          go_meet
          refine ⟨A2, id, e, rfl, rfl, ?_, h5⟩
          rcases HE2.out with ⟨x1, x2⟩ | ⟨x1, x2⟩
          · exact .inl ⟨x1, x2⟩
          · exact .inr ⟨by have x3 : e = 2 := x1; omega, by have x3 : A2 = A := x2; rw [x3]; exact HE.out⟩
        · have hk1f : (kd == 1) = false := by rw [beq_eq_false_iff_ne]; exact hk1
          by_cases hk2 : kd = 2 ∧ 0 < Hs.length
          · obtain ⟨rfl, hpos⟩ := hk2
            have hposi : (0 : Int) < (Hs.length : Int) := by omega
            have hne0 : ¬ Hs.length = 0 := by omega
            obtain ⟨r, q, hr1, hr2, hr3, hr4, hr5, hq⟩ := round_ on' Hs.length hpos hHl
            obtain ⟨i, hi⟩ : ∃ i, Hs[q]? = some i := ⟨Hs[q], List.getElem?_eq_getElem hq⟩
            obtain ⟨hb, hp, rfl, -, -⟩ := (hr.mv 1).at hpos
            have hqi : (q : Int) < (Hs.length : Int) := by omega
            have hq0 : 0 ≤ (q : Int) := by omega
            have FH : ∀ W L, Hold W (rowA 3 1 (some ⟨hb, hp, none⟩) Hs.length hcp (nums Hs) :: L) → W.cell? ⟨hb, hp + q, none⟩ = some (.int .i64 i) := fun W L hW => by
              obtain ⟨hb', hp', he', hct', -⟩ := hW.at hpos
              simp only [Option.some.injEq, Addr.mk.injEq, and_true] at he'
              obtain ⟨rfl, rfl⟩ := he'
              rw [hct' q (by omega)]; exact nums_at hi
            have hdr := hr.drew
            obtain ⟨e0, e2, e3, eR⟩ := HGC.out _ _ (hdr.mv 2)
            have eH := FH _ _ (hdr.mv 1)
            have HFH := Lib.hid FH
            have hband := and_bit bit HS.out.1
            have PC := child_ok b A _ HE.out.choose_spec.1 i (bit % 2) s d m wr.drew _ hdr
            have hE2 := HE.out.child (List.mem_of_getElem? hi) (bit := bit % 2) (by omega) HS.out.2 d m
            generalize childA A i (bit % 2) s d m = R at *
            obtain ⟨id, e, A2⟩ := R
            have HE2 := Lib.hid hE2
            clear hE2 hi FH
            simp only at PC
            go_upto_region 14 with (fail)
            refine wp_region_Z (fun W => W.cell? ⟨hb, hp + q, none⟩ = some (.int .i64 i) ∧ W.cell? ⟨rb, ro + k * 7 + 3, none⟩ = some (.int .u8 bit) ∧ W.rangeAt rb (ro + k * 7 + 4) [.int .u32 s, .int .i64 d, .int .i64 m]) [4, 9, 15] [] [0, 1, 2, 3, 5, 6, 7, 8, 10, 11, 12, 13, 14, 17, 18, 19, 20, 21] [0, 1, 2, 3, 4, 5, 6, 7, 8, 9, 10, 11, 12, 13, 14, 15, 16, 17, 18, 19, 20, 21] (by kernel_rfl) (by kernel_rfl) ?_
            (repeat (first | (refine wpZ_st (v := ?_) _ (by rfl) (by rfl) (by rfl) (fun W hW => ?_) (by exact ⟨eH, e3, eR⟩) ?_; (rotate_left; (focus ((try dsimp only at hW); go_simp; (try with_reducible rfl); done))); try simp only [Act.put, List.getElem_toArray, List.getElem_cons_zero, List.getElem_cons_succ, List.setIfInBounds_toArray, List.set_cons_zero, List.set_cons_succ]) | (refine wpZ_pu (v := ?_) _ (by rfl) (by rfl) (by rfl) (by rfl) (fun W => ?_) ?_; (rotate_left; (focus ((try dsimp only at hW); go_simp; (try with_reducible rfl); done))); try simp only [Act.put, List.getElem_toArray, List.getElem_cons_zero, List.getElem_cons_succ, List.setIfInBounds_toArray, List.set_cons_zero, List.set_cons_succ]) | (refine wpZ_no _ (by rfl) (by rfl) (by rfl) (by rfl) ?_; try simp only [Act.put, List.getElem_toArray, List.getElem_cons_zero, List.getElem_cons_succ, List.setIfInBounds_toArray, List.set_cons_zero, List.set_cons_succ]) | (refine wpZ_noS _ (by rfl) (by rfl) (by rfl) (by exact ⟨eH, e3, eR⟩) ?_; try simp only [Act.put, List.getElem_toArray, List.getElem_cons_zero, List.getElem_cons_succ, List.setIfInBounds_toArray, List.set_cons_zero, List.set_cons_succ])))
            refine wpZ_st (v := .agg #[.int .u32 s, .int .i64 d, .int .i64 m]) _ (by rfl) (by rfl) (by rfl) (fun W hW => exec_load32 (by rfl) (by rfl) hW.2.2) (by exact ⟨eH, e3, eR⟩) ?_
            try simp only [Act.put, List.getElem_toArray, List.getElem_cons_zero, List.getElem_cons_succ, List.setIfInBounds_toArray, List.set_cons_zero, List.set_cons_succ]
            refine wpZ_eff _ (by rfl) (by rfl) (by rfl) (by rfl) (fun K hK => ?_)
            go_simp
            refine PC.mono ?_
            rintro ee w5 ⟨rfl, h5⟩
            dsimp only
            (refine hK _ _ (fun hl => ?_) ?_; (first | (focus (cases hl; done)) | exact ⟨HFH.out _ _ (h5.mv 1), (HGC.out _ _ (h5.mv 2)).2.2.1, (HGC.out _ _ (h5.mv 2)).2.2.2⟩); clear hK K; try simp only [Act.put, List.getElem_toArray, List.getElem_cons_zero, List.getElem_cons_succ, List.setIfInBounds_toArray, List.set_cons_zero, List.set_cons_succ])
            (repeat (first | (refine wpZ_st (v := ?_) _ (by rfl) (by rfl) (by rfl) (fun W hW => ?_) (by exact ⟨HFH.out _ _ (h5.mv 1), (HGC.out _ _ (h5.mv 2)).2.2.1, (HGC.out _ _ (h5.mv 2)).2.2.2⟩) ?_; (rotate_left; (focus ((try dsimp only at hW); go_simp; (try with_reducible rfl); done))); try simp only [Act.put, List.getElem_toArray, List.getElem_cons_zero, List.getElem_cons_succ, List.setIfInBounds_toArray, List.set_cons_zero, List.set_cons_succ]) | (refine wpZ_pu (v := ?_) _ (by rfl) (by rfl) (by rfl) (by rfl) (fun W => ?_) ?_; (rotate_left; (focus ((try dsimp only at hW); go_simp; (try with_reducible rfl); done))); try simp only [Act.put, List.getElem_toArray, List.getElem_cons_zero, List.getElem_cons_succ, List.setIfInBounds_toArray, List.set_cons_zero, List.set_cons_succ]) | (refine wpZ_no _ (by rfl) (by rfl) (by rfl) (by rfl) ?_; try simp only [Act.put, List.getElem_toArray, List.getElem_cons_zero, List.getElem_cons_succ, List.setIfInBounds_toArray, List.set_cons_zero, List.set_cons_succ]) | (refine wpZ_noS _ (by rfl) (by rfl) (by rfl) (by exact ⟨HFH.out _ _ (h5.mv 1), (HGC.out _ _ (h5.mv 2)).2.2.1, (HGC.out _ _ (h5.mv 2)).2.2.2⟩) ?_; try simp only [Act.put, List.getElem_toArray, List.getElem_cons_zero, List.getElem_cons_succ, List.setIfInBounds_toArray, List.set_cons_zero, List.set_cons_succ])))
            (simp only [wpZ])
            go_wp2
            go_meet
            refine ⟨A2, id, e, rfl, rfl, ?_, h5⟩
            rcases HE2.out with ⟨x1, x2⟩ | ⟨x1, x2⟩
            · exact .inl ⟨x1, x2⟩
            · exact .inr ⟨by have x3 : e = 2 := x1; omega, by have x3 : A2 = A := x2; rw [x3]; exact HE.out⟩
          · by_cases hk2' : kd = 2
            · subst hk2'
              have hl0 : Hs.length = 0 := by omega
              have hl1 : decide ((0 : Int) < (Hs.length : Int)) = false := decide_eq_false (by omega)
              have hl2 : decide (0 < Hs.length) = false := decide_eq_false (by omega)
              have HL0 := Lib.hid hl0
              clear hl0
              go_wp2
              go_meet
              exact ⟨A, 0, 3, rfl, rfl, .inr ⟨by omega, HE.out⟩, hr⟩
            · have hk2f : (kd == 2) = false := by rw [beq_eq_false_iff_ne]; exact hk2'
              go_wp2
              go_meet
              exact ⟨A, 0, 3, rfl, rfl, .inr ⟨by omega, HE.out⟩, hr⟩
      case rest =>
        obtain ⟨A2, id, e, rfl, rfl, hE2, h5⟩ := hcut
        have W1 : IntKind.i64.wrap ((k : Int) + 1) = (k : Int) + 1 := IntWalk.i64_in _ (by omega)
        clear hr g0 g2 g3 gR HGC HS
        rcases hE2 with ⟨rfl, hE2⟩ | ⟨hne, hE2⟩
        · have HE2 := Lib.hid hE2
          have W2 : IntKind.i64.wrap ((Hs.length : Int) + 1) = (Hs.length : Int) + 1 := IntWalk.i64_in _ (by omega)
          clear hE2
          have h6 := h5.mv 1
          (try dsimp only [Go.Own.front, Go.Own.arrA, Go.Own.atA, Go.Own.dropA, List.length_cons, List.length_nil, Nat.zero_add, Nat.reduceAdd] at h6)
          clear h5
          go_wp2_with (first
            | (go_at_call 8; refine (num_any _ _).mono ?_; rintro e w2 ⟨rfl, rfl⟩)
            | ((with_reducible refine wpList_plain (o := ⟨some 120, _, _, _, _, _⟩) rfl (fun K hK => ?_)); refine wp_append_one_h (w := wc) _ _ 23 (by rfl) 3 i3 (.int .i64 0) 1 8 Try.underlying23 hi3 hz0 hz1 hz2 (by rfl) ho Hs.length hcp _ (by rfl) h6 [.int .i64 id] (by rfl) ⟨rfl, rfl, rfl, rfl⟩ (by rfl) (by simp [Value.oneCell']) (by unfold maxLen; omega) (by omega) (fun fo2 fc2 w3 h7 hc5 => ?_); refine hK _ _ ?_; clear hK K))
          go_roundw
          case rel =>
            have e2 : nums Hs ++ [.int .i64 (id : Int)] = nums (Hs ++ [id]) := by simp [nums]
            have el : (Hs ++ [id]).length = Hs.length + 1 := by simp
            rw [e2, ← el] at h7
            have h8 := h7.mv 1
            (try dsimp only [Go.Own.front, Go.Own.arrA, Go.Own.atA, Go.Own.dropA, List.length_cons, List.length_nil, Nat.zero_add, Nat.reduceAdd] at h8)
            exact ⟨k + 1, A2, Hs ++ [id], fo2, fc2, by omega, by go_num, by rw [el], by rw [el]; go_num, HE2.out, h8⟩
          case measure => simp [intOf]; omega
        · have HE2 := Lib.hid hE2
          have hnf : ((e : Int) == 0) = false := by rw [beq_eq_false_iff_ne]; omega
          clear hE2
          go_wp2_with (first
            | (go_at_call 8; refine (num_any _ _).mono ?_; rintro e w2 ⟨rfl, rfl⟩))
          go_roundw
          case rel => exact ⟨k + 1, A2, Hs, ho, hcp, by omega, by go_num, rfl, rfl, HE2.out, h5⟩
          case measure => simp [intOf]; omega
    · obtain rfl : k = n := by omega
      go_upto_region 18 with (fail)
      go_wp2
      obtain ⟨M, hM⟩ : ∃ M, Hs.length = M := ⟨_, rfl⟩
      have HM := Lib.hid hM
      go_loopw [9, 11, 16] (fun hv gv iv wr => EmRel2 b c M C L hv gv iv wr) (fun hv _ _ _ => lenOf hv)
      case atStart => exact ⟨0, A, Hs, 0, ho, hcp, by omega, rfl, rfl, rfl, by rw [← hM]; exact HE.out.next, hr⟩
      case round =>
        clear hr HE
        rw [hM] at hHl ⊢
        clear hM HM hlt hN
        clear hk
        obtain ⟨k1, A1, H1, gone, ho1, hc1, hkM, rfl, rfl, rfl, h2, hr⟩ := hrel
        have hgM := h2.len
        have HE2 := Lib.hid h2
        clear h2
        by_cases hpos : 0 < H1.length
        · have hne0 : ¬ H1.length = 0 := by omega
          have hH6 : H1.length ≤ 65536 := by omega
          have hk6 : k1 ≤ 65536 := by omega
          have hk0 : 0 ≤ (k1 : Int) := by omega
          have hposi : (0 : Int) < (H1.length : Int) := by omega
          have W1 : IntKind.i64.wrap ((k1 : Int) + 1) = (k1 : Int) + 1 := IntWalk.i64_in _ (by omega)
          have W2 : IntKind.i64.wrap ((H1.length : Int) - 1) = (H1.length : Int) - 1 := IntWalk.i64_in _ (by omega)
          go_upto_if 134 with (fail)
          go_cut [17] (fun kv wc => ∃ q : Nat, kv = .int .i64 q ∧ q < H1.length ∧ wc = wr)
          case first =>
            by_cases hko : k1 < on
            · have hkoi : (k1 : Int) < (on : Int) := by omega
              obtain ⟨Sz, hz⟩ := (hr.mv 2).reads HO.out.2
              obtain ⟨zb, zo, hze, -, -, hzc⟩ := hz.addr (by omega)
              have hzl := hz.bounds.1
              obtain ⟨z, hzk⟩ : ∃ z, zs[k1]? = some z := ⟨zs[k1]'(by simp at hzl; omega), List.getElem?_eq_getElem _⟩
              have cz : wr.cell? ⟨zb, zo + k1, none⟩ = some (.int .i64 z) := by
                rw [hzc k1 (by omega), Go.Own.i64s, List.getElem?_map, hzk]; rfl
              obtain ⟨r, q, hr1, hr2, hr3, hr4, hr5, hq⟩ := round_ z H1.length hpos hH6
              clear hz hzc hzk hzl
              subst hze
              go_wp2
              go_meet
              exact ⟨q, rfl, hq, rfl⟩
            · have hkoi : ¬ (k1 : Int) < (on : Int) := by omega
              go_wp2
              go_meet
              exact ⟨H1.length - 1, by rw [show ((H1.length - 1 : Nat) : Int) = (H1.length : Int) - 1 by omega], by omega, rfl⟩
          case rest =>
            obtain ⟨q, rfl, hq, hw⟩ := hcut
            subst hw
            clear W2
            obtain ⟨i, hi⟩ : ∃ i, H1[q]? = some i := ⟨H1[q], List.getElem?_eq_getElem hq⟩
            obtain ⟨hb, hp, rfl, -, -⟩ := (hr.mv 1).at hpos
            have hqi : (q : Int) < (H1.length : Int) := by omega
            have hq0 : 0 ≤ (q : Int) := by omega
            have FH : ∀ W L, Hold W (rowA 3 1 (some ⟨hb, hp, none⟩) H1.length hc1 (nums H1) :: L) → W.cell? ⟨hb, hp + q, none⟩ = some (.int .i64 i) := fun W L hW => by
              obtain ⟨hb', hp', he', hct', -⟩ := hW.at hpos
              simp only [Option.some.injEq, Addr.mk.injEq, and_true] at he'
              obtain ⟨rfl, rfl⟩ := he'
              rw [hct' q (by omega)]; exact nums_at hi
            have eH := FH _ _ (hr.mv 1)
            have PD := drop_ok b A1 _ HE2.out.choose_spec.1 i wc _ hr
            obtain ⟨d1, d2, d3⟩ := HE2.out.drop hi
            generalize dropA A1 (i : Int) = R at *
            obtain ⟨n2, e, A2⟩ := R
            have d1 : e = 0 := d1
            subst d1
            have d3 : n2 ≤ 65536 := d3
            have d2 : E2 c M A2 (H1.take q ++ H1.drop (q + 1)) (gone + n2) := d2
            have HD2 := Lib.hid d2
            have W2 : IntKind.i64.wrap ((gone : Int) + n2) = (gone : Int) + n2 := IntWalk.i64_in _ (by omega)
            have W3 : IntKind.i64.wrap ((q : Int) + 1) = (q : Int) + 1 := IntWalk.i64_in _ (by omega)
            clear FH d2 hi
            simp only at PD
            go_upto_region 28 with (first
              | (go_at_call 8; refine (num_any _ _).mono ?_; rintro e w2 ⟨rfl, rfl⟩)
              | (go_at_call 12; refine PD.mono ?_; rintro ee w5 ⟨rfl, h5⟩))
            clear PD eH hr
            have h6 := h5.drew
            have hq1 : (q : Int) + 1 ≤ (H1.length : Int) := by omega
            have hn1 : ((q : Int) + 1).toNat = q + 1 := by omega
            have hq10 : ¬ ((q : Int) + 1 < 0) := by omega
            have hq11 : 0 ≤ (q : Int) + 1 := by omega
            have hqq : (q : Int) ≤ (q : Int) + 1 := by omega
            have hn2 : (q + 1 : Nat) ≤ H1.length := by omega
            have hcb := (h6.mv 1).bounds.2.1
            have hc1q : q ≤ hc1 := by omega
            have hc1i : (q : Int) ≤ (hc1 : Int) := by omega
            have hc1j : (H1.length : Int) ≤ (hc1 : Int) := by omega
            have hc1m : (hc1 : Int) ≤ 9223372036854775807 := by have := (h6.mv 1).bounds.2.2; unfold maxLen at this; omega
            obtain ⟨S1, r1⟩ := (h6.mv 1).rd
            have r2 := r1.sliced (l := 0) (u := q) (m := hc1) (by omega) (by omega) (by omega) (by omega)
            have e1 : sliced (some ⟨hb, hp, none⟩) 0 q hc1 1 = .slice (some ⟨hb, hp, none⟩) q hc1 := by
              unfold sliced; rw [if_neg (by omega)]; simp [Addr.add]
            have e2 : ((nums H1).drop (0 * 1)).take ((q - 0) * 1) = nums (H1.take q) := by simp [nums]
            rw [e1, e2, Nat.sub_zero] at r2
            have h6' := h6
            have HN1 := Lib.hid (nums_one (H1.take q))
            have HN2 := Lib.hid (nums_one (H1.drop (q + 1)))
            have hfin : ∀ (ao2 : Option Addr) (cap2 : Nat) (wz : World), Hold wz (rowA 3 1 ao2 (q + (H1.length - (q + 1))) cap2 (nums (H1.take q) ++ nums (H1.drop (q + 1))) :: arA b A2 :: rowA 3 1 (some ⟨hb, hp, none⟩) H1.length hc1 (nums H1) :: C :: L) → EmRel2 b c M C L (.slice ao2 (q + (H1.length - (q + 1))) cap2) (.int .i64 ((gone : Int) + n2)) (.int .i64 ((k1 : Int) + 1)) wz := fun ao2 cap2 wz hW => by
              have el : (H1.take q ++ H1.drop (q + 1)).length = q + (H1.length - (q + 1)) := by simp; omega
              have h7 := (hW.mv 2).drop.mv 1
              (try dsimp only [Go.Own.front, Go.Own.arrA, Go.Own.atA, Go.Own.dropA, List.length_cons, List.length_nil, Nat.zero_add, Nat.reduceAdd] at h7)
              rw [← nums_append, ← el] at h7
              exact ⟨k1 + 1, A2, _, gone + n2, ao2, cap2, by rw [el]; omega, by go_num, by rw [el], by go_num, HD2.out, h7⟩
            have HFIN := Lib.hid hfin
            have HX : Hid (q + (H1.length - (q + 1)) < H1.length) := Lib.hid (by omega)
            have r3 := fun (W : World) (hW : ∃ S, Rd W 1 (.slice (some ⟨hb, hp, none⟩) H1.length hc1) H1.length (nums H1) S) => hW.choose_spec.sliced (l := q + 1) (u := H1.length) (m := hc1) (by omega) (by omega) (by omega) (by omega)
            have e3 : ((nums H1).drop ((q + 1) * 1)).take ((H1.length - (q + 1)) * 1) = nums (H1.drop (q + 1)) := by
              rw [Nat.mul_one, Nat.mul_one, nums, ← List.map_drop, List.take_of_length_le (by simp)]; rfl
            rw [e3] at r3
            clear e1 e2 e3 hfin h5
            obtain ⟨L9, hL9⟩ : ∃ L9, H1.length - (q + 1) = L9 := ⟨_, rfl⟩
            rw [hL9] at r3 HFIN HX
            by_cases hce : hc1 = q + 1
            · subst hce
              have e4 : sliced (some ⟨hb, hp, none⟩) (q + 1) H1.length (q + 1) 1 = .slice (some ⟨hb, hp, none⟩) L9 0 := by
                unfold sliced; rw [if_pos rfl, hL9, Nat.sub_self]
              rw [e4] at r3
              clear e4
              refine wp_region_Z (fun W => True) [] [0, 4, 9] [1, 2, 3, 5, 6, 7, 8, 10] [1, 2, 3, 5, 6, 7, 8, 0, 4, 9, 10] (by kernel_rfl) (by kernel_rfl) ?_
              (repeat (first | (refine wpZ_st (v := ?_) _ (by rfl) (by rfl) (by rfl) (fun W hW => ?_) (by trivial) ?_; (rotate_left; (focus ((try dsimp only at hW); go_simp; (try with_reducible rfl); done))); try simp only [Act.put, List.getElem_toArray, List.getElem_cons_zero, List.getElem_cons_succ, List.setIfInBounds_toArray, List.set_cons_zero, List.set_cons_succ]) | (refine wpZ_pu (v := ?_) _ (by rfl) (by rfl) (by rfl) (by rfl) (fun W => ?_) ?_; (rotate_left; (focus ((try dsimp only at hW); go_simp; (try with_reducible rfl); done))); try simp only [Act.put, List.getElem_toArray, List.getElem_cons_zero, List.getElem_cons_succ, List.setIfInBounds_toArray, List.set_cons_zero, List.set_cons_succ]) | (refine wpZ_no _ (by rfl) (by rfl) (by rfl) (by rfl) ?_; try simp only [Act.put, List.getElem_toArray, List.getElem_cons_zero, List.getElem_cons_succ, List.setIfInBounds_toArray, List.set_cons_zero, List.set_cons_succ]) | (refine wpZ_noS _ (by rfl) (by rfl) (by rfl) (by trivial) ?_; try simp only [Act.put, List.getElem_toArray, List.getElem_cons_zero, List.getElem_cons_succ, List.setIfInBounds_toArray, List.set_cons_zero, List.set_cons_succ])))
              (refine wpZ_eff _ (by rfl) (by rfl) (by rfl) (by rfl) (fun K hK => ?_); go_simp; refine hK _ _ (fun hl => ?_) ?_; (first | (focus (cases hl; done)) | trivial); clear hK K; try simp only [Act.put, List.getElem_toArray, List.getElem_cons_zero, List.getElem_cons_succ, List.setIfInBounds_toArray, List.set_cons_zero, List.set_cons_succ])
              refine wpZ_eff _ (by rfl) (by rfl) (by rfl) (by rfl) (fun K hK => ?_)
              refine wp_append_new_h (w := w5.drew) _ _ 23 (by rfl) 3 i3 (.int .i64 0) 1 8 Try.underlying23 hi3 hz0 hz1 hz2 (by rfl) h6 (by rfl) ⟨rfl, rfl, rfl, rfl⟩ _ (by rfl) q (nums (H1.take q)) S1 r2 HN1.out (by unfold maxLen; omega) (by omega) (fun a3 c3 w7 h7 hc7 => ?_)
              have r4 := r3 w7 (h7.mv 2).rd
              (refine hK _ _ (fun hl => ?_) ?_; (first | (focus (cases hl; done)) | trivial); clear hK K; try simp only [Act.put, List.getElem_toArray, List.getElem_cons_zero, List.getElem_cons_succ, List.setIfInBounds_toArray, List.set_cons_zero, List.set_cons_succ])
              refine wpZ_eff _ (by rfl) (by rfl) (by rfl) (by rfl) (fun K hK => ?_)
              refine wp_append_src_h (w := w7) _ _ 23 (by rfl) 3 i3 (.int .i64 0) 1 8 Try.underlying23 hi3 hz0 hz1 hz2 (by rfl) a3 q c3 _ (by rfl) h7 _ (by rfl) L9 (nums (H1.drop (q + 1))) _ r4 HN2.out (by unfold maxLen; omega) (by omega) (fun a4 c4 w8 h8 hc8 => ?_)
              (refine hK _ _ (fun hl => ?_) ?_; (first | (focus (cases hl; done)) | trivial); clear hK K; try simp only [Act.put, List.getElem_toArray, List.getElem_cons_zero, List.getElem_cons_succ, List.setIfInBounds_toArray, List.set_cons_zero, List.set_cons_succ])
              (repeat (first | (refine wpZ_st (v := ?_) _ (by rfl) (by rfl) (by rfl) (fun W hW => ?_) (by trivial) ?_; (rotate_left; (focus ((try dsimp only at hW); go_simp; (try with_reducible rfl); done))); try simp only [Act.put, List.getElem_toArray, List.getElem_cons_zero, List.getElem_cons_succ, List.setIfInBounds_toArray, List.set_cons_zero, List.set_cons_succ]) | (refine wpZ_pu (v := ?_) _ (by rfl) (by rfl) (by rfl) (by rfl) (fun W => ?_) ?_; (rotate_left; (focus ((try dsimp only at hW); go_simp; (try with_reducible rfl); done))); try simp only [Act.put, List.getElem_toArray, List.getElem_cons_zero, List.getElem_cons_succ, List.setIfInBounds_toArray, List.set_cons_zero, List.set_cons_succ]) | (refine wpZ_no _ (by rfl) (by rfl) (by rfl) (by rfl) ?_; try simp only [Act.put, List.getElem_toArray, List.getElem_cons_zero, List.getElem_cons_succ, List.setIfInBounds_toArray, List.set_cons_zero, List.set_cons_succ]) | (refine wpZ_noS _ (by rfl) (by rfl) (by rfl) (by trivial) ?_; try simp only [Act.put, List.getElem_toArray, List.getElem_cons_zero, List.getElem_cons_succ, List.setIfInBounds_toArray, List.set_cons_zero, List.set_cons_succ])))
              (simp only [wpZ])
              have HREL := Lib.hid (HFIN.out a4 c4 w8 h8)
              clear r4 h7 h8 r2 r3 h6 h6'
              go_wp2
              go_roundw
              case rel => exact HREL.out
              case measure => simp [lenOf]; exact HX.out
            · have e4 : sliced (some ⟨hb, hp, none⟩) (q + 1) H1.length hc1 1 = .slice (some ⟨hb, hp + (q + 1), none⟩) L9 (hc1 - (q + 1)) := by
                unfold sliced; rw [if_neg hce, hL9]; simp [Addr.add]
              rw [e4] at r3
              clear e4
              refine wp_region_Z (fun W => True) [] [0, 4, 9] [1, 2, 3, 5, 6, 7, 8, 10] [1, 2, 3, 5, 6, 7, 8, 0, 4, 9, 10] (by kernel_rfl) (by kernel_rfl) ?_
              (repeat (first | (refine wpZ_st (v := ?_) _ (by rfl) (by rfl) (by rfl) (fun W hW => ?_) (by trivial) ?_; (rotate_left; (focus ((try dsimp only at hW); go_simp; (try with_reducible rfl); done))); try simp only [Act.put, List.getElem_toArray, List.getElem_cons_zero, List.getElem_cons_succ, List.setIfInBounds_toArray, List.set_cons_zero, List.set_cons_succ]) | (refine wpZ_pu (v := ?_) _ (by rfl) (by rfl) (by rfl) (by rfl) (fun W => ?_) ?_; (rotate_left; (focus ((try dsimp only at hW); go_simp; (try with_reducible rfl); done))); try simp only [Act.put, List.getElem_toArray, List.getElem_cons_zero, List.getElem_cons_succ, List.setIfInBounds_toArray, List.set_cons_zero, List.set_cons_succ]) | (refine wpZ_no _ (by rfl) (by rfl) (by rfl) (by rfl) ?_; try simp only [Act.put, List.getElem_toArray, List.getElem_cons_zero, List.getElem_cons_succ, List.setIfInBounds_toArray, List.set_cons_zero, List.set_cons_succ]) | (refine wpZ_noS _ (by rfl) (by rfl) (by rfl) (by trivial) ?_; try simp only [Act.put, List.getElem_toArray, List.getElem_cons_zero, List.getElem_cons_succ, List.setIfInBounds_toArray, List.set_cons_zero, List.set_cons_succ])))
              (refine wpZ_eff _ (by rfl) (by rfl) (by rfl) (by rfl) (fun K hK => ?_); go_simp; refine hK _ _ (fun hl => ?_) ?_; (first | (focus (cases hl; done)) | trivial); clear hK K; try simp only [Act.put, List.getElem_toArray, List.getElem_cons_zero, List.getElem_cons_succ, List.setIfInBounds_toArray, List.set_cons_zero, List.set_cons_succ])
              refine wpZ_eff _ (by rfl) (by rfl) (by rfl) (by rfl) (fun K hK => ?_)
              refine wp_append_new_h (w := w5.drew) _ _ 23 (by rfl) 3 i3 (.int .i64 0) 1 8 Try.underlying23 hi3 hz0 hz1 hz2 (by rfl) h6 (by rfl) ⟨rfl, rfl, rfl, rfl⟩ _ (by rfl) q (nums (H1.take q)) S1 r2 HN1.out (by unfold maxLen; omega) (by omega) (fun a3 c3 w7 h7 hc7 => ?_)
              have r4 := r3 w7 (h7.mv 2).rd
              (refine hK _ _ (fun hl => ?_) ?_; (first | (focus (cases hl; done)) | trivial); clear hK K; try simp only [Act.put, List.getElem_toArray, List.getElem_cons_zero, List.getElem_cons_succ, List.setIfInBounds_toArray, List.set_cons_zero, List.set_cons_succ])
              refine wpZ_eff _ (by rfl) (by rfl) (by rfl) (by rfl) (fun K hK => ?_)
              refine wp_append_src_h (w := w7) _ _ 23 (by rfl) 3 i3 (.int .i64 0) 1 8 Try.underlying23 hi3 hz0 hz1 hz2 (by rfl) a3 q c3 _ (by rfl) h7 _ (by rfl) L9 (nums (H1.drop (q + 1))) _ r4 HN2.out (by unfold maxLen; omega) (by omega) (fun a4 c4 w8 h8 hc8 => ?_)
              (refine hK _ _ (fun hl => ?_) ?_; (first | (focus (cases hl; done)) | trivial); clear hK K; try simp only [Act.put, List.getElem_toArray, List.getElem_cons_zero, List.getElem_cons_succ, List.setIfInBounds_toArray, List.set_cons_zero, List.set_cons_succ])
              (repeat (first | (refine wpZ_st (v := ?_) _ (by rfl) (by rfl) (by rfl) (fun W hW => ?_) (by trivial) ?_; (rotate_left; (focus ((try dsimp only at hW); go_simp; (try with_reducible rfl); done))); try simp only [Act.put, List.getElem_toArray, List.getElem_cons_zero, List.getElem_cons_succ, List.setIfInBounds_toArray, List.set_cons_zero, List.set_cons_succ]) | (refine wpZ_pu (v := ?_) _ (by rfl) (by rfl) (by rfl) (by rfl) (fun W => ?_) ?_; (rotate_left; (focus ((try dsimp only at hW); go_simp; (try with_reducible rfl); done))); try simp only [Act.put, List.getElem_toArray, List.getElem_cons_zero, List.getElem_cons_succ, List.setIfInBounds_toArray, List.set_cons_zero, List.set_cons_succ]) | (refine wpZ_no _ (by rfl) (by rfl) (by rfl) (by rfl) ?_; try simp only [Act.put, List.getElem_toArray, List.getElem_cons_zero, List.getElem_cons_succ, List.setIfInBounds_toArray, List.set_cons_zero, List.set_cons_succ]) | (refine wpZ_noS _ (by rfl) (by rfl) (by rfl) (by trivial) ?_; try simp only [Act.put, List.getElem_toArray, List.getElem_cons_zero, List.getElem_cons_succ, List.setIfInBounds_toArray, List.set_cons_zero, List.set_cons_succ])))
              (simp only [wpZ])
              have HREL := Lib.hid (HFIN.out a4 c4 w8 h8)
              clear r4 h7 h8 r2 r3 h6 h6'
              go_wp2
              go_roundw
              case rel => exact HREL.out
              case measure => simp [lenOf]; exact HX.out
        · have hnil : H1 = [] := List.eq_nil_of_length_eq_zero (by omega)
          subst hnil
          have hlast := HE2.out.last
          have hcap := HE2.out.choose_spec.2.1
          have hc9 := HC.out
          have P7 := len_ok b A1 (by rw [hcap]; exact hc9.1)
          have P8 := room_ok b A1 (by rw [hcap]; exact hc9.1) (by rw [hcap]; exact hc9.2) (by rw [hlast.1]; omega)
          rw [hlast.1] at P7
          rw [hlast.1, hcap] at P8
          obtain ⟨-, rfl⟩ := hlast
          have hz : ((c : Int) - (0 : Nat)) = c := by omega
          rw [hz] at P8
          clear hz hcap hc9
          go_wp2_with (first
            | (go_at_call 13; refine (P7 _ _ hr).mono ?_; rintro e w9 ⟨rfl, h10⟩)
            | (go_at_call 14; refine (P8 _ _ h10).mono ?_; rintro e w10 ⟨rfl, h11⟩)
            | (go_at_call 9; refine (live_ok _ _ h11).mono ?_; rintro e w12 ⟨rfl, h12⟩))
          go_ret
          exact ⟨rfl, h12.drop.drop⟩

end Go.Proofs.Ytahhbbcgfhmmgaa
