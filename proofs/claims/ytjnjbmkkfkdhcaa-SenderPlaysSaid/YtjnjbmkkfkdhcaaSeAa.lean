/- Contracts: a call on both (does). -/
import Derived.Test.YtjnjbmkkfkdhcaaSeZb
import Derived.Test.YtjnjbmkkfkdhcaaSeV
import Derived.Test.YtjnjbmkkfkdhcaaSeP
open Go.RowKit Go.Own
namespace Go.Proofs.Ytjnjbmkkfkdhcaa

def FillRel (n cap : Nat) (ao : Option Addr) (R : List Asn) (i : Value) (wr : World) : Prop := ∃ (k m : Nat) (zs : List Value), k ≤ n ∧ i = .int .i64 k ∧ n ≤ m ∧ Hold wr (rowA 5 1 ao m cap zs :: R)

set_option maxHeartbeats 4000000 in
set_option maxRecDepth 20000 in
theorem does_ok (b c : Nat) (S : SS) (F : Nat) (G : List (List UInt8)) (hK : KI F S G) (kd : Int) (ys : List UInt8) (ax : Option Addr) (cx N : Nat) (near : Bool) (C : Asn) (hRy : Reads C 1 (.slice ax ys.length cx) ys.length (ub ys)) (hyl : ys.length ≤ 140737488351232) (hN4 : N ≤ 4294967295)
    (w : World) (L : List Asn) (h : Hold w (snA b S :: rfA c S F G :: C :: L)) :
    Calls Try.prog 20 #[.pointer (some ⟨b, 0, none⟩), .pointer (some ⟨c, 0, none⟩), .agg #[.int .i64 kd, .slice ax ys.length cx, .int .u32 N, .bool near]] w fun e w' => e = .returned (.bool true) ∧ ∃ S' G', KI F S' G' ∧ Hold w' (snA b S' :: rfA c S' F G' :: C :: L) := by
  have hb := h.box 34 [.int .i64 kd, .slice ax ys.length cx, .int .u32 N, .bool near]
  obtain ⟨qo, hqo⟩ : ∃ q, w.heap.size = q := ⟨_, rfl⟩
  simp only [hqo] at hb
  have HK := Lib.hid hK
  have hy9 : (ys.length : Int) ≤ 9223372036854775806 := by omega
  clear h
  go_enter Try.func20, Try.ntmps20
  go_upto_region 1 with (fail)
  try simp only [hqo]
  refine gen_world hb (fun w1 hb => ?_)
  clear hqo
  have c0 : w1.cell? ⟨qo, 0, none⟩ = some (.int .i64 kd) := hb.cell 0
  have c1 : w1.cell? ⟨qo, 1, none⟩ = some (.slice ax ys.length cx) := hb.cell 1
  have c2 : w1.cell? ⟨qo, 2, none⟩ = some (.int .u32 N) := hb.cell 2
  have c3 : w1.cell? ⟨qo, 3, none⟩ = some (.bool near) := hb.cell 3
  by_cases hk1 : kd = 1
  · subst hk1
    have PO := own_ok ys C ax ys.length cx hRy hyl
    have hsend : ∃ (n0 : Int) (e0 : Nat) (S' : SS) (G' : List (List UInt8)), KI F S' G' ∧
        (∀ ao cap w L, Hold w (snA b S :: ownA ao ys.length cap ys :: L) → Calls Try.prog 10 #[.pointer (some ⟨b, 0, none⟩), .slice ao ys.length cap] w fun e w' => e = .returned (.tuple #[.int .u32 n0, .int .i64 e0]) ∧ Hold w' (snA b S' :: ownA ao ys.length cap ys :: L)) ∧
        (∀ w L, Hold w (rfA c S F G :: C :: L) → Calls Try.prog 30 #[.pointer (some ⟨c, 0, none⟩), .slice ax ys.length cx] w fun e w' => e = .returned (.tuple #[.int .u32 n0, .int .i64 e0]) ∧ Hold w' (rfA c S' F G' :: C :: L)) := by
      by_cases he : sendE S ys.length = 0
      · exact ⟨S.fin, 0, addS S ys, G ++ [ys], hK.add he, fun ao cap w L h => send_good b S hK.si ys (ownA ao ys.length cap ys) ao ys.length cap (ownA_reads rfl) he w L h, fun w L h => rsend_good c S F G hK ys C ax cx hRy he w L h⟩
      · exact ⟨0, sendE S ys.length, S, G, hK, fun ao cap w L h => send_bad b S hK.si ao ys.length cap hyl he w _ h, fun w L h => rsend_bad c S F G hK ax ys.length cx hyl he w _ h⟩
    obtain ⟨n0, e0, S', G', K', PS, PR⟩ := hsend
    have HK' := Lib.hid K'
    have HRY := Lib.hid hRy
    clear K' hK hRy hyl hN4
    go_upto_region 4 with (go_at_call 11; refine (PO _ _ (hb.mv 3)).mono ?_; rintro e w3 ⟨a3, cap3, rfl, h3⟩)
    have h4 := h3.arr [3, 0, 1, 2, 4]
    (try dsimp only [Go.Own.front, Go.Own.arrA, Go.Own.atA, Go.Own.dropA, List.length_cons, List.length_nil, Nat.zero_add, Nat.reduceAdd] at h4)
    go_upto_region 5 with (go_at_call 10; refine (PS _ _ _ _ h4).mono ?_; rintro e w5 ⟨rfl, h5⟩)
    have h6 := h5.arr [4, 2, 0, 1, 3]
    (try dsimp only [Go.Own.front, Go.Own.arrA, Go.Own.atA, Go.Own.dropA, List.length_cons, List.length_nil, Nat.zero_add, Nat.reduceAdd] at h6)
    clear c0 c1 c2 c3 hb h3 h4 PO PS
    have c1 : w5.cell? ⟨qo, 1, none⟩ = some (.slice ax ys.length cx) := (h5.mv 3).cell 1
    go_upto_region 6 with (go_at_call 30; refine (PR _ _ h6).mono ?_; rintro e w7 ⟨rfl, h7⟩)
    clear c1 h5 h6 PR
    have h8 := (h7.arr [3, 0, 1, 2, 4]).drew
    (try dsimp only [Go.Own.front, Go.Own.arrA, Go.Own.atA, Go.Own.dropA, List.length_cons, List.length_nil, Nat.zero_add, Nat.reduceAdd] at h8)
    obtain ⟨gb, go, rfl, hc, -⟩ := Hold.at h8 (by omega)
    have cM : w7.drew.cell? ⟨gb, go + ys.length, none⟩ = some (.int .u8 201) := by
      rw [hc ys.length (by omega), List.getElem?_append_right (by simp)]
      simp
    have hcap := (Hold.bounds h8).2.1
    have hcm := (Hold.bounds h8).2.2
    unfold maxLen at hcm
    obtain ⟨S1, r1⟩ := h8.reads (ownA_reads rfl)
    obtain ⟨S2, r2⟩ := (h8.mv 2).reads HRY.out
    have t1 := run_text Try.underlying32 Try.underlying5 Try.underlying9 r1
    have t2 := run_text Try.underlying32 Try.underlying5 Try.underlying9 r2
    have c1 : w7.drew.cell? ⟨qo, 1, none⟩ = some (.slice ax ys.length cx) := (h8.mv 4).cell 1
    clear hc r1 r2 h7
    have hcap1 : (ys.length : Int) + 1 ≤ cap3 := by omega
    have hy0 : 0 ≤ (ys.length : Int) + 1 := by omega
    have hy1 : (ys.length : Int) < (ys.length : Int) + 1 := by omega
    have hy2 : 0 ≤ (ys.length : Int) := by omega
    have W1 : IntKind.i64.wrap ((ys.length : Int) + 1) = (ys.length : Int) + 1 := IntWalk.i64_in _ (by omega)
    refine wp_region_Z (fun W => W.cell? ⟨qo, 1, none⟩ = some (.slice ax ys.length cx) ∧ W.cell? ⟨gb, go + ys.length, none⟩ = some (.int .u8 201) ∧ (convert 32 9 (.slice (some ⟨gb, go, none⟩) ys.length cap3)).run Try.prog W = .ok (.string ⟨ys.toArray⟩) W ∧ (convert 32 9 (.slice ax ys.length cx)).run Try.prog W = .ok (.string ⟨ys.toArray⟩) W) [1, 3, 4, 9, 14, 17] [] [0, 2, 5, 6, 7, 8, 10, 11, 12, 13, 15, 16, 18, 19] [0, 1, 2, 3, 4, 5, 6, 7, 8, 9, 10, 11, 12, 13, 14, 15, 16, 17, 18, 19] (by kernel_rfl) (by kernel_rfl) ?_
    (repeat (first | (refine wpZ_st (v := ?_) _ (by rfl) (by rfl) (by rfl) (fun W hW => ?_) (by exact ⟨c1, cM, t1, t2⟩) ?_; (rotate_left; (focus ((try dsimp only at hW); go_simp; (try with_reducible rfl); done))); try simp only [Act.put, List.getElem_toArray, List.getElem_cons_zero, List.getElem_cons_succ, List.setIfInBounds_toArray, List.set_cons_zero, List.set_cons_succ]) | (refine wpZ_pu (v := ?_) _ (by rfl) (by rfl) (by rfl) (by rfl) (fun W => ?_) ?_; (rotate_left; (focus ((try dsimp only at hW); go_simp; (try with_reducible rfl); done))); try simp only [Act.put, List.getElem_toArray, List.getElem_cons_zero, List.getElem_cons_succ, List.setIfInBounds_toArray, List.set_cons_zero, List.set_cons_succ]) | (refine wpZ_no _ (by rfl) (by rfl) (by rfl) (by rfl) ?_; try simp only [Act.put, List.getElem_toArray, List.getElem_cons_zero, List.getElem_cons_succ, List.setIfInBounds_toArray, List.set_cons_zero, List.set_cons_succ]) | (refine wpZ_noS _ (by rfl) (by rfl) (by rfl) (by exact ⟨c1, cM, t1, t2⟩) ?_; try simp only [Act.put, List.getElem_toArray, List.getElem_cons_zero, List.getElem_cons_succ, List.setIfInBounds_toArray, List.set_cons_zero, List.set_cons_succ])))
    (simp only [wpZ])
    clear cM t1 t2 c1 hcap1 hcap hcm hy0 hy1
    go_wp2
    go_loopw [12] (fun i wr => FillRel ys.length cap3 (some ⟨gb, go, none⟩) (rfA c S' F G' :: C :: snA b S' :: cellsA qo 34 [.int .i64 1, .slice ax ys.length cx, .int .u32 N, .bool near] :: L) i wr) (fun i _ => ys.length - (intOf i).toNat)
    case atStart => exact ⟨0, ys.length + 1, _, by omega, rfl, by omega, h8⟩
    case round =>
      clear h8
      obtain ⟨k, m, zs, hk, rfl, hm, hr⟩ := hrel
      have hk0 : 0 ≤ (k : Int) := by omega
      by_cases hlt : k < ys.length
      · have hki : (k : Int) < ys.length := by omega
        obtain ⟨gb', go', he, hc, hff⟩ := hr.at (by omega)
        simp only [Option.some.injEq, Addr.mk.injEq, and_true] at he
        obtain ⟨rfl, rfl⟩ := he
        obtain ⟨z, hz⟩ : ∃ z, zs[k]? = some z := ⟨zs[k]'(by have := hr.bounds.1; omega), List.getElem?_eq_getElem _⟩
        have ck := (hc k (by omega)).trans hz
        have fk := hff (go + k)
        have HS := hr.put k (by omega) (.int .u8 200)
        have HLT := Lib.hid (And.intro hlt hm)
        clear hc hff hz hlt hm
        go_wp2
        go_roundw
        case rel => exact ⟨k + 1, m, _, HLT.out.1, by go_num, HLT.out.2, HS⟩
        case measure => have := HLT.out.1; simp [intOf]; omega
      · obtain rfl : k = ys.length := by omega
        clear hlt hm
        go_wp2_with (go_at_call 8; refine (num_any _ _).mono ?_; rintro e w5 ⟨rfl, rfl⟩)
        go_ret
        refine ⟨rfl, S', G', HK'.out, ?_⟩
        have h9 := (hr.arr [0, 4, 3, 1, 2]).drop.drop
        (try dsimp only [Go.Own.front, Go.Own.arrA, Go.Own.atA, Go.Own.dropA, List.length_cons, List.length_nil, Nat.zero_add, Nat.reduceAdd] at h9)
        exact h9
  · have hd1 : (kd == 1) = false := by rw [beq_eq_false_iff_ne]; exact hk1
    clear hRy hyl
    by_cases hk2 : kd = 2
    · subst hk2
      have hslot : ∃ (k1 s1 : Int) (x : List UInt8) (ok : Bool), x.length ≤ 64 ∧
          (∀ w L, Hold w (snA b S :: L) → Calls Try.prog 12 #[.pointer (some ⟨b, 0, none⟩)] w fun e w' => ∃ ao cap, e = .returned (.tuple #[.agg #[.int .i64 k1, .int .u32 s1, .int .u32 0, .slice ao x.length cap], .bool ok]) ∧ Hold w' (rowA 5 1 ao x.length cap (ub x) :: snA b (slotS S) :: L)) ∧
          (∀ w L, Hold w (rfA c S F G :: L) → Calls Try.prog 31 #[.pointer (some ⟨c, 0, none⟩)] w fun e w' => ∃ ao cap, e = .returned (.tuple #[.agg #[.int .i64 k1, .int .u32 s1, .int .u32 0, .slice ao x.length cap], .bool ok]) ∧ Hold w' (rowA 5 1 ao x.length cap (ub x) :: rfA c (slotS S) F G :: L)) := by
        by_cases hrd : ready (tickS S) = true
        · obtain ⟨x, hx, hx64⟩ : ∃ x, S.L[(tickS S).next - S.base]? = some x ∧ x.length ≤ 64 := by
            have hr2 := hrd
            simp only [ready, decide_eq_true_eq] at hr2
            obtain ⟨t1, t2, -, -, t5, -, -⟩ := tick_same S
            have hf := hK.si.fin
            have hlt : (tickS S).next - S.base < S.L.length := by have := hK.si.tick.bn; omega
            exact ⟨S.L[(tickS S).next - S.base], List.getElem?_eq_getElem hlt, hK.si.short _ (List.getElem_mem hlt)⟩
          refine ⟨2, (tickS S).next, x, true, hx64, fun w L h => ?_, fun w L h => ?_⟩
          · refine (slot_yes b S hK.si hrd w L h).mono ?_
            rintro e w' ⟨x', ao, cap, hx', -, he, h'⟩
            rw [hx] at hx'
            obtain rfl : x = x' := by simpa using hx'
            exact ⟨ao, cap, he, h'⟩
          · refine (rslot_ok c S F G hK w L h).mono ?_
            rintro e w' (⟨-, x', ao, cap, hx', -, he, h'⟩ | ⟨hno, -⟩)
            · rw [hx] at hx'
              obtain rfl : x = x' := by simpa using hx'
              exact ⟨ao, cap, he, h'⟩
            · rw [hrd] at hno; cases hno
        · have hrd' : ready (tickS S) = false := by simpa using hrd
          refine ⟨0, 0, [], false, by simp, fun w L h => ?_, fun w L h => ?_⟩
          · refine (slot_no b S hK.si hrd' w L h).mono ?_
            rintro e w' ⟨he, h'⟩
            exact ⟨none, 0, he, h'.nilRow 5 1⟩
          · refine (rslot_ok c S F G hK w L h).mono ?_
            rintro e w' (⟨hy, -⟩ | ⟨-, he, h'⟩)
            · rw [hrd'] at hy; cases hy
            · exact ⟨none, 0, he, h'.nilRow 5 1⟩
      obtain ⟨k1, s1, x, ok, hx64, PS, PR⟩ := hslot
      have HKS := Lib.hid hK.slot
      have hx9 : (x.length : Int) ≤ 9223372036854775807 := by omega
      clear hK hd1 hk1 hN4 hx64
      go_upto_region 15 with (go_at_call 12; refine (PS _ _ (hb.mv 1)).mono ?_; rintro e w3 ⟨a3, cap3, rfl, h3⟩)
      obtain ⟨q3, hq3⟩ : ∃ q, w3.heap.size = q := ⟨_, rfl⟩
      have h4 := h3.box 39 [.int .i64 k1, .int .u32 s1, .int .u32 0, .slice a3 x.length cap3]
      simp only [hq3] at h4
      try simp only [hq3]
      refine gen_world h4 (fun w4 h4 => ?_)
      clear hq3 h3 hb c0 c1 c2 c3 PS
      have h5 := h4.mv 4
      (try dsimp only [Go.Own.front, Go.Own.arrA, Go.Own.atA, Go.Own.dropA, List.length_cons, List.length_nil, Nat.zero_add, Nat.reduceAdd] at h5)
      go_upto_region 16 with (go_at_call 31; refine (PR _ _ h5).mono ?_; rintro e w6 ⟨a6, cap6, rfl, h6⟩)
      obtain ⟨q6, hq6⟩ : ∃ q, w6.heap.size = q := ⟨_, rfl⟩
      have h7 := h6.box 39 [.int .i64 k1, .int .u32 s1, .int .u32 0, .slice a6 x.length cap6]
      simp only [hq6] at h7
      try simp only [hq6]
      refine gen_world h7 (fun w7 h7 => ?_)
      clear hq6 h6 h4 h5 PR
      have y0 : w7.cell? ⟨q6, 0, none⟩ = some (.int .i64 k1) := h7.cell 0
      have y1 : w7.cell? ⟨q6, 1, none⟩ = some (.int .u32 s1) := h7.cell 1
      have y2 : w7.cell? ⟨q6, 2, none⟩ = some (.int .u32 0) := h7.cell 2
      have y3 : w7.cell? ⟨q6, 3, none⟩ = some (.slice a6 x.length cap6) := h7.cell 3
      have x0 : w7.cell? ⟨q3, 0, none⟩ = some (.int .i64 k1) := (h7.mv 3).cell 0
      have x1 : w7.cell? ⟨q3, 1, none⟩ = some (.int .u32 s1) := (h7.mv 3).cell 1
      have x2 : w7.cell? ⟨q3, 2, none⟩ = some (.int .u32 0) := (h7.mv 3).cell 2
      have x3 : w7.cell? ⟨q3, 3, none⟩ = some (.slice a3 x.length cap3) := (h7.mv 3).cell 3
      have PQ := same_ok k1 s1 0 x a3 a6 x.length cap3 cap6 w7 (h7.mv 4).rd (h7.mv 1).rd _ h7
      go_upto_region 17 with (go_at_call 23; refine PQ.mono ?_; rintro e w8 ⟨rfl, h8⟩)
      clear y0 y1 y2 y3 x0 x1 x2 x3 h7 PQ
      have h9 := h8.arr [4, 3, 5, 2, 0, 1]
      (try dsimp only [Go.Own.front, Go.Own.arrA, Go.Own.atA, Go.Own.dropA, List.length_cons, List.length_nil, Nat.zero_add, Nat.reduceAdd] at h9)
      clear h8
      go_wp2
      go_loopw [18] (fun i wr => ∃ (k : Nat) (zs : List Value), k ≤ x.length ∧ i = .int .i64 k ∧ Hold wr (rowA 5 1 a3 x.length cap3 zs :: cellsA q3 39 [.int .i64 k1, .int .u32 s1, .int .u32 0, .slice a3 x.length cap3] :: snA b (slotS S) :: rfA c (slotS S) F G :: cellsA q6 39 [.int .i64 k1, .int .u32 s1, .int .u32 0, .slice a6 x.length cap6] :: rowA 5 1 a6 x.length cap6 (ub x) :: cellsA qo 34 [.int .i64 2, .slice ax ys.length cx, .int .u32 N, .bool near] :: C :: L)) (fun i _ => x.length - (intOf i).toNat)
      case atStart => exact ⟨0, _, by omega, rfl, h9⟩
      case round =>
        clear h9
        obtain ⟨k, zs, hk, rfl, hr⟩ := hrel
        have hk0 : 0 ≤ (k : Int) := by omega
        have x3 : wr.cell? ⟨q3, 3, none⟩ = some (.slice a3 x.length cap3) := (hr.mv 1).cell 3
        by_cases hlt : k < x.length
        · have hki : (k : Int) < x.length := by omega
          obtain ⟨gb, go, rfl, hc, hff⟩ := hr.at (by omega)
          obtain ⟨z, hz⟩ : ∃ z, zs[k]? = some z := ⟨zs[k]'(by have := hr.bounds.1; omega), List.getElem?_eq_getElem _⟩
          have ck := (hc k (by omega)).trans hz
          have fk := hff (go + k)
          have HS := hr.put k (by omega) (.int .u8 199)
          have HLT := Lib.hid hlt
          clear hc hff hz hlt
          go_wp2
          go_roundw
          case rel => exact ⟨k + 1, _, HLT.out, by go_num, HS⟩
          case measure => have := HLT.out; simp [intOf]; omega
        · obtain rfl : k = x.length := by omega
          clear hlt
          go_wp2
          go_ret
          refine ⟨rfl, slotS S, G, HKS.out, ?_⟩
          have h9 := (hr.arr [0, 1, 4, 5, 6, 2, 3]).drop.drop.drop.drop.drop
          (try dsimp only [Go.Own.front, Go.Own.arrA, Go.Own.atA, Go.Own.dropA, List.length_cons, List.length_nil, Nat.zero_add, Nat.reduceAdd] at h9)
          exact h9
    · have hd2 : (kd == 2) = false := by rw [beq_eq_false_iff_ne]; exact hk2
      by_cases hk3 : kd = 3
      · subst hk3
        clear hk1 hd1 hk2 hd2
        have q1 := hK.si.bn
        have q2 := hK.si.nt
        have q3 := hK.si.tf
        have q4 := hK.si.max
        have WB : IntKind.u32.wrap (S.base : Int) = S.base := IntWalk.u32_in _ (by omega)
        obtain ⟨mm, hmm⟩ : ∃ mm : Nat, IntKind.u32.wrap ((N : Int) + S.base) = mm ∧ mm ≤ 4294967295 := ⟨(IntKind.u32.wrap ((N : Int) + S.base)).toNat, by rw [IntKind.wrap_u32]; omega, by rw [IntKind.wrap_u32]; omega⟩
        obtain ⟨hm1, hm2⟩ := hmm
        have HM2 := Lib.hid (And.intro hm2 hN4)
        obtain ⟨ro, rc, hrf⟩ := rf_open (hb.mv 2)
        obtain ⟨-, -, -, -, -, r5, -, -, -⟩ := rfM hrf
        clear hm2 hN4 hK q1 q2 q3 q4 hrf
        go_upto_if 115 with (fail)
        go_cut [19] (fun nv wc => ∃ m : Nat, nv = .int .u32 m ∧ m ≤ 4294967295 ∧ wc = w1)
        case first =>
          cases near
          · go_wp2
            go_meet
            exact ⟨N, rfl, HM2.out.2, rfl⟩
          · go_wp2
            go_meet
            exact ⟨mm, rfl, HM2.out.1, rfl⟩
        case rest =>
          obtain ⟨m, rfl, hm4, rfl⟩ := hcut
          have PA := fun w L h => ack_ok b S HK.out.si m w L h
          have PR := fun w L h => rack_ok c S F G HK.out m hm4 w L h
          have HKA := Lib.hid (HK.out.ack m)
          clear c0 c1 c2 c3 r5 hm1 HM2 WB hm4
          go_wp2_with (first
            | (go_at_call 13; refine (PA _ _ (hb.mv 1)).mono ?_; rintro e w4 ⟨rfl, h4⟩)
            | (go_at_call 32; refine (PR _ _ (h4.mv 2)).mono ?_; rintro e w5 ⟨rfl, h5⟩))
          go_ret
          refine ⟨rfl, ackS S m, G, HKA.out, ?_⟩
          have h9 := (h5.arr [2, 1, 0]).drop
          (try dsimp only [Go.Own.front, Go.Own.arrA, Go.Own.atA, Go.Own.dropA, List.length_cons, List.length_nil, Nat.zero_add, Nat.reduceAdd] at h9)
          exact h9
      · have hd3 : (kd == 3) = false := by rw [beq_eq_false_iff_ne]; exact hk3
        have hX := hb.arr [1, 2, 0]
        (try dsimp only [Go.Own.front, Go.Own.arrA, Go.Own.atA, Go.Own.dropA, List.length_cons, List.length_nil, Nat.zero_add, Nat.reduceAdd] at hX)
        by_cases hk4 : kd = 4
        · subst hk4
          have PH := heldl_ok b c S F G hK _ _ hX
          clear hN4 hK hk1 hk2 hk3
          go_wp2_with (go_at_call 22; refine PH.mono ?_; rintro e w4 ⟨rfl, h4⟩)
          go_ret
          refine ⟨rfl, S, G, HK.out, ?_⟩
          have h9 := (h4.mv 2).drop
          (try dsimp only [Go.Own.front, Go.Own.arrA, Go.Own.atA, Go.Own.dropA, List.length_cons, List.length_nil, Nat.zero_add, Nat.reduceAdd] at h9)
          exact h9
        · have hd4 : (kd == 4) = false := by rw [beq_eq_false_iff_ne]; exact hk4
          have PH := looks_ok b c S F G hK _ _ hX
          clear hN4 hK hk1 hk2 hk3 hk4
          go_wp2_with (go_at_call 21; refine PH.mono ?_; rintro e w4 ⟨rfl, h4⟩)
          go_ret
          refine ⟨rfl, S, G, HK.out, ?_⟩
          have h9 := (h4.mv 2).drop
          (try dsimp only [Go.Own.front, Go.Own.arrA, Go.Own.atA, Go.Own.dropA, List.length_cons, List.length_nil, Nat.zero_add, Nat.reduceAdd] at h9)
          exact h9

end Go.Proofs.Ytjnjbmkkfkdhcaa
