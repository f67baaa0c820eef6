/- Contracts: Slot. -/
import Derived.Test.YtjnjbmkkfkdhcaaSeH
open Go.RowKit Go.Own
namespace Go.Proofs.Ytjnjbmkkfkdhcaa

def zeroF : List Value := [.int .i64 0, .int .u32 0, .int .u32 0, .slice none 0 0]
theorem i39 : (Try.prog.info? 39).map (·.size) = some 4 := by kernel_rfl

set_option maxHeartbeats 2000000 in
set_option maxRecDepth 20000 in
theorem slot_ok (b : Nat) (S : SS) (hSI : SI S) (w : World) (L : List Asn) (h : Hold w (snA b S :: L)) :
    Calls Try.prog 12 #[.pointer (some ⟨b, 0, none⟩)] w fun e w' =>
      (ready (tickS S) = true ∧ ∃ (x : List UInt8) (ao : Option Addr) (cap : Nat), S.L[(tickS S).next - S.base]? = some x ∧ x.length ≤ 64 ∧ e = .returned (.tuple #[.agg #[.int .i64 2, .int .u32 (tickS S).next, .int .u32 0, .slice ao x.length cap], .bool true]) ∧ Hold w' (rowA 5 1 ao x.length cap (ub x) :: snA b (slotS S) :: L)) ∨
      (ready (tickS S) = false ∧ e = .returned (.tuple #[.agg zeroF.toArray, .bool false]) ∧ Hold w' (snA b (slotS S) :: L)) := by
  obtain ⟨i5, hi, hz0, hz1, hz2⟩ := info_parts info5
  obtain ⟨f, rows, ro, rc, vs, hRg, hm, hl, h1⟩ := sn_open h
  have hb := h1.box 39 zeroF
  have hb1 := hb.arr [1, 0]
  (try dsimp only [Go.Own.front, Go.Own.arrA, Go.Own.atA, Go.Own.dropA, List.length_cons, List.length_nil, Nat.zero_add, Nat.reduceAdd] at hb1)
  obtain ⟨qb, hqb⟩ : ∃ qb, w.heap.size = qb := ⟨_, rfl⟩
  have P := none_h b S hSI _ _ _ _ _ hb1
  have HSI := Lib.hid hSI
  have H0 := Lib.hid (And.intro hRg (And.intro hm hl))
  clear hRg hm hl h h1 hb hSI
  go_enter Try.func12, Try.ntmps12
  go_upto_region 3 with (first
    | (go_at_call 25; refine P.mono ?_; rintro e w1 ⟨rfl, rfl⟩))
  clear P
  refine gen_world hb1 (fun w1 hb1 => ?_)
  simp only [hqb] at hb1 ⊢
  clear hqb
  have hS := hb1.drew
  obtain ⟨g0, g1, g2, g3, g4, g5, g6, g7, g8, g9⟩ := snM hS
  refine wp_region_Z (fun W => W.cell? ⟨b, 6, none⟩ = some (.int .u32 S.next) ∧ W.cell? ⟨b, 5, none⟩ = some (.int .u32 S.base)) [3, 7] [] [0, 1, 2, 4, 5, 6, 8] [0, 1, 2, 3, 4, 5, 6, 7, 8] (by kernel_rfl) (by kernel_rfl) ?_
  (repeat (first | (refine wpZ_st (v := ?_) _ (by rfl) (by rfl) (by rfl) (fun W hW => ?_) (by exact ⟨g6, g5⟩) ?_; (rotate_left; (focus ((try dsimp only at hW); go_simp; (try with_reducible rfl); done))); try simp only [Act.put, List.getElem_toArray, List.getElem_cons_zero, List.getElem_cons_succ, List.setIfInBounds_toArray, List.set_cons_zero, List.set_cons_succ]) | (refine wpZ_pu (v := ?_) _ (by rfl) (by rfl) (by rfl) (by rfl) (fun W => ?_) ?_; (rotate_left; (focus ((try dsimp only at hW); go_simp; (try with_reducible rfl); done))); try simp only [Act.put, List.getElem_toArray, List.getElem_cons_zero, List.getElem_cons_succ, List.setIfInBounds_toArray, List.set_cons_zero, List.set_cons_succ]) | (refine wpZ_no _ (by rfl) (by rfl) (by rfl) (by rfl) ?_; try simp only [Act.put, List.getElem_toArray, List.getElem_cons_zero, List.getElem_cons_succ, List.setIfInBounds_toArray, List.set_cons_zero, List.set_cons_succ]) | (refine wpZ_noS _ (by rfl) (by rfl) (by rfl) (by exact ⟨g6, g5⟩) ?_; try simp only [Act.put, List.getElem_toArray, List.getElem_cons_zero, List.getElem_cons_succ, List.setIfInBounds_toArray, List.set_cons_zero, List.set_cons_succ])))
  (simp only [wpZ])
  go_upto_if 18 with (fail)
  go_cut [35] (fun _ wc => Hold wc (cellsA b 60 ((tickS S).cells (.slice ro S.store rc) f S.L.length) :: cellsA qb 39 zeroF :: rowA 32 1 ro S.store rc (sl rows vs) :: starL (rws rows vs) :: L))
  case first =>
    have htl := HSI.out.tl
    have htm := HSI.out.tm
    by_cases hbn : S.base < S.next
    · have hbi : (S.base : Int) < S.next := by omega
      have W1 : IntKind.i64.wrap ((S.timer : Int) + 1) = (S.timer : Int) + 1 := IntWalk.i64_in _ (by omega)
      have f9 := hS.frozen 9
      have HV := hS.st 9 (.int .i64 ((S.timer : Int) + 1))
      have ht9 : (S.timer : Int) ≤ 9223372036854775806 := by omega
      by_cases ht : S.timer + 1 = S.timeout
      · have ht2 : ((S.timer : Int) + 1 == S.timeout) = true := by rw [beq_iff_eq]; omega
        have e : tickS S = { S with next := S.base, timer := 0 } := by unfold tickS; rw [if_pos hbn, if_pos ht]
        have HE := Lib.hid e
        clear e hbn ht htl htm
        go_upto_region 5 with (fail)
        refine gen_world HV (fun w2 HV => ?_)
        clear g0 g1 g2 g3 g4 g5 g6 g7 g8 g9 hS f9 hb1
        have hT := HV.drew
        have k9 : w2.drew.cell? ⟨b, 9, none⟩ = some (.int .i64 ((S.timer : Int) + 1)) := hT.cell 9
        have k4 : w2.drew.cell? ⟨b, 4, none⟩ = some (.int .i64 S.timeout) := hT.cell 4
        refine wp_region_Z (fun W => W.cell? ⟨b, 9, none⟩ = some (.int .i64 ((S.timer : Int) + 1)) ∧ W.cell? ⟨b, 4, none⟩ = some (.int .i64 S.timeout)) [3, 7] [] [0, 1, 2, 4, 5, 6, 8] [0, 1, 2, 3, 4, 5, 6, 7, 8] (by kernel_rfl) (by kernel_rfl) ?_
        (repeat (first | (refine wpZ_st (v := ?_) _ (by rfl) (by rfl) (by rfl) (fun W hW => ?_) (by exact ⟨k9, k4⟩) ?_; (rotate_left; (focus ((try dsimp only at hW); go_simp; (try with_reducible rfl); done))); try simp only [Act.put, List.getElem_toArray, List.getElem_cons_zero, List.getElem_cons_succ, List.setIfInBounds_toArray, List.set_cons_zero, List.set_cons_succ]) | (refine wpZ_pu (v := ?_) _ (by rfl) (by rfl) (by rfl) (by rfl) (fun W => ?_) ?_; (rotate_left; (focus ((try dsimp only at hW); go_simp; (try with_reducible rfl); done))); try simp only [Act.put, List.getElem_toArray, List.getElem_cons_zero, List.getElem_cons_succ, List.setIfInBounds_toArray, List.set_cons_zero, List.set_cons_succ]) | (refine wpZ_no _ (by rfl) (by rfl) (by rfl) (by rfl) ?_; try simp only [Act.put, List.getElem_toArray, List.getElem_cons_zero, List.getElem_cons_succ, List.setIfInBounds_toArray, List.set_cons_zero, List.set_cons_succ]) | (refine wpZ_noS _ (by rfl) (by rfl) (by rfl) (by exact ⟨k9, k4⟩) ?_; try simp only [Act.put, List.getElem_toArray, List.getElem_cons_zero, List.getElem_cons_succ, List.setIfInBounds_toArray, List.set_cons_zero, List.set_cons_succ])))
        (simp only [wpZ])
        go_upto_region 6 with (fail)
        refine gen_world hT (fun w3 hT => ?_)
        clear k9 k4
        have k5 : w3.cell? ⟨b, 5, none⟩ = some (.int .u32 S.base) := hT.cell 5
        have k6 : w3.cell? ⟨b, 6, none⟩ = some (.int .u32 S.next) := hT.cell 6
        have k9 : w3.cell? ⟨b, 9, none⟩ = some (.int .i64 ((S.timer : Int) + 1)) := hT.cell 9
        have f6 := hT.frozen 6
        have f9 := hT.frozen 9
        have HX := (hT.st 6 (.int .u32 S.base)).st 9 (.int .i64 0)
        go_wp2
        go_meet
        exact HX.as (by rw [HE.out]; rfl)
      · have ht2 : ((S.timer : Int) + 1 == S.timeout) = false := by rw [beq_eq_false_iff_ne]; omega
        have e : tickS S = { S with timer := S.timer + 1 } := by unfold tickS; rw [if_pos hbn, if_neg ht]
        have HE := Lib.hid e
        clear e hbn ht htl htm
        go_upto_region 5 with (fail)
        refine gen_world HV (fun w2 HV => ?_)
        clear g0 g1 g2 g3 g4 g5 g6 g7 g8 g9 hS f9 hb1
        have hT := HV.drew
        have k9 : w2.drew.cell? ⟨b, 9, none⟩ = some (.int .i64 ((S.timer : Int) + 1)) := hT.cell 9
        have k4 : w2.drew.cell? ⟨b, 4, none⟩ = some (.int .i64 S.timeout) := hT.cell 4
        refine wp_region_Z (fun W => W.cell? ⟨b, 9, none⟩ = some (.int .i64 ((S.timer : Int) + 1)) ∧ W.cell? ⟨b, 4, none⟩ = some (.int .i64 S.timeout)) [3, 7] [] [0, 1, 2, 4, 5, 6, 8] [0, 1, 2, 3, 4, 5, 6, 7, 8] (by kernel_rfl) (by kernel_rfl) ?_
        (repeat (first | (refine wpZ_st (v := ?_) _ (by rfl) (by rfl) (by rfl) (fun W hW => ?_) (by exact ⟨k9, k4⟩) ?_; (rotate_left; (focus ((try dsimp only at hW); go_simp; (try with_reducible rfl); done))); try simp only [Act.put, List.getElem_toArray, List.getElem_cons_zero, List.getElem_cons_succ, List.setIfInBounds_toArray, List.set_cons_zero, List.set_cons_succ]) | (refine wpZ_pu (v := ?_) _ (by rfl) (by rfl) (by rfl) (by rfl) (fun W => ?_) ?_; (rotate_left; (focus ((try dsimp only at hW); go_simp; (try with_reducible rfl); done))); try simp only [Act.put, List.getElem_toArray, List.getElem_cons_zero, List.getElem_cons_succ, List.setIfInBounds_toArray, List.set_cons_zero, List.set_cons_succ]) | (refine wpZ_no _ (by rfl) (by rfl) (by rfl) (by rfl) ?_; try simp only [Act.put, List.getElem_toArray, List.getElem_cons_zero, List.getElem_cons_succ, List.setIfInBounds_toArray, List.set_cons_zero, List.set_cons_succ]) | (refine wpZ_noS _ (by rfl) (by rfl) (by rfl) (by exact ⟨k9, k4⟩) ?_; try simp only [Act.put, List.getElem_toArray, List.getElem_cons_zero, List.getElem_cons_succ, List.setIfInBounds_toArray, List.set_cons_zero, List.set_cons_succ])))
        (simp only [wpZ])
        go_wp2
        go_meet
        exact hT.as (by rw [HE.out]; rfl)
    · have hbi : (S.next : Int) ≤ S.base := by omega
      have e : tickS S = S := by unfold tickS; rw [if_neg hbn]
      have HE := Lib.hid e
      clear e hbn htl htm
      go_wp2
      go_meet
      exact hS.as (by rw [HE.out])
  case rest =>
    clear g0 g1 g2 g3 g4 g5 g6 g7 g8 g9 hS hb1
    obtain ⟨e1, e2, e3, e4, e5, e6, e7⟩ := tick_same S
    have HT := HSI.out.tick
    have eS : slotS S = if ready (tickS S) then goS (tickS S) else tickS S := rfl
    generalize hT : tickS S = T at *
    have HTE := Lib.hid hT
    have hw1 := HT.w1
    have hws := HT.ws
    have hs2 := HT.s256
    have hbn := HT.bn
    have hnt := HT.nt
    have htf := HT.tf
    have hfin := HT.fin
    have hmx := HT.max
    have hll := HT.ll
    have hS := hcut.drew
    obtain ⟨g0, g1, g2, g3, g4, g5, g6, g7, g8, g9⟩ := snM hS
    have W1 : IntKind.u32.wrap ((T.next : Int) - T.base) = (T.next : Int) - T.base := IntWalk.u32_in _ (by omega)
    have W2 : IntKind.u32.wrap (T.window : Int) = T.window := IntWalk.u32_in _ (by omega)
    have W3 : IntKind.i64.wrap ((T.next : Int) - T.base) = (T.next : Int) - T.base := IntWalk.i64_in _ (by omega)
    have hbi : (T.base : Int) ≤ T.next := by omega
    have HH := Lib.hid (And.intro HT (And.intro e2 (And.intro e1 e6)))
    have HES := Lib.hid eS
    have HF := Lib.hid (And.intro hfin (And.intro hmx hll))
    clear HSI e1 e2 e3 e4 e5 e6 e7 HT eS hT hfin hmx hll htf hnt hbn hs2 hws hw1
    go_upto_region 7 with (fail)
    by_cases hr1 : T.next < T.fin
    · by_cases hr2 : T.next - T.base < T.window
      · have hre : ready T = true := by unfold ready; exact decide_eq_true ⟨hr1, hr2⟩
        have hd1 : decide (T.fin ≤ T.next) = false := by simp; omega
        have hd2 : decide ((T.window : Int) ≤ (T.next : Int) - T.base) = false := by simp; omega
        have HR := Lib.hid hre
        have HN := Lib.hid hr1
        clear hre hr1 hr2
        refine wp_region_Z (fun W => W.cell? ⟨b, 6, none⟩ = some (.int .u32 T.next) ∧ W.cell? ⟨b, 8, none⟩ = some (.int .u32 T.fin) ∧ W.cell? ⟨b, 5, none⟩ = some (.int .u32 T.base) ∧ W.cell? ⟨b, 3, none⟩ = some (.int .i64 T.window)) [3, 7, 13, 17, 22, 23] [] [0, 1, 2, 4, 5, 6, 8, 9, 10, 11, 12, 14, 15, 16, 18, 19, 20, 21, 24, 25] [0, 1, 2, 3, 4, 5, 6, 7, 8, 9, 10, 11, 12, 13, 14, 15, 16, 17, 18, 19, 20, 21, 22, 23, 24, 25] (by kernel_rfl) (by kernel_rfl) ?_
        (repeat (first | (refine wpZ_st (v := ?_) _ (by rfl) (by rfl) (by rfl) (fun W hW => ?_) (by exact ⟨g6, g8, g5, g3⟩) ?_; (rotate_left; (focus ((try dsimp only at hW); go_simp; (try with_reducible rfl); done))); try simp only [Act.put, List.getElem_toArray, List.getElem_cons_zero, List.getElem_cons_succ, List.setIfInBounds_toArray, List.set_cons_zero, List.set_cons_succ]) | (refine wpZ_pu (v := ?_) _ (by rfl) (by rfl) (by rfl) (by rfl) (fun W => ?_) ?_; (rotate_left; (focus ((try dsimp only at hW); go_simp; (try with_reducible rfl); done))); try simp only [Act.put, List.getElem_toArray, List.getElem_cons_zero, List.getElem_cons_succ, List.setIfInBounds_toArray, List.set_cons_zero, List.set_cons_succ]) | (refine wpZ_no _ (by rfl) (by rfl) (by rfl) (by rfl) ?_; try simp only [Act.put, List.getElem_toArray, List.getElem_cons_zero, List.getElem_cons_succ, List.setIfInBounds_toArray, List.set_cons_zero, List.set_cons_succ]) | (refine wpZ_noS _ (by rfl) (by rfl) (by rfl) (by exact ⟨g6, g8, g5, g3⟩) ?_; try simp only [Act.put, List.getElem_toArray, List.getElem_cons_zero, List.getElem_cons_succ, List.setIfInBounds_toArray, List.set_cons_zero, List.set_cons_succ])))
        (simp only [wpZ])
        go_upto_region 9 with (fail)
        refine gen_world hS (fun w2 hS => ?_)
        clear g0 g1 g2 g3 g4 g5 g6 g7 g8 g9
        obtain ⟨hRg, hm, hl⟩ := H0.out
        obtain ⟨HTI, e2, e1, e6⟩ := HH.out
        have hdl : T.next - T.base < S.L.length := by have h8 := HF.out.1; have h9 := HN.out; rw [e2] at h8; omega
        have hSl := hRg.ll
        obtain ⟨j, hj⟩ : ∃ j, (f + (T.next - T.base)) % S.store = j := ⟨_, rfl⟩
        have hst : S.store ≤ 256 := by rw [← e6]; exact HTI.s256
        have hjm : j < S.store := by rw [← hj]; exact Nat.mod_lt _ (by omega)
        obtain ⟨rb, rp, rfl, xs, v, hxs, -, hrw, G⟩ := row_at hl hm hjm (hS.mv 2)
        have hLx : S.L[T.next - T.base]? = some xs := by rw [← hRg.at_ _ hdl, hm, hj]; exact hxs
        have hx64 : xs.length ≤ 64 := HTI.short xs (by rw [e2]; exact List.mem_of_getElem? hLx)
        have hW := hS.drew
        have hWW := hW.drew
        obtain ⟨gj, -⟩ := G _ _ (hWW.mv 2)
        have PA := at_ok b f S.store rc (T.next - T.base) j rb rp _ hst (by have := hRg.fl; omega) (by omega) hj hjm _ (hWW.cell 0) (hWW.cell 1) gj
        have hdi : ((T.next - T.base : Nat) : Int) = (T.next : Int) - T.base := by omega
        rw [hdi] at PA
        have HRW := Lib.hid hrw
        have HLX := Lib.hid (And.intro hLx hx64)
        clear hRg hm hl HTI e2 e1 e6 hdl hSl hj hst hjm hxs hrw G hLx gj hdi hx64
        have k5 := (snM hW).2.2.2.2.2.1
        have k6 := (snM hW).2.2.2.2.2.2.1
        refine wp_region_Z (fun W => W.cell? ⟨b, 6, none⟩ = some (.int .u32 T.next) ∧ W.cell? ⟨b, 5, none⟩ = some (.int .u32 T.base)) [6, 10, 12] [] [0, 1, 2, 3, 4, 5, 7, 8, 9, 11, 14] [0, 1, 2, 3, 4, 5, 6, 7, 8, 9, 10, 11, 12, 13, 14] (by kernel_rfl) (by kernel_rfl) ?_
        (repeat (first | (refine wpZ_st (v := ?_) _ (by rfl) (by rfl) (by rfl) (fun W hW => ?_) (by exact ⟨k6, k5⟩) ?_; (rotate_left; (focus ((try dsimp only at hW); go_simp; (try with_reducible rfl); done))); try simp only [Act.put, List.getElem_toArray, List.getElem_cons_zero, List.getElem_cons_succ, List.setIfInBounds_toArray, List.set_cons_zero, List.set_cons_succ]) | (refine wpZ_pu (v := ?_) _ (by rfl) (by rfl) (by rfl) (by rfl) (fun W => ?_) ?_; (rotate_left; (focus ((try dsimp only at hW); go_simp; (try with_reducible rfl); done))); try simp only [Act.put, List.getElem_toArray, List.getElem_cons_zero, List.getElem_cons_succ, List.setIfInBounds_toArray, List.set_cons_zero, List.set_cons_succ]) | (refine wpZ_no _ (by rfl) (by rfl) (by rfl) (by rfl) ?_; try simp only [Act.put, List.getElem_toArray, List.getElem_cons_zero, List.getElem_cons_succ, List.setIfInBounds_toArray, List.set_cons_zero, List.set_cons_succ]) | (refine wpZ_noS _ (by rfl) (by rfl) (by rfl) (by exact ⟨k6, k5⟩) ?_; try simp only [Act.put, List.getElem_toArray, List.getElem_cons_zero, List.getElem_cons_succ, List.setIfInBounds_toArray, List.set_cons_zero, List.set_cons_succ])))
        refine wpZ_eff _ (by rfl) (by rfl) (by rfl) (by rfl) (fun K hK => ?_)
        go_simp
        refine PA.mono ?_
        rintro e w3 ⟨rfl, rfl⟩
        dsimp only
        (refine hK _ _ (fun hl => ?_) ?_; (first | (focus (cases hl; done)) | exact ⟨(snM hWW).2.2.2.2.2.2.1, (snM hWW).2.2.2.2.2.1⟩); clear hK K; try simp only [Act.put, List.getElem_toArray, List.getElem_cons_zero, List.getElem_cons_succ, List.setIfInBounds_toArray, List.set_cons_zero, List.set_cons_succ])
        (repeat (first | (refine wpZ_st (v := ?_) _ (by rfl) (by rfl) (by rfl) (fun W hW => ?_) (by exact ⟨(snM hWW).2.2.2.2.2.2.1, (snM hWW).2.2.2.2.2.1⟩) ?_; (rotate_left; (focus ((try dsimp only at hW); go_simp; (try with_reducible rfl); done))); try simp only [Act.put, List.getElem_toArray, List.getElem_cons_zero, List.getElem_cons_succ, List.setIfInBounds_toArray, List.set_cons_zero, List.set_cons_succ]) | (refine wpZ_pu (v := ?_) _ (by rfl) (by rfl) (by rfl) (by rfl) (fun W => ?_) ?_; (rotate_left; (focus ((try dsimp only at hW); go_simp; (try with_reducible rfl); done))); try simp only [Act.put, List.getElem_toArray, List.getElem_cons_zero, List.getElem_cons_succ, List.setIfInBounds_toArray, List.set_cons_zero, List.set_cons_succ]) | (refine wpZ_no _ (by rfl) (by rfl) (by rfl) (by rfl) ?_; try simp only [Act.put, List.getElem_toArray, List.getElem_cons_zero, List.getElem_cons_succ, List.setIfInBounds_toArray, List.set_cons_zero, List.set_cons_succ]) | (refine wpZ_noS _ (by rfl) (by rfl) (by rfl) (by exact ⟨(snM hWW).2.2.2.2.2.2.1, (snM hWW).2.2.2.2.2.1⟩) ?_; try simp only [Act.put, List.getElem_toArray, List.getElem_cons_zero, List.getElem_cons_succ, List.setIfInBounds_toArray, List.set_cons_zero, List.set_cons_succ])))
        (simp only [wpZ])
        clear PA k5 k6
        go_upto_region 10 with (fail)
        refine gen_world hWW (fun w4 hX => ?_)
        clear hW hWW hS
        have hn9 : (xs.length : Int) ≤ 9223372036854775807 := by have := HLX.out.2; omega
        have HU := Lib.hid (ub_one xs)
        have HXL : Hid ((ub xs).length = xs.length) := Lib.hid (by simp)
        go_upto_region 12 with (first
          | ((with_reducible refine wpList_plain (o := ⟨some 88, _, _, _, _, _⟩) rfl (fun K hK => ?_)); refine wp_make_h _ _ 32 (by rfl) 5 i5 (.int .u8 0) 1 1 Try.underlying32 hi hz0 hz1 hz2 .i64 .i64 xs.length xs.length (by rfl) (by rfl) (by omega) (by omega) (by omega) (by have := HLX.out.2; omega) hX (fun a2 w5 h4 => ?_); refine hK _ _ ?_; clear hK K; rw [Int.toNat_natCast] at h4; obtain ⟨S1, r1⟩ := (h4.mv 4).reads (Reads.ofL HRW.out (Reads.row 5 1 v.1 xs.length v.2 (ub xs))); have hzl := h4.bounds.1)
          | ((with_reducible refine wpList_plain (o := ⟨some 91, _, _, _, _, _⟩) rfl (fun K hK => ?_)); refine wp_copy_h _ _ 32 32 (by rfl) 5 Try.underlying32 size5 _ xs.length xs.length _ h4 0 _ xs.length xs.length (by rfl) (.inr (by cases a2 <;> rfl)) (by omega) _ xs.length (ub xs) S1 (by rfl) r1 HU.out (fun w6 h5 => ?_); refine hK _ _ ?_; clear hK K; rw [copied (by omega) HXL.out] at h5; clear h4 r1))
        try simp only [Act.put, List.getElem_toArray, List.getElem_cons_zero, List.getElem_cons_succ, List.setIfInBounds_toArray, List.set_cons_zero, List.set_cons_succ]
        clear hX hzl
        have h6 := (h5.box 39 zeroF).arr [2, 0, 3, 1]
        (try dsimp only [Go.Own.front, Go.Own.arrA, Go.Own.atA, Go.Own.dropA, List.length_cons, List.length_nil, Nat.zero_add, Nat.reduceAdd] at h6)
        obtain ⟨-, -, -, -, -, -, k6, -⟩ := snM (h5.mv 1)
        obtain ⟨qf, hqf⟩ : ∃ qf, w6.heap.size = qf := ⟨_, rfl⟩
        have h7 := h6.mv 1
        (try dsimp only [Go.Own.front, Go.Own.arrA, Go.Own.atA, Go.Own.dropA, List.length_cons, List.length_nil, Nat.zero_add, Nat.reduceAdd] at h7)
        simp only [hqf] at h7
        clear h5 h6
        go_upto_region 13 with (refine wpList_storeAll_h (by rfl) 39 _ _ (by rfl) qf (by rfl) [.int .i64 2, .int .u32 T.next, .int .u32 0, .slice a2 xs.length xs.length] (by rfl) h7 (by rfl) (by rw [i39]; rfl) (by simp [Value.oneCell']) (fun w7 h8 => ?_))
        clear h7 hqf k6
        have hX := h8.mv 1
        (try dsimp only [Go.Own.front, Go.Own.arrA, Go.Own.atA, Go.Own.dropA, List.length_cons, List.length_nil, Nat.zero_add, Nat.reduceAdd] at hX)
        obtain ⟨-, -, -, -, -, -, k6, -⟩ := snM hX
        have f6 := hX.frozen 6
        have hmx9 := HF.out.2.1
        have hn9' := HN.out
        have W4 : IntKind.u32.wrap ((T.next : Int) + 1) = (T.next : Int) + 1 := IntWalk.u32_in _ (by omega)
        have HY := hX.st 6 (.int .u32 ((T.next : Int) + 1))
        clear hmx9 hn9'
        go_upto_region 14 with (fail)
        refine gen_world HY (fun w8 HY => ?_)
        clear k6 f6 h8 hX
        have hZ := HY.drew
        have k6 : w8.drew.cell? ⟨b, 6, none⟩ = some (.int .u32 ((T.next : Int) + 1)) := hZ.cell 6
        have k7 : w8.drew.cell? ⟨b, 7, none⟩ = some (.int .u32 T.top) := hZ.cell 7
        have f7 := hZ.frozen 7
        have HV := hZ.st 7 (.int .u32 (max T.top (T.next + 1) : Nat))
        have hmax : ∀ w, (Builtin.max_ #[22, 22] 22 #[.int .u32 T.top, .int .u32 ((T.next : Int) + 1)]).run Try.prog w = .ok (.int .u32 (max T.top (T.next + 1) : Nat)) w := fun w => by
          rw [Go.run_max_int2]; congr 2; split <;> omega
        refine wp_region_Z (fun W => W.cell? ⟨b, 6, none⟩ = some (.int .u32 ((T.next : Int) + 1)) ∧ W.cell? ⟨b, 7, none⟩ = some (.int .u32 T.top)) [4, 8] [12] [0, 1, 2, 3, 5, 6, 7, 9, 10, 11] [0, 1, 2, 3, 4, 5, 6, 7, 8, 9, 10, 11, 12] (by kernel_rfl) (by kernel_rfl) ?_
        (repeat (first | (refine wpZ_st (v := ?_) _ (by rfl) (by rfl) (by rfl) (fun W hW => ?_) (by exact ⟨k6, k7⟩) ?_; (rotate_left; (focus ((try dsimp only at hW); go_simp; (try with_reducible rfl); done))); try simp only [Act.put, List.getElem_toArray, List.getElem_cons_zero, List.getElem_cons_succ, List.setIfInBounds_toArray, List.set_cons_zero, List.set_cons_succ]) | (refine wpZ_pu (v := ?_) _ (by rfl) (by rfl) (by rfl) (by rfl) (fun W => ?_) ?_; (rotate_left; (focus ((try dsimp only at hW); go_simp; (try with_reducible rfl); done))); try simp only [Act.put, List.getElem_toArray, List.getElem_cons_zero, List.getElem_cons_succ, List.setIfInBounds_toArray, List.set_cons_zero, List.set_cons_succ]) | (refine wpZ_no _ (by rfl) (by rfl) (by rfl) (by rfl) ?_; try simp only [Act.put, List.getElem_toArray, List.getElem_cons_zero, List.getElem_cons_succ, List.setIfInBounds_toArray, List.set_cons_zero, List.set_cons_succ]) | (refine wpZ_noS _ (by rfl) (by rfl) (by rfl) (by exact ⟨k6, k7⟩) ?_; try simp only [Act.put, List.getElem_toArray, List.getElem_cons_zero, List.getElem_cons_succ, List.setIfInBounds_toArray, List.set_cons_zero, List.set_cons_succ])))
        (refine wpZ_eff _ (by rfl) (by rfl) (by rfl) (by rfl) (fun K hK => ?_); go_simp; refine hK _ _ (fun hl => ?_) ?_; (first | (focus (cases hl; done)) | trivial); clear hK K; try simp only [Act.put, List.getElem_toArray, List.getElem_cons_zero, List.getElem_cons_succ, List.setIfInBounds_toArray, List.set_cons_zero, List.set_cons_succ])
        (simp only [wpZ])
        go_upto_region 15 with (fail)
        refine gen_world HV (fun w9 HV => ?_)
        clear k6 k7 f7 hmax HY hZ
        have h10 := HV.arr [1, 2, 0, 3]
        (try dsimp only [Go.Own.front, Go.Own.arrA, Go.Own.atA, Go.Own.dropA, List.length_cons, List.length_nil, Nat.zero_add, Nat.reduceAdd] at h10)
        go_wp2_with (first
          | (refine wpList_loadAll_h (by rfl) 39 _ (by rfl) qf (by rfl) h10 _ Try.underlying39 (by rfl) (by rw [i39]; rfl) ?_)
          | (refine wpList_storeAll_h (by rfl) 39 _ _ (by rfl) qb (by rfl) [.int .i64 2, .int .u32 T.next, .int .u32 0, .slice a2 xs.length xs.length] (by rfl) (h10.mv 1) (by rfl) (by rw [i39]; rfl) (by simp [Value.oneCell']) (fun w11 h11 => ?_)))
        refine bodyPost_ret (v := .tuple #[.agg #[.int .i64 2, .int .u32 T.next, .int .u32 0, .slice a2 xs.length xs.length], .bool true]) (res_cell_tmp (h11.loadVarAll 39 _ Try.underlying39 (by rfl) (by rw [i39]; rfl)) (by rfl) (by rfl) (by rfl)) rfl (.inl ⟨by rw [HTE.out]; exact HR.out, xs, a2, xs.length, ?_⟩)
        obtain ⟨-, e2, e1, e6⟩ := HH.out
        rw [HTE.out, ← e1]
        refine ⟨HLX.out.1, HLX.out.2, rfl, ?_⟩
        have h12 := (h11.drop.drop).arr [1, 0]
        (try dsimp only [Go.Own.front, Go.Own.arrA, Go.Own.atA, Go.Own.dropA, List.length_cons, List.length_nil, Nat.zero_add, Nat.reduceAdd] at h12)
        rw [HES.out, HR.out, if_pos rfl]
        have h13 := h12.mv 1
        (try dsimp only [Go.Own.front, Go.Own.arrA, Go.Own.atA, Go.Own.dropA, List.length_cons, List.length_nil, Nat.zero_add, Nat.reduceAdd] at h13)
        have h14 := h13.arr [0, 2, 3, 1]
        (try dsimp only [Go.Own.front, Go.Own.arrA, Go.Own.atA, Go.Own.dropA, List.length_cons, List.length_nil, Nat.zero_add, Nat.reduceAdd] at h14)
        refine Hold.swap (sn_close (S := goS T) (f := f) (rows := rows) (ro := some ⟨rb, rp, none⟩) (rc := rc) (vs := vs) (by show Ring rows f T.L; rw [e2]; exact H0.out.1) (by show rows.length = T.store; rw [e6]; exact H0.out.2.1) H0.out.2.2 ?_)
        show Hold _ (cellsA b 60 ((goS T).cells (.slice (some ⟨rb, rp, none⟩) T.store rc) f T.L.length) :: rowA 32 1 (some ⟨rb, rp, none⟩) T.store rc (sl rows vs) :: _)
        rw [e2, e6]
        exact h14
      · have hre : ready T = false := by unfold ready; exact decide_eq_false (by omega)
        have hd1 : decide (T.fin ≤ T.next) = false := by simp; omega
        have hd2 : decide ((T.window : Int) ≤ (T.next : Int) - T.base) = true := by simp; omega
        have HR := Lib.hid hre
        clear hre hr1 hr2
        refine wp_region_Z (fun W => W.cell? ⟨b, 6, none⟩ = some (.int .u32 T.next) ∧ W.cell? ⟨b, 8, none⟩ = some (.int .u32 T.fin) ∧ W.cell? ⟨b, 5, none⟩ = some (.int .u32 T.base) ∧ W.cell? ⟨b, 3, none⟩ = some (.int .i64 T.window)) [3, 7, 13, 17, 22, 23] [] [0, 1, 2, 4, 5, 6, 8, 9, 10, 11, 12, 14, 15, 16, 18, 19, 20, 21, 24, 25] [0, 1, 2, 3, 4, 5, 6, 7, 8, 9, 10, 11, 12, 13, 14, 15, 16, 17, 18, 19, 20, 21, 22, 23, 24, 25] (by kernel_rfl) (by kernel_rfl) ?_
        (repeat (first | (refine wpZ_st (v := ?_) _ (by rfl) (by rfl) (by rfl) (fun W hW => ?_) (by exact ⟨g6, g8, g5, g3⟩) ?_; (rotate_left; (focus ((try dsimp only at hW); go_simp; (try with_reducible rfl); done))); try simp only [Act.put, List.getElem_toArray, List.getElem_cons_zero, List.getElem_cons_succ, List.setIfInBounds_toArray, List.set_cons_zero, List.set_cons_succ]) | (refine wpZ_pu (v := ?_) _ (by rfl) (by rfl) (by rfl) (by rfl) (fun W => ?_) ?_; (rotate_left; (focus ((try dsimp only at hW); go_simp; (try with_reducible rfl); done))); try simp only [Act.put, List.getElem_toArray, List.getElem_cons_zero, List.getElem_cons_succ, List.setIfInBounds_toArray, List.set_cons_zero, List.set_cons_succ]) | (refine wpZ_no _ (by rfl) (by rfl) (by rfl) (by rfl) ?_; try simp only [Act.put, List.getElem_toArray, List.getElem_cons_zero, List.getElem_cons_succ, List.setIfInBounds_toArray, List.set_cons_zero, List.set_cons_succ]) | (refine wpZ_noS _ (by rfl) (by rfl) (by rfl) (by exact ⟨g6, g8, g5, g3⟩) ?_; try simp only [Act.put, List.getElem_toArray, List.getElem_cons_zero, List.getElem_cons_succ, List.setIfInBounds_toArray, List.set_cons_zero, List.set_cons_succ])))
        (simp only [wpZ])
        have h3 := hS.mv 1
        (try dsimp only [Go.Own.front, Go.Own.arrA, Go.Own.atA, Go.Own.dropA, List.length_cons, List.length_nil, Nat.zero_add, Nat.reduceAdd] at h3)
        go_wp2_with (refine wpList_storeAll_h (by rfl) 39 _ _ (by rfl) qb (by rfl) zeroF (by rfl) h3 (by rfl) (by rw [i39]; rfl) (by simp [zeroF, Value.oneCell']) (fun w4 h4 => ?_))
        refine bodyPost_ret (v := .tuple #[.agg zeroF.toArray, .bool false]) (res_cell_tmp (h4.loadVarAll 39 _ Try.underlying39 (by rfl) (by rw [i39]; rfl)) (by rfl) (by rfl) (by rfl)) rfl (.inr ⟨by rw [HTE.out]; exact HR.out, rfl, ?_⟩)
        obtain ⟨-, e2, e1, e6⟩ := HH.out
        rw [HES.out, HR.out]
        refine sn_close (S := T) (f := f) (rows := rows) (ro := ro) (rc := rc) (vs := vs) (by rw [e2]; exact H0.out.1) (by rw [e6]; exact H0.out.2.1) H0.out.2.2 ?_
        rw [e2, e6]
        exact h4.drop
    · have hre : ready T = false := by unfold ready; exact decide_eq_false (by omega)
      have hd1 : decide (T.fin ≤ T.next) = true := by simp; omega
      have HR := Lib.hid hre
      clear hre hr1
      · skip
        refine wp_region_Z (fun W => W.cell? ⟨b, 6, none⟩ = some (.int .u32 T.next) ∧ W.cell? ⟨b, 8, none⟩ = some (.int .u32 T.fin) ∧ W.cell? ⟨b, 5, none⟩ = some (.int .u32 T.base) ∧ W.cell? ⟨b, 3, none⟩ = some (.int .i64 T.window)) [3, 7, 13, 17, 22, 23] [] [0, 1, 2, 4, 5, 6, 8, 9, 10, 11, 12, 14, 15, 16, 18, 19, 20, 21, 24, 25] [0, 1, 2, 3, 4, 5, 6, 7, 8, 9, 10, 11, 12, 13, 14, 15, 16, 17, 18, 19, 20, 21, 22, 23, 24, 25] (by kernel_rfl) (by kernel_rfl) ?_
        (repeat (first | (refine wpZ_st (v := ?_) _ (by rfl) (by rfl) (by rfl) (fun W hW => ?_) (by exact ⟨g6, g8, g5, g3⟩) ?_; (rotate_left; (focus ((try dsimp only at hW); go_simp; (try with_reducible rfl); done))); try simp only [Act.put, List.getElem_toArray, List.getElem_cons_zero, List.getElem_cons_succ, List.setIfInBounds_toArray, List.set_cons_zero, List.set_cons_succ]) | (refine wpZ_pu (v := ?_) _ (by rfl) (by rfl) (by rfl) (by rfl) (fun W => ?_) ?_; (rotate_left; (focus ((try dsimp only at hW); go_simp; (try with_reducible rfl); done))); try simp only [Act.put, List.getElem_toArray, List.getElem_cons_zero, List.getElem_cons_succ, List.setIfInBounds_toArray, List.set_cons_zero, List.set_cons_succ]) | (refine wpZ_no _ (by rfl) (by rfl) (by rfl) (by rfl) ?_; try simp only [Act.put, List.getElem_toArray, List.getElem_cons_zero, List.getElem_cons_succ, List.setIfInBounds_toArray, List.set_cons_zero, List.set_cons_succ]) | (refine wpZ_noS _ (by rfl) (by rfl) (by rfl) (by exact ⟨g6, g8, g5, g3⟩) ?_; try simp only [Act.put, List.getElem_toArray, List.getElem_cons_zero, List.getElem_cons_succ, List.setIfInBounds_toArray, List.set_cons_zero, List.set_cons_succ])))
        (simp only [wpZ])
        have h3 := hS.mv 1
        (try dsimp only [Go.Own.front, Go.Own.arrA, Go.Own.atA, Go.Own.dropA, List.length_cons, List.length_nil, Nat.zero_add, Nat.reduceAdd] at h3)
        go_wp2_with (refine wpList_storeAll_h (by rfl) 39 _ _ (by rfl) qb (by rfl) zeroF (by rfl) h3 (by rfl) (by rw [i39]; rfl) (by simp [zeroF, Value.oneCell']) (fun w4 h4 => ?_))
        refine bodyPost_ret (v := .tuple #[.agg zeroF.toArray, .bool false]) (res_cell_tmp (h4.loadVarAll 39 _ Try.underlying39 (by rfl) (by rw [i39]; rfl)) (by rfl) (by rfl) (by rfl)) rfl (.inr ⟨by rw [HTE.out]; exact HR.out, rfl, ?_⟩)
        obtain ⟨-, e2, e1, e6⟩ := HH.out
        rw [HES.out, HR.out]
        refine sn_close (S := T) (f := f) (rows := rows) (ro := ro) (rc := rc) (vs := vs) (by rw [e2]; exact H0.out.1) (by rw [e6]; exact H0.out.2.1) H0.out.2.2 ?_
        rw [e2, e6]
        exact h4.drop

end Go.Proofs.Ytjnjbmkkfkdhcaa
