/- Contracts: take. -/
import Derived.Test.YtahhbbcgfhmmgaaArE
open Go.RowKit Go.Own
namespace Go.Proofs.Ytahhbbcgfhmmgaa

def PL.up (p : PL) : PL := { p with held := true, taken := true }
theorem take_old {A : AR} {p : PL} {fs : List Nat} {id : Nat} (h : A.free = fs ++ [id]) : takeA A p = (id, { A with all := A.all.set id p.up, free := fs, taken := A.taken + 1 }) := by
  simp [takeA, h, PL.up]
theorem take_new {A : AR} {p : PL} (h : A.free = []) : takeA A p = (A.all.length, { A with all := A.all ++ [p.up], taken := A.taken + 1 }) := by
  simp [takeA, h, PL.up]

theorem info64 : (Try.prog.info? 64).map (fun i => (i.zero, i.size, i.bytes)) = some (some (.agg PL.zero.cells.toArray), 8, 56) := by kernel_rfl
theorem info81 : (Try.prog.info? 81).map (fun i => (i.zero, i.size, i.bytes)) = some (some (.agg PL.zero.rcells.toArray), 8, 56) := by kernel_rfl
theorem i64s : (Try.prog.info? 64).map (·.size) = some 8 := by kernel_rfl
theorem exec_load64 {ev : Operand → Value} {o : Oper} {x : Operand} (ho : o.op = .load 64 x) {b : Nat} (hx : ev x = .pointer (some ⟨b, 0, none⟩)) {p : PL} {W : World} (h : W.rangeAt b 0 p.cells) : (execOp ev o).run Try.prog W = .ok (.value (.agg p.cells.toArray)) W := by
  have := run_loadAt_mid (P := Try.prog) W b 0 64 p.cells _ h Try.underlying64 rfl (by rw [i64s]; rfl)
  unfold execOp
  simp only [ho, hx, Sem.run_bind, this, Result.andThen_ok, Sem.run_pure]

set_option maxHeartbeats 4000000 in
set_option maxRecDepth 20000 in
theorem take_ok (b : Nat) (A : AR) (way : Nat → Nat) (hI : AI A way) (ht : A.taken < A.cap) (p : PL) (w : World) (L : List Asn) (h : Hold w (arA b A :: L)) :
    Calls Try.prog 25 #[.pointer (some ⟨b, 0, none⟩), .agg p.cells.toArray] w fun e w' => e = .returned (.tuple #[.int .i64 (takeA A p).1, .int .i64 0]) ∧ Hold w' (arA b (takeA A p).2 :: L) := by
  obtain ⟨i64v, hi, hz0, hz1, hz2⟩ := info_parts info64
  obtain ⟨ao, ac, fo, fc, h1⟩ := ar_open h
  have hb := h1.box 64 p.cells
  obtain ⟨q, hq⟩ : ∃ q, w.heap.size = q := ⟨_, rfl⟩
  simp only [hq] at hb
  have hne : ((A.taken : Int) == A.cap) = false := by rw [beq_eq_false_iff_ne]; omega
  have hc2 := hI.cap2
  have hc9 : (A.taken : Int) ≤ 65536 := by omega
  have HI := Lib.hid hI
  have HT := Lib.hid ht
  clear h h1 hI ht hc2
  go_enter Try.func25, Try.ntmps25
  go_upto_region 1 with (fail)
  refine gen_world hb (fun w1 hb => ?_)
  try simp only [hq]
  clear hq
  have hS := (hb.mv 1).drew
  (try dsimp only [Go.Own.front, Go.Own.arrA, Go.Own.atA, Go.Own.dropA, List.length_cons, List.length_nil, Nat.zero_add, Nat.reduceAdd] at hS)
  have g0 : w1.drew.cell? ⟨b, 0, none⟩ = some (.int .i64 A.cap) := hS.cell 0
  have g3 : w1.drew.cell? ⟨b, 3, none⟩ = some (.int .i64 A.taken) := hS.cell 3
  refine wp_region_Z (fun W => W.cell? ⟨b, 0, none⟩ = some (.int .i64 A.cap) ∧ W.cell? ⟨b, 3, none⟩ = some (.int .i64 A.taken)) [3, 7] [] [0, 1, 2, 4, 5, 6, 8] [0, 1, 2, 3, 4, 5, 6, 7, 8] (by kernel_rfl) (by kernel_rfl) ?_
  (repeat (first | (refine wpZ_st (v := ?_) _ (by rfl) (by rfl) (by rfl) (fun W hW => ?_) (by exact ⟨g0, g3⟩) ?_; (rotate_left; (focus ((try dsimp only at hW); go_simp; (try with_reducible rfl); done))); try simp only [Act.put, List.getElem_toArray, List.getElem_cons_zero, List.getElem_cons_succ, List.setIfInBounds_toArray, List.set_cons_zero, List.set_cons_succ]) | (refine wpZ_pu (v := ?_) _ (by rfl) (by rfl) (by rfl) (by rfl) (fun W => ?_) ?_; (rotate_left; (focus ((try dsimp only at hW); go_simp; (try with_reducible rfl); done))); try simp only [Act.put, List.getElem_toArray, List.getElem_cons_zero, List.getElem_cons_succ, List.setIfInBounds_toArray, List.set_cons_zero, List.set_cons_succ]) | (refine wpZ_no _ (by rfl) (by rfl) (by rfl) (by rfl) ?_; try simp only [Act.put, List.getElem_toArray, List.getElem_cons_zero, List.getElem_cons_succ, List.setIfInBounds_toArray, List.set_cons_zero, List.set_cons_succ]) | (refine wpZ_noS _ (by rfl) (by rfl) (by rfl) (by exact ⟨g0, g3⟩) ?_; try simp only [Act.put, List.getElem_toArray, List.getElem_cons_zero, List.getElem_cons_succ, List.setIfInBounds_toArray, List.set_cons_zero, List.set_cons_succ])))
  (simp only [wpZ])
  have hQ := hb.drew
  have k6 : w1.cell? ⟨q, 6, none⟩ = some (.bool p.held) := hb.cell 6
  have k7 : w1.cell? ⟨q, 7, none⟩ = some (.bool p.taken) := hb.cell 7
  have f6 := hb.frozen 6
  have f7 := hb.frozen 7
  have h2 := ((hQ.st 6 (.bool true)).st 7 (.bool true)).mv 1
  (try dsimp only [Go.Own.front, Go.Own.arrA, Go.Own.atA, Go.Own.dropA, List.length_cons, List.length_nil, Nat.zero_add, Nat.reduceAdd] at h2)
  go_upto_region 4 with (fail)
  refine gen_world h2 (fun w2 h2 => ?_)
  clear hb hS hQ k6 k7 f6 f7 g0 g3
  have W1 : IntKind.i64.wrap ((A.taken : Int) + 1) = (A.taken : Int) + 1 := IntWalk.i64_in _ (by omega)
  have g3 : w2.cell? ⟨b, 3, none⟩ = some (.int .i64 A.taken) := h2.cell 3
  have f3 := h2.frozen 3
  have h3 := (h2.st 3 (.int .i64 ((A.taken : Int) + 1))).arr [0, 2, 3, 1]
  (try dsimp only [Go.Own.front, Go.Own.arrA, Go.Own.atA, Go.Own.dropA, List.length_cons, List.length_nil, Nat.zero_add, Nat.reduceAdd] at h3)
  go_upto_region 5 with (fail)
  refine gen_world h3 (fun w3 h3 => ?_)
  clear h2 g3 f3
  have h3 : Hold w3 (cellsA b 56 [.int .i64 A.cap, .slice ao A.all.length ac, .slice fo A.free.length fc, .int .i64 ((A.taken : Int) + 1)] :: rowA 64 8 ao A.all.length ac (flat PL.cells A.all) :: rowA 3 1 fo A.free.length fc (nums A.free) :: cellsA q 64 p.up.cells :: L) := h3
  have g2 : w3.cell? ⟨b, 2, none⟩ = some (.slice fo A.free.length fc) := h3.cell 2
  rcases List.eq_nil_or_concat A.free with hf | ⟨fs, id, hf⟩
  · have HTK := Lib.hid (take_new (p := p) hf)
    rw [hf] at h3 g2
    have hc2 := HI.out.cap2
    have hcnt := HI.out.count
    rw [hf] at hcnt
    have hct : A.taken = A.all.length := by simpa using hcnt
    have htc := HT.out
    have hnil : nums ([] : List Nat) = [] := rfl
    have hnl : ([] : List Nat).length = 0 := rfl
    rw [hnil, hnl] at h3
    rw [hnl] at g2
    have h4 := h3.drew
    have h4 := h3.arr [0, 1, 2, 3]
    (try dsimp only [Go.Own.front, Go.Own.arrA, Go.Own.atA, Go.Own.dropA, List.length_cons, List.length_nil, Nat.zero_add, Nat.reduceAdd] at h4)
    have hA9 : A.all.length < A.cap := by omega
    have HF := Lib.hid hf
    have HCT := Lib.hid hct
    clear hcnt hf hnil hnl hct
    generalize hm : A.all.length = m at *
    have hac := (h4.mv 1).bounds.2.1
    have hac9 := (h4.mv 1).bounds.2.2
    have hS := h4.drew
    have g1 : w3.drew.cell? ⟨b, 1, none⟩ = some (.slice ao m ac) := hS.cell 1
    have g0 : w3.drew.cell? ⟨b, 0, none⟩ = some (.int .i64 A.cap) := hS.cell 0
    go_upto_region 11 with (fail)
    clear g2
    have hml : m ≤ 65536 := by omega
    refine wp_region_Z (fun W => W.cell? ⟨b, 1, none⟩ = some (.slice ao m ac)) [3, 8] [] [0, 1, 2, 4, 5, 6, 7, 9, 10] [0, 1, 2, 3, 4, 5, 6, 7, 8, 9, 10] (by kernel_rfl) (by kernel_rfl) ?_
    (repeat (first | (refine wpZ_st (v := ?_) _ (by rfl) (by rfl) (by rfl) (fun W hW => ?_) (by exact g1) ?_; (rotate_left; (focus ((try dsimp only at hW); go_simp; (try with_reducible rfl); done))); try simp only [Act.put, List.getElem_toArray, List.getElem_cons_zero, List.getElem_cons_succ, List.setIfInBounds_toArray, List.set_cons_zero, List.set_cons_succ]) | (refine wpZ_pu (v := ?_) _ (by rfl) (by rfl) (by rfl) (by rfl) (fun W => ?_) ?_; (rotate_left; (focus ((try dsimp only at hW); go_simp; (try with_reducible rfl); done))); try simp only [Act.put, List.getElem_toArray, List.getElem_cons_zero, List.getElem_cons_succ, List.setIfInBounds_toArray, List.set_cons_zero, List.set_cons_succ]) | (refine wpZ_no _ (by rfl) (by rfl) (by rfl) (by rfl) ?_; try simp only [Act.put, List.getElem_toArray, List.getElem_cons_zero, List.getElem_cons_succ, List.setIfInBounds_toArray, List.set_cons_zero, List.set_cons_succ]) | (refine wpZ_noS _ (by rfl) (by rfl) (by rfl) (by exact g1) ?_; try simp only [Act.put, List.getElem_toArray, List.getElem_cons_zero, List.getElem_cons_succ, List.setIfInBounds_toArray, List.set_cons_zero, List.set_cons_succ])))
    (simp only [wpZ])
    go_upto_if 72 with (fail)
    refine gen_world hS (fun w4 hS => ?_)
    clear g1 g0 h4 h3
    go_cut [8] (fun _ wc => ∃ (ao' : Option Addr) (ac' : Nat), Hold wc (cellsA b 56 [.int .i64 A.cap, .slice ao' m ac', .slice fo 0 fc, .int .i64 ((A.taken : Int) + 1)] :: rowA 64 8 ao' m ac' (flat PL.cells A.all) :: rowA 3 1 fo 0 fc [] :: cellsA q 64 p.up.cells :: L))
    case first =>
      by_cases hma : m = ac
      · subst hma
        have hmb : ((m : Int) == m) = true := by simp
        have hS2 := hS.drew
        have g1 : w4.drew.cell? ⟨b, 1, none⟩ = some (.slice ao m m) := hS2.cell 1
        have g0 : w4.drew.cell? ⟨b, 0, none⟩ = some (.int .i64 A.cap) := hS2.cell 0
        obtain ⟨M, hM⟩ : ∃ M : Nat, (if (2 * (m : Int) + 8) < (A.cap : Int) then 2 * (m : Int) + 8 else (A.cap : Int)) = M ∧ m ≤ M ∧ M ≤ 65536 := by
          by_cases hlt : (2 * (m : Int) + 8) < (A.cap : Int)
          · exact ⟨2 * m + 8, by rw [if_pos hlt]; omega, by omega, by omega⟩
          · exact ⟨A.cap, by rw [if_neg hlt], by omega, by omega⟩
        obtain ⟨hM1, hM2, hM3⟩ := hM
        have W2 : IntKind.i64.wrap (2 * (m : Int)) = 2 * (m : Int) := IntWalk.i64_in _ (by omega)
        have W3 : IntKind.i64.wrap (2 * (m : Int) + 8) = 2 * (m : Int) + 8 := IntWalk.i64_in _ (by omega)
        have hm9 : (m : Int) ≤ 65536 := by omega
        go_upto_region 12 with (fail)
        refine wp_region_Z (fun W => W.cell? ⟨b, 1, none⟩ = some (.slice ao m m) ∧ W.cell? ⟨b, 0, none⟩ = some (.int .i64 A.cap)) [3, 8, 12] [] [0, 1, 2, 4, 5, 6, 7, 9, 10, 11, 13, 14, 15, 16, 18] [0, 1, 2, 3, 4, 5, 6, 7, 8, 9, 10, 11, 12, 13, 14, 15, 16, 17, 18] (by kernel_rfl) (by kernel_rfl) ?_
        (repeat (first | (refine wpZ_st (v := ?_) _ (by rfl) (by rfl) (by rfl) (fun W hW => ?_) (by exact ⟨g1, g0⟩) ?_; (rotate_left; (focus ((try dsimp only at hW); go_simp; (try with_reducible rfl); done))); try simp only [Act.put, List.getElem_toArray, List.getElem_cons_zero, List.getElem_cons_succ, List.setIfInBounds_toArray, List.set_cons_zero, List.set_cons_succ]) | (refine wpZ_pu (v := ?_) _ (by rfl) (by rfl) (by rfl) (by rfl) (fun W => ?_) ?_; (rotate_left; (focus ((try dsimp only at hW); go_simp; (try with_reducible rfl); done))); try simp only [Act.put, List.getElem_toArray, List.getElem_cons_zero, List.getElem_cons_succ, List.setIfInBounds_toArray, List.set_cons_zero, List.set_cons_succ]) | (refine wpZ_no _ (by rfl) (by rfl) (by rfl) (by rfl) ?_; try simp only [Act.put, List.getElem_toArray, List.getElem_cons_zero, List.getElem_cons_succ, List.setIfInBounds_toArray, List.set_cons_zero, List.set_cons_succ]) | (refine wpZ_noS _ (by rfl) (by rfl) (by rfl) (by exact ⟨g1, g0⟩) ?_; try simp only [Act.put, List.getElem_toArray, List.getElem_cons_zero, List.getElem_cons_succ, List.setIfInBounds_toArray, List.set_cons_zero, List.set_cons_succ])))
        refine wpZ_eff _ (by rfl) (by rfl) (by rfl) (by rfl) (fun K hK => ?_)
        refine wp_make_h _ _ 54 (by rfl) 64 i64v (.agg PL.zero.cells.toArray) 8 56 Try.underlying54 hi hz0 hz1 hz2 .i64 .i64 m M (by rfl) (by rfl) (by omega) (by omega) (by omega) (by omega) hS2 (fun a2 w5 h5 => ?_)
        rw [Int.toNat_natCast, Int.toNat_natCast] at h5
        (refine hK _ _ (fun hl => ?_) ?_; (first | (focus (cases hl; done)) | exact ⟨(h5.mv 1).cell 1, (h5.mv 1).cell 0⟩); clear hK K; try simp only [Act.put, List.getElem_toArray, List.getElem_cons_zero, List.getElem_cons_succ, List.setIfInBounds_toArray, List.set_cons_zero, List.set_cons_succ])
        (repeat (first | (refine wpZ_st (v := ?_) _ (by rfl) (by rfl) (by rfl) (fun W hW => ?_) (by exact ⟨(h5.mv 1).cell 1, (h5.mv 1).cell 0⟩) ?_; (rotate_left; (focus ((try dsimp only at hW); go_simp; (try with_reducible rfl); done))); try simp only [Act.put, List.getElem_toArray, List.getElem_cons_zero, List.getElem_cons_succ, List.setIfInBounds_toArray, List.set_cons_zero, List.set_cons_succ]) | (refine wpZ_pu (v := ?_) _ (by rfl) (by rfl) (by rfl) (by rfl) (fun W => ?_) ?_; (rotate_left; (focus ((try dsimp only at hW); go_simp; (try with_reducible rfl); done))); try simp only [Act.put, List.getElem_toArray, List.getElem_cons_zero, List.getElem_cons_succ, List.setIfInBounds_toArray, List.set_cons_zero, List.set_cons_succ]) | (refine wpZ_no _ (by rfl) (by rfl) (by rfl) (by rfl) ?_; try simp only [Act.put, List.getElem_toArray, List.getElem_cons_zero, List.getElem_cons_succ, List.setIfInBounds_toArray, List.set_cons_zero, List.set_cons_succ]) | (refine wpZ_noS _ (by rfl) (by rfl) (by rfl) (by exact ⟨(h5.mv 1).cell 1, (h5.mv 1).cell 0⟩) ?_; try simp only [Act.put, List.getElem_toArray, List.getElem_cons_zero, List.getElem_cons_succ, List.setIfInBounds_toArray, List.set_cons_zero, List.set_cons_succ])))
        (simp only [wpZ])
        clear g1 g0 hM1 W2 W3
        go_upto_region 13 with (fail)
        have k1 : w5.cell? ⟨b, 1, none⟩ = some (.slice ao m m) := (h5.mv 1).cell 1
        obtain ⟨S1, r1⟩ := (h5.mv 2).rd
        have HFO := Lib.hid (flat_one PL.cells pl_one A.all)
        have h5' := h5.mv 0
        go_wp2_with ((with_reducible refine wpList_plain (o := ⟨some 96, _, _, _, _, _⟩) rfl (fun K hK => ?_)); refine wp_copy_all_h _ _ 54 54 (by rfl) 64 8 Try.underlying54 i64s a2 m M _ h5' (by rfl) _ (flat PL.cells A.all) S1 (by rfl) r1 HFO.out (by omega) (fun w6 h6 => ?_); refine hK _ _ ?_; clear hK K; have k2 : w6.cell? ⟨b, 1, none⟩ = some (.slice ao m m) := (h6.mv 1).cell 1; have f2 := (h6.mv 1).frozen 1)
        go_meet
        have h7 := (((h6.mv 1).st 1 (.slice a2 m M)).mv 2).drop
        (try dsimp only [Go.Own.front, Go.Own.arrA, Go.Own.atA, Go.Own.dropA, List.length_cons, List.length_nil, Nat.zero_add, Nat.reduceAdd] at h7)
        exact ⟨a2, M, h7⟩
      · have hmb : ((m : Int) == ac) = false := by rw [beq_eq_false_iff_ne]; omega
        go_wp2
        go_meet
        exact ⟨ao, ac, hS⟩
    case rest =>
      obtain ⟨a2, M, h5⟩ := hcut
      clear hS
      go_upto_region 15 with (fail)
      have h6 := h5.drew
      have g1 : wc.drew.cell? ⟨b, 1, none⟩ = some (.slice a2 m M) := h6.cell 1
      have hR : wc.drew.rangeAt q 0 p.up.cells := (h6.mv 3).range 0 p.up.cells (by simp)
      have h7 := h6.mv 1
      (try dsimp only [Go.Own.front, Go.Own.arrA, Go.Own.atA, Go.Own.dropA, List.length_cons, List.length_nil, Nat.zero_add, Nat.reduceAdd] at h7)
      have hj := h7.junk (.cells #[.int .u32 p.st, .int .i64 p.depth, .int .i64 p.metric, .int .i64 p.parent, .int .u8 p.bit, .int .i64 p.kids, .bool true, .bool true] 64)
      have g1' : (wc.drew.alloc (.cells #[.int .u32 p.st, .int .i64 p.depth, .int .i64 p.metric, .int .i64 p.parent, .int .u8 p.bit, .int .i64 p.kids, .bool true, .bool true] 64)).cell? ⟨b, 1, none⟩ = some (.slice a2 m M) := (hj.mv 1).cell 1
      have hR' : (wc.drew.alloc (.cells #[.int .u32 p.st, .int .i64 p.depth, .int .i64 p.metric, .int .i64 p.parent, .int .u8 p.bit, .int .i64 p.kids, .bool true, .bool true] 64)).rangeAt q 0 p.up.cells := (hj.mv 3).range 0 p.up.cells (by simp)
      have HP : Hid (∀ u ∈ ([.int .u32 p.st, .int .i64 p.depth, .int .i64 p.metric, .int .i64 p.parent, .int .u8 p.bit, .int .i64 p.kids, .bool true, .bool true] : List Value), u.oneCell' = true) := Lib.hid (pl_one p.up)
      refine wp_region_Z (fun W => W.cell? ⟨b, 1, none⟩ = some (.slice a2 m M) ∧ W.rangeAt q 0 p.up.cells) [4, 5] [10] [0, 1, 2, 3, 8, 9] [0, 1, 2, 3, 4, 5, 6, 7, 8, 9, 10] (by kernel_rfl) (by kernel_rfl) ?_
      (repeat (first | (refine wpZ_st (v := ?_) _ (by rfl) (by rfl) (by rfl) (fun W hW => ?_) (by exact ⟨g1, hR⟩) ?_; (rotate_left; (focus ((try dsimp only at hW); go_simp; (try with_reducible rfl); done))); try simp only [Act.put, List.getElem_toArray, List.getElem_cons_zero, List.getElem_cons_succ, List.setIfInBounds_toArray, List.set_cons_zero, List.set_cons_succ]) | (refine wpZ_pu (v := ?_) _ (by rfl) (by rfl) (by rfl) (by rfl) (fun W => ?_) ?_; (rotate_left; (focus ((try dsimp only at hW); go_simp; (try with_reducible rfl); done))); try simp only [Act.put, List.getElem_toArray, List.getElem_cons_zero, List.getElem_cons_succ, List.setIfInBounds_toArray, List.set_cons_zero, List.set_cons_succ]) | (refine wpZ_no _ (by rfl) (by rfl) (by rfl) (by rfl) ?_; try simp only [Act.put, List.getElem_toArray, List.getElem_cons_zero, List.getElem_cons_succ, List.setIfInBounds_toArray, List.set_cons_zero, List.set_cons_succ]) | (refine wpZ_noS _ (by rfl) (by rfl) (by rfl) (by exact ⟨g1, hR⟩) ?_; try simp only [Act.put, List.getElem_toArray, List.getElem_cons_zero, List.getElem_cons_succ, List.setIfInBounds_toArray, List.set_cons_zero, List.set_cons_succ])))
      refine wpZ_st (v := .agg #[.int .u32 p.st, .int .i64 p.depth, .int .i64 p.metric, .int .i64 p.parent, .int .u8 p.bit, .int .i64 p.kids, .bool true, .bool true]) _ (by rfl) (by rfl) (by rfl) (fun W hW => exec_load64 (p := p.up) (by rfl) (by rfl) hW.2) (by exact ⟨g1, hR⟩) ?_
      try simp only [Act.put, List.getElem_toArray, List.getElem_cons_zero, List.getElem_cons_succ, List.setIfInBounds_toArray, List.set_cons_zero, List.set_cons_succ]
      (refine wpZ_eff _ (by rfl) (by rfl) (by rfl) (by rfl) (fun K hK => ?_); go_simp; refine hK _ _ (fun hl => ?_) ?_; (first | (focus (cases hl; done)) | exact ⟨g1', hR'⟩); clear hK K; try simp only [Act.put, List.getElem_toArray, List.getElem_cons_zero, List.getElem_cons_succ, List.setIfInBounds_toArray, List.set_cons_zero, List.set_cons_succ])
      refine wpZ_eff _ (by rfl) (by rfl) (by rfl) (by rfl) (fun K hK => ?_)
      refine wp_append_one_h (w := wc.drew) _ _ 54 (by rfl) 64 i64v (.agg PL.zero.cells.toArray) 8 56 Try.underlying54 hi hz0 hz1 hz2 (by rfl) a2 m M _ (by rfl) h7 [.int .u32 p.st, .int .i64 p.depth, .int .i64 p.metric, .int .i64 p.parent, .int .u8 p.bit, .int .i64 p.kids, .bool true, .bool true] (by rfl) ⟨rfl, rfl, rfl, rfl⟩ (by rfl) HP.out (by unfold maxLen; omega) (by omega) (fun a3 c3 w9 h9 hc9 => ?_)
      have g1'' : w9.cell? ⟨b, 1, none⟩ = some (.slice a2 m M) := (h9.mv 1).cell 1
      have f1 := (h9.mv 1).frozen 1
      have hR'' : w9.rangeAt q 0 p.up.cells := (h9.mv 3).range 0 p.up.cells (by simp)
      (refine hK _ _ (fun hl => ?_) ?_; (first | (focus (cases hl; done)) | exact ⟨g1'', hR''⟩); clear hK K; try simp only [Act.put, List.getElem_toArray, List.getElem_cons_zero, List.getElem_cons_succ, List.setIfInBounds_toArray, List.set_cons_zero, List.set_cons_succ])
      (repeat (first | (refine wpZ_st (v := ?_) _ (by rfl) (by rfl) (by rfl) (fun W hW => ?_) (by exact ⟨g1'', hR''⟩) ?_; (rotate_left; (focus ((try dsimp only at hW); go_simp; (try with_reducible rfl); done))); try simp only [Act.put, List.getElem_toArray, List.getElem_cons_zero, List.getElem_cons_succ, List.setIfInBounds_toArray, List.set_cons_zero, List.set_cons_succ]) | (refine wpZ_pu (v := ?_) _ (by rfl) (by rfl) (by rfl) (by rfl) (fun W => ?_) ?_; (rotate_left; (focus ((try dsimp only at hW); go_simp; (try with_reducible rfl); done))); try simp only [Act.put, List.getElem_toArray, List.getElem_cons_zero, List.getElem_cons_succ, List.setIfInBounds_toArray, List.set_cons_zero, List.set_cons_succ]) | (refine wpZ_no _ (by rfl) (by rfl) (by rfl) (by rfl) ?_; try simp only [Act.put, List.getElem_toArray, List.getElem_cons_zero, List.getElem_cons_succ, List.setIfInBounds_toArray, List.set_cons_zero, List.set_cons_succ]) | (refine wpZ_noS _ (by rfl) (by rfl) (by rfl) (by exact ⟨g1'', hR''⟩) ?_; try simp only [Act.put, List.getElem_toArray, List.getElem_cons_zero, List.getElem_cons_succ, List.setIfInBounds_toArray, List.set_cons_zero, List.set_cons_succ])))
      (refine wpZ_eff _ (by rfl) (by rfl) (by rfl) (by rfl) (fun K hK => ?_); go_simp; refine hK _ _ (fun hl => ?_) ?_; (first | (focus (cases hl; done)) | trivial); clear hK K; try simp only [Act.put, List.getElem_toArray, List.getElem_cons_zero, List.getElem_cons_succ, List.setIfInBounds_toArray, List.set_cons_zero, List.set_cons_succ])
      (simp only [wpZ])
      have h10 := (h9.mv 1).st 1 (.slice a3 (m + 1) c3)
      go_upto_region 16 with (fail)
      refine gen_world h10 (fun w10 h10 => ?_)
      clear g1 g1' g1'' hR hR' hR'' f1 h5 h6 h7 hj h9
      have k1 : w10.cell? ⟨b, 1, none⟩ = some (.slice a3 (m + 1) c3) := h10.cell 1
      have W2 : IntKind.i64.wrap (((m : Int) + 1) - 1) = m := by rw [Int.add_sub_cancel]; exact IntWalk.i64_in _ (by omega)
      have W3 : ((m : Int) + 1) - 1 = m := by omega
      go_wp2
      go_ret2
      rw [HTK.out]
      refine ⟨by simp [hm], ?_⟩
      have e1 := flat_append PL.cells A.all [p.up]
      have e2 : flat PL.cells [p.up] = p.up.cells := by simp [flat]
      rw [e2] at e1
      have e1 : flat PL.cells (A.all ++ [p.up]) = flat PL.cells A.all ++ [.int .u32 p.st, .int .i64 p.depth, .int .i64 p.metric, .int .i64 p.parent, .int .u8 p.bit, .int .i64 p.kids, .bool true, .bool true] := e1
      rw [← e1] at h10
      have h11 := (h10.mv 3).drop
      (try dsimp only [Go.Own.front, Go.Own.arrA, Go.Own.atA, Go.Own.dropA, List.length_cons, List.length_nil, Nat.zero_add, Nat.reduceAdd] at h11)
      refine ar_close (ao := a3) (ac := c3) (fo := fo) (fc := fc) ?_
      dsimp only
      simp only [List.length_append, List.length_cons, List.length_nil, hm, HF.out]
      exact h11.as (by rfl)
  · rw [List.concat_eq_append] at hf
    have HTK := Lib.hid (take_old (p := p) hf)
    have hid := (HI.out.free id).1 (by rw [hf]; simp)
    obtain ⟨p0, hp0, -⟩ := hid
    have hidl : id < A.all.length := (List.getElem?_eq_some_iff.1 hp0).1
    have hfl : A.free.length = fs.length + 1 := by rw [hf]; simp
    have hlen := HI.out.len
    have hc2 := HI.out.cap2
    have hcnt := HI.out.count
    rw [hfl] at h3 g2
    rw [hf] at h3
    have f2 := h3.frozen 2
    obtain ⟨fb, fp, rfl, hc, -⟩ := (h3.mv 2).at (by omega)
    have gl : w3.cell? ⟨fb, fp + fs.length, none⟩ = some (.int .i64 id) := by
      rw [hc fs.length (by omega), nums_append, List.getElem?_append_right (by simp [nums_length])]
      simp [nums_length, nums]
    have hfc := (h3.mv 2).bounds.2.1
    have hS := h3.mv 2
    (try dsimp only [Go.Own.front, Go.Own.arrA, Go.Own.atA, Go.Own.dropA, List.length_cons, List.length_nil, Nat.zero_add, Nat.reduceAdd] at hS)
    have hcut : Hold w3 (rowA 3 1 (some ⟨fb, fp, none⟩) fs.length fs.length (nums fs) :: cellsA b 56 [.int .i64 A.cap, .slice ao A.all.length ac, .slice (some ⟨fb, fp, none⟩) (fs.length + 1) fc, .int .i64 ((A.taken : Int) + 1)] :: rowA 64 8 ao A.all.length ac (flat PL.cells A.all) :: cellsA q 64 p.up.cells :: L) := by
      obtain ⟨ao', he, hcut⟩ := hS.cut (l := 0) (u := fs.length) (m := fs.length) (by omega) (by omega) (by omega) (by omega)
      have e1 : sliced (some ⟨fb, fp, none⟩) 0 fs.length fs.length 1 = .slice (some ⟨fb, fp, none⟩) fs.length fs.length := by
        unfold sliced
        split
        · simp
        · simp [Addr.add]
      rw [e1] at he
      simp only [Value.slice.injEq, Nat.sub_zero] at he
      obtain ⟨rfl, -, -⟩ := he
      have e2 : ((nums (fs ++ [id])).drop (0 * 1)).take ((fs.length - 0) * 1) = nums fs := by
        rw [nums_append, Nat.zero_mul, List.drop_zero, Nat.mul_one, Nat.sub_zero, List.take_left' (nums_length fs)]
      rw [e2] at hcut
      exact hcut
    have h4 := ((hcut.mv 1).st 2 (.slice (some ⟨fb, fp, none⟩) fs.length fs.length)).arr [0, 2, 1, 3]
    (try dsimp only [Go.Own.front, Go.Own.arrA, Go.Own.atA, Go.Own.dropA, List.length_cons, List.length_nil, Nat.zero_add, Nat.reduceAdd] at h4)
    have hn1 : ((fs.length : Int) + 1).toNat = fs.length + 1 := by omega
    have hn9 : (fs.length : Int) ≤ 65536 := by omega
    have hn0 : 0 ≤ (fs.length : Int) := by omega
    have hfc' : (fs.length : Int) ≤ fc := by omega
    have HX := Lib.hid (And.intro hf (And.intro hp0 (And.intro hidl (And.intro hlen (And.intro hc2 hfl)))))
    clear hf hp0 hidl hlen hc2 hcnt hfl hS hc hcut
    generalize hn : fs.length = n at *
    go_upto_region 9 with (fail)
    refine gen_world h4 (fun w4 h4 => ?_)
    clear g2 f2 gl h3
    have h5 := h4.drew
    have g1 : w4.drew.cell? ⟨b, 1, none⟩ = some (.slice ao A.all.length ac) := h5.cell 1
    have hR : w4.drew.rangeAt q 0 p.up.cells := (h5.mv 3).range 0 p.up.cells (by simp)
    obtain ⟨rb, rp, rfl, -⟩ := pl_at cells8 HX.out.2.1 rfl (h5.mv 1)
    have hli : (id : Int) < (A.all.length : Int) := by have := HX.out.2.2.1; omega
    have h6 := h5.mv 1
    (try dsimp only [Go.Own.front, Go.Own.arrA, Go.Own.atA, Go.Own.dropA, List.length_cons, List.length_nil, Nat.zero_add, Nat.reduceAdd] at h6)
    have HP := Lib.hid (pl_one p.up)
    generalize hm : A.all.length = m at *
    refine wp_region_Z (fun W => W.cell? ⟨b, 1, none⟩ = some (.slice (some ⟨rb, rp, none⟩) m ac) ∧ W.rangeAt q 0 p.up.cells) [3, 5] [7] [0, 1, 2, 4, 6] [0, 1, 2, 3, 4, 5, 6, 7] (by kernel_rfl) (by kernel_rfl) ?_
    (repeat (first | (refine wpZ_st (v := ?_) _ (by rfl) (by rfl) (by rfl) (fun W hW => ?_) (by exact ⟨g1, hR⟩) ?_; (rotate_left; (focus ((try dsimp only at hW); go_simp; (try with_reducible rfl); done))); try simp only [Act.put, List.getElem_toArray, List.getElem_cons_zero, List.getElem_cons_succ, List.setIfInBounds_toArray, List.set_cons_zero, List.set_cons_succ]) | (refine wpZ_pu (v := ?_) _ (by rfl) (by rfl) (by rfl) (by rfl) (fun W => ?_) ?_; (rotate_left; (focus ((try dsimp only at hW); go_simp; (try with_reducible rfl); done))); try simp only [Act.put, List.getElem_toArray, List.getElem_cons_zero, List.getElem_cons_succ, List.setIfInBounds_toArray, List.set_cons_zero, List.set_cons_succ]) | (refine wpZ_no _ (by rfl) (by rfl) (by rfl) (by rfl) ?_; try simp only [Act.put, List.getElem_toArray, List.getElem_cons_zero, List.getElem_cons_succ, List.setIfInBounds_toArray, List.set_cons_zero, List.set_cons_succ]) | (refine wpZ_noS _ (by rfl) (by rfl) (by rfl) (by exact ⟨g1, hR⟩) ?_; try simp only [Act.put, List.getElem_toArray, List.getElem_cons_zero, List.getElem_cons_succ, List.setIfInBounds_toArray, List.set_cons_zero, List.set_cons_succ])))
    refine wpZ_st (v := .agg p.up.cells.toArray) _ (by rfl) (by rfl) (by rfl) (fun W hW => exec_load64 (by rfl) (by rfl) hW.2) (by exact ⟨g1, hR⟩) ?_
    try simp only [Act.put, List.getElem_toArray, List.getElem_cons_zero, List.getElem_cons_succ, List.setIfInBounds_toArray, List.set_cons_zero, List.set_cons_succ]
    (repeat (first | (refine wpZ_st (v := ?_) _ (by rfl) (by rfl) (by rfl) (fun W hW => ?_) (by exact ⟨g1, hR⟩) ?_; (rotate_left; (focus ((try dsimp only at hW); go_simp; (try with_reducible rfl); done))); try simp only [Act.put, List.getElem_toArray, List.getElem_cons_zero, List.getElem_cons_succ, List.setIfInBounds_toArray, List.set_cons_zero, List.set_cons_succ]) | (refine wpZ_pu (v := ?_) _ (by rfl) (by rfl) (by rfl) (by rfl) (fun W => ?_) ?_; (rotate_left; (focus ((try dsimp only at hW); go_simp; (try with_reducible rfl); done))); try simp only [Act.put, List.getElem_toArray, List.getElem_cons_zero, List.getElem_cons_succ, List.setIfInBounds_toArray, List.set_cons_zero, List.set_cons_succ]) | (refine wpZ_no _ (by rfl) (by rfl) (by rfl) (by rfl) ?_; try simp only [Act.put, List.getElem_toArray, List.getElem_cons_zero, List.getElem_cons_succ, List.setIfInBounds_toArray, List.set_cons_zero, List.set_cons_succ]) | (refine wpZ_noS _ (by rfl) (by rfl) (by rfl) (by exact ⟨g1, hR⟩) ?_; try simp only [Act.put, List.getElem_toArray, List.getElem_cons_zero, List.getElem_cons_succ, List.setIfInBounds_toArray, List.set_cons_zero, List.set_cons_succ])))
    refine wpZ_eff _ (by rfl) (by rfl) (by rfl) (by rfl) (fun K hK => ?_)
    refine wp_storeRow_h 64 _ _ (by rfl) rb rp (id * 8) (by rfl) p.up.cells (by rfl) h6 (by have := HX.out.2.2.1; simp only [cells8]; omega) (by rw [i64s, cells8]) HP.out (by rw [cells8]; omega) (fun w7 h7 => ?_)
    (refine hK _ _ (fun hl => ?_) ?_; (first | (focus (cases hl; done)) | trivial); clear hK K; try simp only [Act.put, List.getElem_toArray, List.getElem_cons_zero, List.getElem_cons_succ, List.setIfInBounds_toArray, List.set_cons_zero, List.set_cons_succ])
    (simp only [wpZ])
    go_wp2
    go_ret2
    rw [HTK.out]
    refine ⟨rfl, ?_⟩
    have e1 := flat_set PL.cells cells8 A.all id p.up (by rw [hm]; exact HX.out.2.2.1)
    rw [cells8, ← e1] at h7
    have h8 := h7.arr [1, 0, 2]
    (try dsimp only [Go.Own.front, Go.Own.arrA, Go.Own.atA, Go.Own.dropA, List.length_cons, List.length_nil, Nat.zero_add, Nat.reduceAdd] at h8)
    refine ar_close (ao := some ⟨rb, rp, none⟩) (ac := ac) (fo := some ⟨fb, fp, none⟩) (fc := n) ?_
    have h9 := (h8.mv 3).drop
    (try dsimp only [Go.Own.front, Go.Own.arrA, Go.Own.atA, Go.Own.dropA, List.length_cons, List.length_nil, Nat.zero_add, Nat.reduceAdd] at h9)
    dsimp only
    simp only [List.length_set, hm, hn]
    exact h9.as (by rfl)

end Go.Proofs.Ytahhbbcgfhmmgaa
