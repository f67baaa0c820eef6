/- Contracts: the reference's take, Root. -/
import Derived.Test.YtahhbbcgfhmmgaaArM
open Go.RowKit Go.Own
namespace Go.Proofs.Ytahhbbcgfhmmgaa

/-- What a take needs of an arena. -/
structure AF (A : AR) : Prop where
  cap2 : A.cap ≤ 65536
  len : A.all.length ≤ A.cap
  count : A.taken + A.free.length = A.all.length
  free : ∀ id : Nat, id ∈ A.free → ∃ p, A.all[id]? = some p
theorem AI.af {A : AR} {born : Nat → Nat} (h : AI A born) : AF A := ⟨h.cap2, h.len, h.count, fun id hid => by
  obtain ⟨p, h1, -⟩ := (h.free id).1 hid
  exact ⟨p, h1⟩⟩
theorem AF.bump {A : AR} (h : AF A) (id : Int) : AF (bumpA A id) := ⟨h.cap2, by simpa [bumpA] using h.len, by simpa [bumpA] using h.count, fun j hj => by
  obtain ⟨p, hp⟩ := h.free j hj
  have hl : j < A.all.length := (List.getElem?_eq_some_iff.1 hp).1
  exact ⟨_, List.getElem?_eq_getElem (by simpa [bumpA] using hl)⟩⟩

theorem i81s : (Try.prog.info? 81).map (·.size) = some 8 := by kernel_rfl
theorem exec_load81 {ev : Operand → Value} {o : Oper} {x : Operand} (ho : o.op = .load 81 x) {b : Nat} (hx : ev x = .pointer (some ⟨b, 0, none⟩)) {p : PL} {W : World} (h : W.rangeAt b 0 p.rcells) : (execOp ev o).run Try.prog W = .ok (.value (.agg p.rcells.toArray)) W := by
  have := run_loadAt_mid (P := Try.prog) W b 0 81 p.rcells _ h Try.underlying81 rfl (by rw [i81s]; rfl)
  unfold execOp
  simp only [ho, hx, Sem.run_bind, this, Result.andThen_ok, Sem.run_pure]

set_option maxHeartbeats 4000000 in
set_option maxRecDepth 20000 in
theorem rtake_ok (b : Nat) (A : AR) (hI : AF A) (ht : A.taken < A.cap) (p : PL) (w : World) (L : List Asn) (h : Hold w (rrA b A :: L)) :
    Calls Try.prog 35 #[.pointer (some ⟨b, 0, none⟩), .agg p.up.rcells.toArray] w fun e w' => e = .returned (.int .i64 (takeA A p).1) ∧ Hold w' (rrA b (takeA A p).2 :: L) := by
  obtain ⟨i64v, hi, hz0, hz1, hz2⟩ := info_parts info81
  obtain ⟨ao, ac, fo, fc, h1⟩ := ar_open h
  have hb := h1.box 81 p.up.rcells
  obtain ⟨q, hq⟩ : ∃ q, w.heap.size = q := ⟨_, rfl⟩
  simp only [hq] at hb
  have hc2 := hI.cap2
  have hc9 : (A.taken : Int) ≤ 65536 := by omega
  have HI := Lib.hid hI
  have HT := Lib.hid ht
  clear h h1 hI ht hc2
  go_enter Try.func35, Try.ntmps35
  go_upto_region 1 with (fail)
  refine gen_world hb (fun w1 hb => ?_)
  try simp only [hq]
  clear hq
  have h2 := hb.mv 1
  (try dsimp only [Go.Own.front, Go.Own.arrA, Go.Own.atA, Go.Own.dropA, List.length_cons, List.length_nil, Nat.zero_add, Nat.reduceAdd] at h2)
  have W1 : IntKind.i64.wrap ((A.taken : Int) + 1) = (A.taken : Int) + 1 := IntWalk.i64_in _ (by omega)
  have g3 : w1.cell? ⟨b, 3, none⟩ = some (.int .i64 A.taken) := h2.cell 3
  have f3 := h2.frozen 3
  have h3 := (h2.st 3 (.int .i64 ((A.taken : Int) + 1))).arr [0, 2, 3, 1]
  (try dsimp only [Go.Own.front, Go.Own.arrA, Go.Own.atA, Go.Own.dropA, List.length_cons, List.length_nil, Nat.zero_add, Nat.reduceAdd] at h3)
  go_upto_region 2 with (fail)
  refine gen_world h3 (fun w3 h3 => ?_)
  clear h2 g3 f3 hb
  have h3 : Hold w3 (cellsA b 72 [.int .i64 A.cap, .slice ao A.all.length ac, .slice fo A.free.length fc, .int .i64 ((A.taken : Int) + 1)] :: rowA 81 8 ao A.all.length ac (flat PL.rcells A.all) :: rowA 3 1 fo A.free.length fc (nums A.free) :: cellsA q 81 p.up.rcells :: L) := h3
  have g2 : w3.cell? ⟨b, 2, none⟩ = some (.slice fo A.free.length fc) := h3.cell 2
  rcases List.eq_nil_or_concat A.free with hf | ⟨fs, id, hf⟩
  · have HTK := Lib.hid (take_new (p := p) hf)
    rw [hf] at h3 g2
    have hc2 := HI.out.cap2
    have hcnt := HI.out.count
    rw [hf] at hcnt
    have hct : A.taken = A.all.length := by simpa using hcnt
    have htc := HT.out
    have hnil : nums ([] : List Nat) = [] := rfl
    have hnl : ([] : List Nat).length = 0 := rfl
    rw [hnil, hnl] at h3
    rw [hnl] at g2
    have hA9 : A.all.length < A.cap := by omega
    have HF := Lib.hid hf
    have HCT := Lib.hid hct
    clear hcnt hf hnil hnl hct
    generalize hm : A.all.length = m at *
    have hml : m ≤ 65536 := by omega
    go_upto_region 8 with (fail)
    have h6 := h3.drew
    have g1 : w3.drew.cell? ⟨b, 1, none⟩ = some (.slice ao m ac) := h6.cell 1
    have hR : w3.drew.rangeAt q 0 p.up.rcells := (h6.mv 3).range 0 p.up.rcells (by simp)
    have h7 := h6.mv 1
    (try dsimp only [Go.Own.front, Go.Own.arrA, Go.Own.atA, Go.Own.dropA, List.length_cons, List.length_nil, Nat.zero_add, Nat.reduceAdd] at h7)
    have hj := h7.junk (.cells #[.bool true, .int .u32 p.st, .int .i64 p.depth, .int .i64 p.metric, .int .i64 p.parent, .int .u8 p.bit, .bool true, .int .i64 p.kids] 81)
    have g1' : (w3.drew.alloc (.cells #[.bool true, .int .u32 p.st, .int .i64 p.depth, .int .i64 p.metric, .int .i64 p.parent, .int .u8 p.bit, .bool true, .int .i64 p.kids] 81)).cell? ⟨b, 1, none⟩ = some (.slice ao m ac) := (hj.mv 1).cell 1
    have hR' : (w3.drew.alloc (.cells #[.bool true, .int .u32 p.st, .int .i64 p.depth, .int .i64 p.metric, .int .i64 p.parent, .int .u8 p.bit, .bool true, .int .i64 p.kids] 81)).rangeAt q 0 p.up.rcells := (hj.mv 3).range 0 p.up.rcells (by simp)
    have HP : Hid (∀ u ∈ ([.bool true, .int .u32 p.st, .int .i64 p.depth, .int .i64 p.metric, .int .i64 p.parent, .int .u8 p.bit, .bool true, .int .i64 p.kids] : List Value), u.oneCell' = true) := Lib.hid (rpl_one p.up)
    clear g2
    refine wp_region_Z (fun W => W.cell? ⟨b, 1, none⟩ = some (.slice ao m ac) ∧ W.rangeAt q 0 p.up.rcells) [4, 5] [10] [0, 1, 2, 3, 8, 9] [0, 1, 2, 3, 4, 5, 6, 7, 8, 9, 10] (by kernel_rfl) (by kernel_rfl) ?_
    (repeat (first | (refine wpZ_st (v := ?_) _ (by rfl) (by rfl) (by rfl) (fun W hW => ?_) (by exact ⟨g1, hR⟩) ?_; (rotate_left; (focus ((try dsimp only at hW); go_simp; (try with_reducible rfl); done))); try simp only [Act.put, List.getElem_toArray, List.getElem_cons_zero, List.getElem_cons_succ, List.setIfInBounds_toArray, List.set_cons_zero, List.set_cons_succ]) | (refine wpZ_pu (v := ?_) _ (by rfl) (by rfl) (by rfl) (by rfl) (fun W => ?_) ?_; (rotate_left; (focus ((try dsimp only at hW); go_simp; (try with_reducible rfl); done))); try simp only [Act.put, List.getElem_toArray, List.getElem_cons_zero, List.getElem_cons_succ, List.setIfInBounds_toArray, List.set_cons_zero, List.set_cons_succ]) | (refine wpZ_no _ (by rfl) (by rfl) (by rfl) (by rfl) ?_; try simp only [Act.put, List.getElem_toArray, List.getElem_cons_zero, List.getElem_cons_succ, List.setIfInBounds_toArray, List.set_cons_zero, List.set_cons_succ]) | (refine wpZ_noS _ (by rfl) (by rfl) (by rfl) (by exact ⟨g1, hR⟩) ?_; try simp only [Act.put, List.getElem_toArray, List.getElem_cons_zero, List.getElem_cons_succ, List.setIfInBounds_toArray, List.set_cons_zero, List.set_cons_succ])))
    refine wpZ_st (v := .agg #[.bool true, .int .u32 p.st, .int .i64 p.depth, .int .i64 p.metric, .int .i64 p.parent, .int .u8 p.bit, .bool true, .int .i64 p.kids]) _ (by rfl) (by rfl) (by rfl) (fun W hW => exec_load81 (p := p.up) (by rfl) (by rfl) hW.2) (by exact ⟨g1, hR⟩) ?_
    try simp only [Act.put, List.getElem_toArray, List.getElem_cons_zero, List.getElem_cons_succ, List.setIfInBounds_toArray, List.set_cons_zero, List.set_cons_succ]
    (refine wpZ_eff _ (by rfl) (by rfl) (by rfl) (by rfl) (fun K hK => ?_); go_simp; refine hK _ _ (fun hl => ?_) ?_; (first | (focus (cases hl; done)) | exact ⟨g1', hR'⟩); clear hK K; try simp only [Act.put, List.getElem_toArray, List.getElem_cons_zero, List.getElem_cons_succ, List.setIfInBounds_toArray, List.set_cons_zero, List.set_cons_succ])
    refine wpZ_eff _ (by rfl) (by rfl) (by rfl) (by rfl) (fun K hK => ?_)
    refine wp_append_one_h (w := w3.drew) _ _ 70 (by rfl) 81 i64v (.agg PL.zero.rcells.toArray) 8 56 Try.underlying70 hi hz0 hz1 hz2 (by rfl) ao m ac _ (by rfl) h7 [.bool true, .int .u32 p.st, .int .i64 p.depth, .int .i64 p.metric, .int .i64 p.parent, .int .u8 p.bit, .bool true, .int .i64 p.kids] (by rfl) ⟨rfl, rfl, rfl, rfl⟩ (by rfl) HP.out (by unfold maxLen; omega) (by omega) (fun a3 c3 w9 h9 hc9 => ?_)
    have g1'' : w9.cell? ⟨b, 1, none⟩ = some (.slice ao m ac) := (h9.mv 1).cell 1
    have f1 := (h9.mv 1).frozen 1
    have hR'' : w9.rangeAt q 0 p.up.rcells := (h9.mv 3).range 0 p.up.rcells (by simp)
    (refine hK _ _ (fun hl => ?_) ?_; (first | (focus (cases hl; done)) | exact ⟨g1'', hR''⟩); clear hK K; try simp only [Act.put, List.getElem_toArray, List.getElem_cons_zero, List.getElem_cons_succ, List.setIfInBounds_toArray, List.set_cons_zero, List.set_cons_succ])
    (repeat (first | (refine wpZ_st (v := ?_) _ (by rfl) (by rfl) (by rfl) (fun W hW => ?_) (by exact ⟨g1'', hR''⟩) ?_; (rotate_left; (focus ((try dsimp only at hW); go_simp; (try with_reducible rfl); done))); try simp only [Act.put, List.getElem_toArray, List.getElem_cons_zero, List.getElem_cons_succ, List.setIfInBounds_toArray, List.set_cons_zero, List.set_cons_succ]) | (refine wpZ_pu (v := ?_) _ (by rfl) (by rfl) (by rfl) (by rfl) (fun W => ?_) ?_; (rotate_left; (focus ((try dsimp only at hW); go_simp; (try with_reducible rfl); done))); try simp only [Act.put, List.getElem_toArray, List.getElem_cons_zero, List.getElem_cons_succ, List.setIfInBounds_toArray, List.set_cons_zero, List.set_cons_succ]) | (refine wpZ_no _ (by rfl) (by rfl) (by rfl) (by rfl) ?_; try simp only [Act.put, List.getElem_toArray, List.getElem_cons_zero, List.getElem_cons_succ, List.setIfInBounds_toArray, List.set_cons_zero, List.set_cons_succ]) | (refine wpZ_noS _ (by rfl) (by rfl) (by rfl) (by exact ⟨g1'', hR''⟩) ?_; try simp only [Act.put, List.getElem_toArray, List.getElem_cons_zero, List.getElem_cons_succ, List.setIfInBounds_toArray, List.set_cons_zero, List.set_cons_succ])))
    (refine wpZ_eff _ (by rfl) (by rfl) (by rfl) (by rfl) (fun K hK => ?_); go_simp; refine hK _ _ (fun hl => ?_) ?_; (first | (focus (cases hl; done)) | trivial); clear hK K; try simp only [Act.put, List.getElem_toArray, List.getElem_cons_zero, List.getElem_cons_succ, List.setIfInBounds_toArray, List.set_cons_zero, List.set_cons_succ])
    (simp only [wpZ])
    have h10 := (h9.mv 1).st 1 (.slice a3 (m + 1) c3)
    go_upto_region 9 with (fail)
    refine gen_world h10 (fun w10 h10 => ?_)
    clear g1 g1' g1'' hR hR' hR'' f1 h6 h7 hj h9
    have k1 : w10.cell? ⟨b, 1, none⟩ = some (.slice a3 (m + 1) c3) := h10.cell 1
    have W2 : IntKind.i64.wrap (((m : Int) + 1) - 1) = m := by rw [Int.add_sub_cancel]; exact IntWalk.i64_in _ (by omega)
    have W3 : ((m : Int) + 1) - 1 = m := by omega
    go_wp2
    go_ret
    rw [HTK.out]
    refine ⟨by simp [hm], ?_⟩
    have e1 := flat_append PL.rcells A.all [p.up]
    have e2 : flat PL.rcells [p.up] = p.up.rcells := by simp [flat]
    rw [e2] at e1
    have e1 : flat PL.rcells (A.all ++ [p.up]) = flat PL.rcells A.all ++ [.bool true, .int .u32 p.st, .int .i64 p.depth, .int .i64 p.metric, .int .i64 p.parent, .int .u8 p.bit, .bool true, .int .i64 p.kids] := e1
    rw [← e1] at h10
    have h11 := (h10.mv 3).drop
    (try dsimp only [Go.Own.front, Go.Own.arrA, Go.Own.atA, Go.Own.dropA, List.length_cons, List.length_nil, Nat.zero_add, Nat.reduceAdd] at h11)
    refine ar_close (ao := a3) (ac := c3) (fo := fo) (fc := fc) ?_
    dsimp only
    simp only [List.length_append, List.length_cons, List.length_nil, hm, HF.out]
    exact h11.as (by rfl)
  · rw [List.concat_eq_append] at hf
    have HTK := Lib.hid (take_old (p := p) hf)
    have hid := HI.out.free id (by rw [hf]; simp)
    obtain ⟨p0, hp0⟩ := hid
    have hidl : id < A.all.length := (List.getElem?_eq_some_iff.1 hp0).1
    have hfl : A.free.length = fs.length + 1 := by rw [hf]; simp
    have hlen := HI.out.len
    have hc2 := HI.out.cap2
    have hcnt := HI.out.count
    rw [hfl] at h3 g2
    rw [hf] at h3
    have f2 := h3.frozen 2
    obtain ⟨fb, fp, rfl, hc, -⟩ := (h3.mv 2).at (by omega)
    have gl : w3.cell? ⟨fb, fp + fs.length, none⟩ = some (.int .i64 id) := by
      rw [hc fs.length (by omega), nums_append, List.getElem?_append_right (by simp [nums_length])]
      simp [nums_length, nums]
    have hfc := (h3.mv 2).bounds.2.1
    have hfc9 := (h3.mv 2).bounds.2.2
    have hS := h3.mv 2
    (try dsimp only [Go.Own.front, Go.Own.arrA, Go.Own.atA, Go.Own.dropA, List.length_cons, List.length_nil, Nat.zero_add, Nat.reduceAdd] at hS)
    have hcut : Hold w3 (rowA 3 1 (some ⟨fb, fp, none⟩) fs.length fc (nums fs) :: cellsA b 72 [.int .i64 A.cap, .slice ao A.all.length ac, .slice (some ⟨fb, fp, none⟩) (fs.length + 1) fc, .int .i64 ((A.taken : Int) + 1)] :: rowA 81 8 ao A.all.length ac (flat PL.rcells A.all) :: cellsA q 81 p.up.rcells :: L) := by
      obtain ⟨ao', he, hcut⟩ := hS.cut (l := 0) (u := fs.length) (m := fc) (by omega) (by omega) (by omega) (by omega)
      have e1 : sliced (some ⟨fb, fp, none⟩) 0 fs.length fc 1 = .slice (some ⟨fb, fp, none⟩) fs.length fc := by
        unfold sliced
        rw [if_neg (by omega)]
        simp [Addr.add]
      rw [e1] at he
      simp only [Value.slice.injEq, Nat.sub_zero] at he
      obtain ⟨rfl, -, -⟩ := he
      have e2 : ((nums (fs ++ [id])).drop (0 * 1)).take ((fs.length - 0) * 1) = nums fs := by
        rw [nums_append, Nat.zero_mul, List.drop_zero, Nat.mul_one, Nat.sub_zero, List.take_left' (nums_length fs)]
      rw [e2] at hcut
      exact hcut
    have h4 := ((hcut.mv 1).st 2 (.slice (some ⟨fb, fp, none⟩) fs.length fc)).arr [0, 2, 1, 3]
    (try dsimp only [Go.Own.front, Go.Own.arrA, Go.Own.atA, Go.Own.dropA, List.length_cons, List.length_nil, Nat.zero_add, Nat.reduceAdd] at h4)
    have hn1 : ((fs.length : Int) + 1).toNat = fs.length + 1 := by omega
    have hn9 : (fs.length : Int) ≤ 65536 := by omega
    have hn0 : 0 ≤ (fs.length : Int) := by omega
    have hfc' : (fs.length : Int) ≤ fc := by omega
    have hfc'' : (fs.length : Int) + 1 ≤ fc := by omega
    have hfcm : (fc : Int) ≤ 9223372036854775807 := by unfold maxLen at hfc9; omega
    have hfc0 : ¬ fc = 0 := by omega
    have HX := Lib.hid (And.intro hf (And.intro hp0 (And.intro hidl (And.intro hlen (And.intro hc2 hfl)))))
    clear hf hp0 hidl hlen hc2 hcnt hfl hS hc hcut
    generalize hn : fs.length = n at *
    go_upto_region 6 with (fail)
    refine gen_world h4 (fun w4 h4 => ?_)
    clear g2 f2 gl h3
    have h5 := h4.drew
    have g1 : w4.drew.cell? ⟨b, 1, none⟩ = some (.slice ao A.all.length ac) := h5.cell 1
    have hR : w4.drew.rangeAt q 0 p.up.rcells := (h5.mv 3).range 0 p.up.rcells (by simp)
    obtain ⟨rb, rp, rfl, -⟩ := pl_at rcells8 HX.out.2.1 rfl (h5.mv 1)
    have hli : (id : Int) < (A.all.length : Int) := by have := HX.out.2.2.1; omega
    have h6 := h5.mv 1
    (try dsimp only [Go.Own.front, Go.Own.arrA, Go.Own.atA, Go.Own.dropA, List.length_cons, List.length_nil, Nat.zero_add, Nat.reduceAdd] at h6)
    have HP := Lib.hid (rpl_one p.up)
    generalize hm : A.all.length = m at *
    refine wp_region_Z (fun W => W.cell? ⟨b, 1, none⟩ = some (.slice (some ⟨rb, rp, none⟩) m ac) ∧ W.rangeAt q 0 p.up.rcells) [3, 5] [7] [0, 1, 2, 4, 6] [0, 1, 2, 3, 4, 5, 6, 7] (by kernel_rfl) (by kernel_rfl) ?_
    (repeat (first | (refine wpZ_st (v := ?_) _ (by rfl) (by rfl) (by rfl) (fun W hW => ?_) (by exact ⟨g1, hR⟩) ?_; (rotate_left; (focus ((try dsimp only at hW); go_simp; (try with_reducible rfl); done))); try simp only [Act.put, List.getElem_toArray, List.getElem_cons_zero, List.getElem_cons_succ, List.setIfInBounds_toArray, List.set_cons_zero, List.set_cons_succ]) | (refine wpZ_pu (v := ?_) _ (by rfl) (by rfl) (by rfl) (by rfl) (fun W => ?_) ?_; (rotate_left; (focus ((try dsimp only at hW); go_simp; (try with_reducible rfl); done))); try simp only [Act.put, List.getElem_toArray, List.getElem_cons_zero, List.getElem_cons_succ, List.setIfInBounds_toArray, List.set_cons_zero, List.set_cons_succ]) | (refine wpZ_no _ (by rfl) (by rfl) (by rfl) (by rfl) ?_; try simp only [Act.put, List.getElem_toArray, List.getElem_cons_zero, List.getElem_cons_succ, List.setIfInBounds_toArray, List.set_cons_zero, List.set_cons_succ]) | (refine wpZ_noS _ (by rfl) (by rfl) (by rfl) (by exact ⟨g1, hR⟩) ?_; try simp only [Act.put, List.getElem_toArray, List.getElem_cons_zero, List.getElem_cons_succ, List.setIfInBounds_toArray, List.set_cons_zero, List.set_cons_succ])))
    refine wpZ_st (v := .agg p.up.rcells.toArray) _ (by rfl) (by rfl) (by rfl) (fun W hW => exec_load81 (by rfl) (by rfl) hW.2) (by exact ⟨g1, hR⟩) ?_
    try simp only [Act.put, List.getElem_toArray, List.getElem_cons_zero, List.getElem_cons_succ, List.setIfInBounds_toArray, List.set_cons_zero, List.set_cons_succ]
    (repeat (first | (refine wpZ_st (v := ?_) _ (by rfl) (by rfl) (by rfl) (fun W hW => ?_) (by exact ⟨g1, hR⟩) ?_; (rotate_left; (focus ((try dsimp only at hW); go_simp; (try with_reducible rfl); done))); try simp only [Act.put, List.getElem_toArray, List.getElem_cons_zero, List.getElem_cons_succ, List.setIfInBounds_toArray, List.set_cons_zero, List.set_cons_succ]) | (refine wpZ_pu (v := ?_) _ (by rfl) (by rfl) (by rfl) (by rfl) (fun W => ?_) ?_; (rotate_left; (focus ((try dsimp only at hW); go_simp; (try with_reducible rfl); done))); try simp only [Act.put, List.getElem_toArray, List.getElem_cons_zero, List.getElem_cons_succ, List.setIfInBounds_toArray, List.set_cons_zero, List.set_cons_succ]) | (refine wpZ_no _ (by rfl) (by rfl) (by rfl) (by rfl) ?_; try simp only [Act.put, List.getElem_toArray, List.getElem_cons_zero, List.getElem_cons_succ, List.setIfInBounds_toArray, List.set_cons_zero, List.set_cons_succ]) | (refine wpZ_noS _ (by rfl) (by rfl) (by rfl) (by exact ⟨g1, hR⟩) ?_; try simp only [Act.put, List.getElem_toArray, List.getElem_cons_zero, List.getElem_cons_succ, List.setIfInBounds_toArray, List.set_cons_zero, List.set_cons_succ])))
    refine wpZ_eff _ (by rfl) (by rfl) (by rfl) (by rfl) (fun K hK => ?_)
    refine wp_storeRow_h 81 _ _ (by rfl) rb rp (id * 8) (by rfl) p.up.rcells (by rfl) h6 (by have := HX.out.2.2.1; simp only [rcells8]; omega) (by rw [i81s, rcells8]) HP.out (by rw [rcells8]; omega) (fun w7 h7 => ?_)
    (refine hK _ _ (fun hl => ?_) ?_; (first | (focus (cases hl; done)) | trivial); clear hK K; try simp only [Act.put, List.getElem_toArray, List.getElem_cons_zero, List.getElem_cons_succ, List.setIfInBounds_toArray, List.set_cons_zero, List.set_cons_succ])
    (simp only [wpZ])
    go_wp2
    go_ret
    rw [HTK.out]
    refine ⟨rfl, ?_⟩
    have e1 := flat_set PL.rcells rcells8 A.all id p.up (by rw [hm]; exact HX.out.2.2.1)
    rw [rcells8, ← e1] at h7
    have h8 := h7.arr [1, 0, 2]
    (try dsimp only [Go.Own.front, Go.Own.arrA, Go.Own.atA, Go.Own.dropA, List.length_cons, List.length_nil, Nat.zero_add, Nat.reduceAdd] at h8)
    refine ar_close (ao := some ⟨rb, rp, none⟩) (ac := ac) (fo := some ⟨fb, fp, none⟩) (fc := fc) ?_
    have h9 := (h8.mv 3).drop
    (try dsimp only [Go.Own.front, Go.Own.arrA, Go.Own.atA, Go.Own.dropA, List.length_cons, List.length_nil, Nat.zero_add, Nat.reduceAdd] at h9)
    dsimp only
    simp only [List.length_set, hm, hn]
    exact h9.as (by rfl)

set_option maxHeartbeats 4000000 in
set_option maxRecDepth 20000 in
theorem rroot_ok (b : Nat) (A : AR) (way : Nat → Nat) (hI : AI A way) (s : Nat) (d m : Int) (w : World) (L : List Asn) (h : Hold w (rrA b A :: L)) :
    Calls Try.prog 29 #[.pointer (some ⟨b, 0, none⟩), .agg #[.int .u32 s, .int .i64 d, .int .i64 m]] w fun e w' => e = .returned (.tuple #[.int .i64 (rootA A s d m).1, .int .i64 (rootA A s d m).2.1]) ∧ Hold w' (rrA b (rootA A s d m).2.2 :: L) := by
  have hb := (h.box 32 [.int .u32 s, .int .i64 d, .int .i64 m]).arr [1, 0]
  (try dsimp only [Go.Own.front, Go.Own.arrA, Go.Own.atA, Go.Own.dropA, List.length_cons, List.length_nil, Nat.zero_add, Nat.reduceAdd] at hb)
  obtain ⟨q, hq⟩ : ∃ q, w.heap.size = q := ⟨_, rfl⟩
  simp only [hq] at hb
  have HI := Lib.hid hI
  have hcc := hI.count
  have hln := hI.len
  clear h hI
  go_enter Try.func29, Try.ntmps29
  go_upto_region 1 with (fail)
  refine gen_world hb (fun w1 hb => ?_)
  try simp only [hq]
  clear hq
  have hX := hb.drew
  obtain ⟨ao, ac, fo, fc, hS⟩ := ar_open hX
  have g0 : w1.drew.cell? ⟨b, 0, none⟩ = some (.int .i64 A.cap) := hS.cell 0
  have g3 : w1.drew.cell? ⟨b, 3, none⟩ = some (.int .i64 A.taken) := hS.cell 3
  by_cases hf : A.taken = A.cap
  · have hne : ((A.taken : Int) == A.cap) = true := by rw [beq_iff_eq]; omega
    have e : rootA A s d m = (0, 2, A) := by unfold rootA; rw [if_pos hf]
    have HE := Lib.hid e
    clear e hf hcc hln
    refine wp_region_Z (fun W => W.cell? ⟨b, 0, none⟩ = some (.int .i64 A.cap) ∧ W.cell? ⟨b, 3, none⟩ = some (.int .i64 A.taken)) [3, 7] [] [0, 1, 2, 4, 5, 6, 8] [0, 1, 2, 3, 4, 5, 6, 7, 8] (by kernel_rfl) (by kernel_rfl) ?_
    (repeat (first | (refine wpZ_st (v := ?_) _ (by rfl) (by rfl) (by rfl) (fun W hW => ?_) (by exact ⟨g0, g3⟩) ?_; (rotate_left; (focus ((try dsimp only at hW); go_simp; (try with_reducible rfl); done))); try simp only [Act.put, List.getElem_toArray, List.getElem_cons_zero, List.getElem_cons_succ, List.setIfInBounds_toArray, List.set_cons_zero, List.set_cons_succ]) | (refine wpZ_pu (v := ?_) _ (by rfl) (by rfl) (by rfl) (by rfl) (fun W => ?_) ?_; (rotate_left; (focus ((try dsimp only at hW); go_simp; (try with_reducible rfl); done))); try simp only [Act.put, List.getElem_toArray, List.getElem_cons_zero, List.getElem_cons_succ, List.setIfInBounds_toArray, List.set_cons_zero, List.set_cons_succ]) | (refine wpZ_no _ (by rfl) (by rfl) (by rfl) (by rfl) ?_; try simp only [Act.put, List.getElem_toArray, List.getElem_cons_zero, List.getElem_cons_succ, List.setIfInBounds_toArray, List.set_cons_zero, List.set_cons_succ]) | (refine wpZ_noS _ (by rfl) (by rfl) (by rfl) (by exact ⟨g0, g3⟩) ?_; try simp only [Act.put, List.getElem_toArray, List.getElem_cons_zero, List.getElem_cons_succ, List.setIfInBounds_toArray, List.set_cons_zero, List.set_cons_succ])))
    (simp only [wpZ])
    go_wp2
    go_ret2
    rw [HE.out]
    have h5 := (hX.mv 1).drop
    (try dsimp only [Go.Own.front, Go.Own.arrA, Go.Own.atA, Go.Own.dropA, List.length_cons, List.length_nil, Nat.zero_add, Nat.reduceAdd] at h5)
    exact ⟨rfl, h5⟩
  · have hne : ((A.taken : Int) == A.cap) = false := by rw [beq_eq_false_iff_ne]; omega
    have e : rootA A s d m = ((takeA A (rootP s d m)).1, 0, (takeA A (rootP s d m)).2) := by unfold rootA; rw [if_neg hf]
    have HE := Lib.hid e
    have hlt : A.taken < A.cap := by omega
    have P2 : Calls Try.prog 35 #[.pointer (some ⟨b, 0, none⟩), .agg #[.bool true, .int .u32 s, .int .i64 d, .int .i64 m, .int .i64 (-1), .int .u8 0, .bool true, .int .i64 0]] w1.drew _ := rtake_ok b A HI.out.af hlt (rootP s d m) _ _ hX
    have h3 := hX.mv 1
    (try dsimp only [Go.Own.front, Go.Own.arrA, Go.Own.atA, Go.Own.dropA, List.length_cons, List.length_nil, Nat.zero_add, Nat.reduceAdd] at h3)
    clear e hf hcc hln hlt
    refine wp_region_Z (fun W => W.cell? ⟨b, 0, none⟩ = some (.int .i64 A.cap) ∧ W.cell? ⟨b, 3, none⟩ = some (.int .i64 A.taken)) [3, 7] [] [0, 1, 2, 4, 5, 6, 8] [0, 1, 2, 3, 4, 5, 6, 7, 8] (by kernel_rfl) (by kernel_rfl) ?_
    (repeat (first | (refine wpZ_st (v := ?_) _ (by rfl) (by rfl) (by rfl) (fun W hW => ?_) (by exact ⟨g0, g3⟩) ?_; (rotate_left; (focus ((try dsimp only at hW); go_simp; (try with_reducible rfl); done))); try simp only [Act.put, List.getElem_toArray, List.getElem_cons_zero, List.getElem_cons_succ, List.setIfInBounds_toArray, List.set_cons_zero, List.set_cons_succ]) | (refine wpZ_pu (v := ?_) _ (by rfl) (by rfl) (by rfl) (by rfl) (fun W => ?_) ?_; (rotate_left; (focus ((try dsimp only at hW); go_simp; (try with_reducible rfl); done))); try simp only [Act.put, List.getElem_toArray, List.getElem_cons_zero, List.getElem_cons_succ, List.setIfInBounds_toArray, List.set_cons_zero, List.set_cons_succ]) | (refine wpZ_no _ (by rfl) (by rfl) (by rfl) (by rfl) ?_; try simp only [Act.put, List.getElem_toArray, List.getElem_cons_zero, List.getElem_cons_succ, List.setIfInBounds_toArray, List.set_cons_zero, List.set_cons_succ]) | (refine wpZ_noS _ (by rfl) (by rfl) (by rfl) (by exact ⟨g0, g3⟩) ?_; try simp only [Act.put, List.getElem_toArray, List.getElem_cons_zero, List.getElem_cons_succ, List.setIfInBounds_toArray, List.set_cons_zero, List.set_cons_succ])))
    (simp only [wpZ])
    go_wp2_with (first
      | (refine wpList_loadAll_h (by rfl) 32 _ (by rfl) q (by rfl) h3 _ Try.underlying32 (by rfl) (by rw [i32]; rfl) ?_)
      | (go_at_call 35; refine P2.mono ?_; rintro ee w3 ⟨rfl, h4⟩))
    go_ret2
    rw [HE.out]
    have h5 := (h4.mv 1).drop
    (try dsimp only [Go.Own.front, Go.Own.arrA, Go.Own.atA, Go.Own.dropA, List.length_cons, List.length_nil, Nat.zero_add, Nat.reduceAdd] at h5)
    exact ⟨rfl, h5⟩

end Go.Proofs.Ytahhbbcgfhmmgaa
