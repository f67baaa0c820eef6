/- Contracts: the reference's Child. -/
import Derived.Test.YtahhbbcgfhmmgaaArR
open Go.RowKit Go.Own
namespace Go.Proofs.Ytahhbbcgfhmmgaa

/-- First the kid is counted, then it is taken: the same. -/
theorem take_bump {A : AR} {born : Nat → Nat} (hI : AI A born) {i : Nat} {q : PL} (hq : A.all[i]? = some q) (ht : q.taken = true) (p : PL) : takeA (bumpA A i) p = ((takeA A p).1, bumpA (takeA A p).2 i) := by
  have hil : i < A.all.length := (List.getElem?_eq_some_iff.1 hq).1
  have hk := take_keeps hI p hq ht
  have e1 : plA A (i : Int) = q := plA_in hq
  have e2 : plA (takeA A p).2 (i : Int) = q := plA_in hk
  have eb : bumpA A (i : Int) = { A with all := A.all.set i { q with kids := q.kids + 1 } } := by unfold bumpA; rw [e1]; rfl
  have eb2 : bumpA (takeA A p).2 (i : Int) = { (takeA A p).2 with all := (takeA A p).2.all.set i { q with kids := q.kids + 1 } } := by unfold bumpA; rw [e2]; rfl
  rw [eb2]
  rcases List.eq_nil_or_concat A.free with hf | ⟨fs, id, hf⟩
  · have h1 : (bumpA A (i : Int)).free = [] := hf
    rw [take_new hf, take_new h1, eb]
    simp only [List.length_set]
    rw [List.set_append_left _ _ hil]
  · rw [List.concat_eq_append] at hf
    have h1 : (bumpA A (i : Int)).free = fs ++ [id] := hf
    obtain ⟨p0, hp0, h0⟩ := (hI.free id).1 (by rw [hf]; simp)
    have hne : id ≠ i := by
      rintro rfl
      rw [hp0] at hq
      simp at hq
      subst hq
      rw [h0] at ht
      exact absurd ht (by simp)
    rw [take_old hf, take_old h1, eb]
    simp only
    rw [List.set_comm _ _ (Ne.symm hne)]

set_option maxHeartbeats 4000000 in
set_option maxRecDepth 20000 in
theorem rchild_ok (b : Nat) (A : AR) (way : Nat → Nat) (hI : AI A way) (id : Int) (bit : Nat) (s : Nat) (d m : Int) (w : World) (L : List Asn) (h : Hold w (rrA b A :: L)) :
    Calls Try.prog 30 #[.pointer (some ⟨b, 0, none⟩), .int .i64 id, .int .u8 bit, .agg #[.int .u32 s, .int .i64 d, .int .i64 m]] w fun e w' => e = .returned (.tuple #[.int .i64 (childA A id bit s d m).1, .int .i64 (childA A id bit s d m).2.1]) ∧ Hold w' (rrA b (childA A id bit s d m).2.2 :: L) := by
  have hb := (h.box 32 [.int .u32 s, .int .i64 d, .int .i64 m]).arr [1, 0]
  (try dsimp only [Go.Own.front, Go.Own.arrA, Go.Own.atA, Go.Own.dropA, List.length_cons, List.length_nil, Nat.zero_add, Nat.reduceAdd] at hb)
  obtain ⟨q, hq⟩ : ∃ q, w.heap.size = q := ⟨_, rfl⟩
  simp only [hq] at hb
  have hH := fun W L hW => there_ok b A id W L hW
  have hcc := hI.count
  have hln := hI.len
  have HI := Lib.hid hI
  clear h hI
  rcases has_view A id with hv | ⟨i, p, rfl, hp, htk, hv, he⟩
  · have e : childA A id bit s d m = (0, 120, A) := by unfold childA; rw [if_pos hv]
    rw [e]
    rw [hv] at hH
    go_enter Try.func30, Try.ntmps30
    go_upto_region 1 with (fail)
    refine gen_world hb (fun w1 hb => ?_)
    try simp only [hq]
    clear hq HI hv e hcc hln
    have P2 := hH w1 _ hb
    clear hH
    go_wp2_with (first
      | (go_at_call 36; refine P2.mono ?_; rintro e w3 ⟨rfl, rfl⟩))
    go_ret2
    have h5 := (hb.mv 1).drop
    (try dsimp only [Go.Own.front, Go.Own.arrA, Go.Own.atA, Go.Own.dropA, List.length_cons, List.length_nil, Nat.zero_add, Nat.reduceAdd] at h5)
    exact ⟨rfl, h5⟩
  · rw [hv] at hH
    go_enter Try.func30, Try.ntmps30
    go_upto_region 1 with (fail)
    refine gen_world hb (fun w1 hb => ?_)
    try simp only [hq]
    clear hq
    have P2 := hH w1 _ hb
    clear hH
    by_cases hbit : 1 < bit
    · have e : childA A i bit s d m = (0, 10, A) := by unfold childA; rw [if_neg (by rw [hv]; simp), if_pos hbit]
      have hbi : (1 : Int) < (bit : Int) := by omega
      have HE := Lib.hid e
      clear e HI hp htk hv he hcc hln
      go_wp2_with (first
        | (go_at_call 36; refine P2.mono ?_; rintro e w3 ⟨rfl, rfl⟩))
      go_ret2
      have h5 := (hb.mv 1).drop
      (try dsimp only [Go.Own.front, Go.Own.arrA, Go.Own.atA, Go.Own.dropA, List.length_cons, List.length_nil, Nat.zero_add, Nat.reduceAdd] at h5)
      rw [HE.out]
      exact ⟨rfl, h5⟩
    · have hbi : (bit : Int) ≤ 1 := by omega
      have hbi2 : ¬ (1 : Int) < (bit : Int) := by omega
      have hX := hb.drew
      obtain ⟨ao, ac, fo, fc, hS⟩ := ar_open hX
      have g0 : w1.drew.cell? ⟨b, 0, none⟩ = some (.int .i64 A.cap) := hS.cell 0
      have g3 : w1.drew.cell? ⟨b, 3, none⟩ = some (.int .i64 A.taken) := hS.cell 3
      by_cases hf : A.taken = A.cap
      · have e : childA A i bit s d m = (0, 2, A) := by unfold childA; rw [if_neg (by rw [hv]; simp), if_neg hbit, if_pos hf]
        have HE := Lib.hid e
        have hne : ((A.taken : Int) == A.cap) = true := by rw [beq_iff_eq]; omega
        clear e HI hp htk hv he hf hbit hcc hln
        go_upto_region 5 with (first
          | (go_at_call 36; refine P2.mono ?_; rintro e w3 ⟨rfl, rfl⟩))
        refine wp_region_Z (fun W => W.cell? ⟨b, 0, none⟩ = some (.int .i64 A.cap) ∧ W.cell? ⟨b, 3, none⟩ = some (.int .i64 A.taken)) [3, 7] [] [0, 1, 2, 4, 5, 6, 8, 9] [0, 1, 2, 3, 4, 5, 6, 7, 8, 9] (by kernel_rfl) (by kernel_rfl) ?_
        (repeat (first | (refine wpZ_st (v := ?_) _ (by rfl) (by rfl) (by rfl) (fun W hW => ?_) (by exact ⟨g0, g3⟩) ?_; (rotate_left; (focus ((try dsimp only at hW); go_simp; (try with_reducible rfl); done))); try simp only [Act.put, List.getElem_toArray, List.getElem_cons_zero, List.getElem_cons_succ, List.setIfInBounds_toArray, List.set_cons_zero, List.set_cons_succ]) | (refine wpZ_pu (v := ?_) _ (by rfl) (by rfl) (by rfl) (by rfl) (fun W => ?_) ?_; (rotate_left; (focus ((try dsimp only at hW); go_simp; (try with_reducible rfl); done))); try simp only [Act.put, List.getElem_toArray, List.getElem_cons_zero, List.getElem_cons_succ, List.setIfInBounds_toArray, List.set_cons_zero, List.set_cons_succ]) | (refine wpZ_no _ (by rfl) (by rfl) (by rfl) (by rfl) ?_; try simp only [Act.put, List.getElem_toArray, List.getElem_cons_zero, List.getElem_cons_succ, List.setIfInBounds_toArray, List.set_cons_zero, List.set_cons_succ]) | (refine wpZ_noS _ (by rfl) (by rfl) (by rfl) (by exact ⟨g0, g3⟩) ?_; try simp only [Act.put, List.getElem_toArray, List.getElem_cons_zero, List.getElem_cons_succ, List.setIfInBounds_toArray, List.set_cons_zero, List.set_cons_succ])))
        (simp only [wpZ])
        go_wp2
        go_ret2
        have h5 := (hX.mv 1).drop
        (try dsimp only [Go.Own.front, Go.Own.arrA, Go.Own.atA, Go.Own.dropA, List.length_cons, List.length_nil, Nat.zero_add, Nat.reduceAdd] at h5)
        rw [HE.out]
        exact ⟨rfl, h5⟩
      · have e : childA A i bit s d m = ((takeA A (childP i bit s d m)).1, 0, bumpA (takeA A (childP i bit s d m)).2 i) := by unfold childA; rw [if_neg (by rw [hv]; simp), if_neg hbit, if_neg hf]
        have hlt : A.taken < A.cap := by omega
        have hne : ((A.taken : Int) == A.cap) = false := by rw [beq_eq_false_iff_ne]; omega
        have htb := take_bump HI.out hp htk (childP i bit s d m)
        have PT : ∀ W L, Hold W (rrA b (bumpA A i) :: L) → Calls Try.prog 35 #[.pointer (some ⟨b, 0, none⟩), .agg #[.bool true, .int .u32 s, .int .i64 d, .int .i64 m, .int .i64 i, .int .u8 bit, .bool true, .int .i64 0]] W _ := fun W L hW => rtake_ok b (bumpA A i) (HI.out.af.bump i) hlt (childP i bit s d m) W L hW
        rw [htb] at PT
        have HE := Lib.hid e
        have hkd := HI.out.kids i p hp htk
        have hk6 : (p.kids : Int) ≤ 65536 := by have := kids_le A.all i; have := HI.out.cap2; omega
        have W1 : IntKind.i64.wrap ((p.kids : Int) + 1) = (p.kids : Int) + 1 := IntWalk.i64_in _ (by omega)
        have hil : i < A.all.length := (List.getElem?_eq_some_iff.1 hp).1
        have HX : Hid (plA A (i : Int) = p ∧ A.all[i]? = some p) := Lib.hid ⟨he, hp⟩
        have hii : (i : Int) < (A.all.length : Int) := by omega
        clear e HI hp htk hv he hf hbit hkd hlt htb hcc hln
        go_upto_region 5 with (first
          | (go_at_call 36; refine P2.mono ?_; rintro e w3 ⟨rfl, rfl⟩))
        refine wp_region_Z (fun W => W.cell? ⟨b, 0, none⟩ = some (.int .i64 A.cap) ∧ W.cell? ⟨b, 3, none⟩ = some (.int .i64 A.taken)) [3, 7] [] [0, 1, 2, 4, 5, 6, 8, 9] [0, 1, 2, 3, 4, 5, 6, 7, 8, 9] (by kernel_rfl) (by kernel_rfl) ?_
        (repeat (first | (refine wpZ_st (v := ?_) _ (by rfl) (by rfl) (by rfl) (fun W hW => ?_) (by exact ⟨g0, g3⟩) ?_; (rotate_left; (focus ((try dsimp only at hW); go_simp; (try with_reducible rfl); done))); try simp only [Act.put, List.getElem_toArray, List.getElem_cons_zero, List.getElem_cons_succ, List.setIfInBounds_toArray, List.set_cons_zero, List.set_cons_succ]) | (refine wpZ_pu (v := ?_) _ (by rfl) (by rfl) (by rfl) (by rfl) (fun W => ?_) ?_; (rotate_left; (focus ((try dsimp only at hW); go_simp; (try with_reducible rfl); done))); try simp only [Act.put, List.getElem_toArray, List.getElem_cons_zero, List.getElem_cons_succ, List.setIfInBounds_toArray, List.set_cons_zero, List.set_cons_succ]) | (refine wpZ_no _ (by rfl) (by rfl) (by rfl) (by rfl) ?_; try simp only [Act.put, List.getElem_toArray, List.getElem_cons_zero, List.getElem_cons_succ, List.setIfInBounds_toArray, List.set_cons_zero, List.set_cons_succ]) | (refine wpZ_noS _ (by rfl) (by rfl) (by rfl) (by exact ⟨g0, g3⟩) ?_; try simp only [Act.put, List.getElem_toArray, List.getElem_cons_zero, List.getElem_cons_succ, List.setIfInBounds_toArray, List.set_cons_zero, List.set_cons_succ])))
        (simp only [wpZ])
        go_upto_region 7 with (fail)
        refine gen_world hS (fun w4 hS => ?_)
        clear g0 g3 hX hb P2
        obtain ⟨rb, rp, rfl, G⟩ := pl_at rcells8 HX.out.2 rfl (hS.mv 1)
        obtain ⟨g5', f5⟩ := G _ _ (hS.mv 1) 7 (by omega)
        have g5 : w4.cell? ⟨rb, rp + i * 8 + 7, none⟩ = some (.int .i64 p.kids) := g5'
        clear g5'
        have g1 : w4.cell? ⟨b, 1, none⟩ = some (.slice (some ⟨rb, rp, none⟩) A.all.length ac) := hS.cell 1
        have h6 := (hS.mv 1).put (i * 8 + 7) (by omega) (.int .i64 ((p.kids : Int) + 1))
        rw [← Nat.add_assoc] at h6
        have e3 := kid_cells rcells8 HX.out.2 7 (by omega) { p with kids := p.kids + 1 } (.int .i64 ((p.kids : Int) + 1)) rfl
        rw [← e3] at h6
        (try dsimp only [Go.Own.front, Go.Own.arrA, Go.Own.atA, Go.Own.dropA, List.length_cons, List.length_nil, Nat.zero_add, Nat.reduceAdd] at h6)
        have h7 := h6.arr [1, 0, 2]
        (try dsimp only [Go.Own.front, Go.Own.arrA, Go.Own.atA, Go.Own.dropA, List.length_cons, List.length_nil, Nat.zero_add, Nat.reduceAdd] at h7)
        have h8 : Hold (w4.setCell ⟨rb, rp + i * 8 + 7, none⟩ (.int .i64 ((p.kids : Int) + 1))) (rrA b (bumpA A i) :: cellsA q 32 [.int .u32 s, .int .i64 d, .int .i64 m] :: L) := by
          refine ar_close (A := bumpA A i) (ao := some ⟨rb, rp, none⟩) (ac := ac) (fo := fo) (fc := fc) ?_
          unfold bumpA
          rw [HX.out.1]
          simp only [List.length_set, Int.toNat_natCast]
          exact h7.as (by simp only [AR.cells, List.length_set])
        generalize hm2 : A.all.length = m2 at *
        clear G h6 h7 hS e3
        go_upto_region 8 with (fail)
        refine gen_world h8 (fun w5 h8 => ?_)
        clear g5 f5 g1
        have P3 := PT w5 _ h8
        have h3 := h8.mv 1
        (try dsimp only [Go.Own.front, Go.Own.arrA, Go.Own.atA, Go.Own.dropA, List.length_cons, List.length_nil, Nat.zero_add, Nat.reduceAdd] at h3)
        clear PT
        go_wp2_with (first
          | (refine wpList_loadAll_h (by rfl) 32 _ (by rfl) q (by rfl) h3 _ Try.underlying32 (by rfl) (by rw [i32]; rfl) ?_)
          | (go_at_call 35; refine P3.mono ?_; rintro ee w6 ⟨rfl, h4⟩))
        go_ret2
        rw [HE.out]
        have h5 := (h4.mv 1).drop
        (try dsimp only [Go.Own.front, Go.Own.arrA, Go.Own.atA, Go.Own.dropA, List.length_cons, List.length_nil, Nat.zero_add, Nat.reduceAdd] at h5)
        exact ⟨rfl, h5⟩

end Go.Proofs.Ytahhbbcgfhmmgaa
