/- Contracts: the reference's looks. (Printed by genE.py.) -/
import Derived.Test.YtahhbbcgfhmmgaaArD
open Go.RowKit Go.Own
namespace Go.Proofs.Ytahhbbcgfhmmgaa

set_option maxHeartbeats 1000000 in
theorem there_ok (b : Nat) (A : AR) (id : Int) (w : World) (L : List Asn) (h : Hold w (rrA b A :: L)) :
    Calls Try.prog 36 #[.pointer (some ⟨b, 0, none⟩), .int .i64 id] w fun e w' => e = .returned (.bool (hasA A id)) ∧ w = w' := by
  obtain ⟨ao, ac, fo, fc, h1⟩ := ar_open h
  have g1 := h1.cell 1
  simp only [AR.cells, List.getElem?_cons_zero, List.getElem?_cons_succ] at g1
  by_cases hn : 0 ≤ id
  · obtain ⟨i, rfl⟩ := Int.eq_ofNat_of_zero_le hn
    by_cases hl : i < A.all.length
    · have hp : A.all[i]? = some A.all[i] := List.getElem?_eq_getElem hl
      generalize A.all[i] = p at hp
      obtain ⟨rb, rp, rfl, G⟩ := pl_at rcells8 hp rfl (h1.mv 1)
      obtain ⟨g2, -⟩ := G _ _ (h1.mv 1) 0 (by omega)
      simp only [PL.rcells, Nat.add_zero, List.getElem?_cons_zero, List.getElem?_cons_succ] at g2
      rw [has_in hp]
      clear G h1 h hp
      generalize A.all.length = n at *
      have hl2 : (i : Int) < n := by omega
      go_enter Try.func36, Try.ntmps36
      go_wp2
      go_ret
      exact ⟨rfl, rfl⟩
    · rw [has_far (by omega)]
      clear h1 h
      generalize A.all.length = n at *
      have hl2 : ¬ (i : Int) < n := by omega
      go_enter Try.func36, Try.ntmps36
      go_wp2
      go_ret
      exact ⟨rfl, rfl⟩
  · rw [has_neg (by omega)]
    clear h1 h
    go_enter Try.func36, Try.ntmps36
    go_wp2
    go_ret
    exact ⟨rfl, rfl⟩

set_option maxHeartbeats 1000000 in
theorem rnew_good (c : Nat) (h1 : 1 ≤ c) (h2 : c ≤ 65536) (w : World) (L : List Asn) (h : Hold w L) :
    Calls Try.prog 19 #[.int .i64 c] w fun e w' => ∃ b, e = .returned (.tuple #[.pointer (some ⟨b, 0, none⟩), .int .i64 0]) ∧ Hold w' (rrA b (AR.new c) :: L) := by
  have h1' : (1 : Int) ≤ c := by omega
  have h2' : (c : Int) ≤ 65536 := by omega
  obtain ⟨q, hq⟩ : ∃ q, w.heap.size = q := ⟨_, rfl⟩
  have hb := h.box 72 [.int .i64 c, .slice none 0 0, .slice none 0 0, .int .i64 0]
  simp only [hq] at hb
  clear h1 h2
  go_enter Try.func19, Try.ntmps19
  go_wp2
  go_ret2
  refine ⟨q, by simp [hq], ?_⟩
  have := (hb.nilRow 3 1).nilRow 81 8
  have h3 := this.arr [2, 0, 1]
  (try dsimp only [Go.Own.front, Go.Own.arrA, Go.Own.atA, Go.Own.dropA, List.length_cons, List.length_nil, Nat.zero_add, Nat.reduceAdd] at h3)
  exact ar_close (A := AR.new c) (ao := none) (ac := 0) (fo := none) (fc := 0) h3

set_option maxHeartbeats 1000000 in
theorem rnew_bad (c : Int) (hc : ¬ (1 ≤ c ∧ c ≤ 65536)) (w : World) :
    Calls Try.prog 19 #[.int .i64 c] w fun e w' => e = .returned (.tuple #[.pointer none, .int .i64 1]) ∧ w = w' := by
  go_enter Try.func19, Try.ntmps19
  by_cases h1 : c < 1
  · go_wp2
    go_ret2
    exact ⟨rfl, rfl⟩
  · have h2 : 65536 < c := by omega
    go_wp2
    go_ret2
    exact ⟨rfl, rfl⟩

set_option maxHeartbeats 1000000 in
theorem rlen_ok (b : Nat) (A : AR) (w : World) (L : List Asn) (h : Hold w (rrA b A :: L)) :
    Calls Try.prog 40 #[.pointer (some ⟨b, 0, none⟩)] w fun e w' => e = .returned (.int .i64 A.taken) ∧ Hold w' (rrA b A :: L) := by
  obtain ⟨ao, ac, fo, fc, h1⟩ := ar_open h
  have g0 := h1.cell 0
  have g3 := h1.cell 3
  simp only [AR.cells, List.getElem?_cons_zero, List.getElem?_cons_succ] at g0 g3
  clear h1 g0
  go_enter Try.func40, Try.ntmps40
  go_wp2
  go_ret
  exact ⟨rfl, h⟩

set_option maxHeartbeats 1000000 in
theorem rroom_ok (b : Nat) (A : AR) (hc2 : A.cap ≤ 65536) (ht : A.taken ≤ A.cap) (w : World) (L : List Asn) (h : Hold w (rrA b A :: L)) :
    Calls Try.prog 41 #[.pointer (some ⟨b, 0, none⟩)] w fun e w' => e = .returned (.int .i64 ((A.cap : Int) - A.taken)) ∧ Hold w' (rrA b A :: L) := by
  obtain ⟨ao, ac, fo, fc, h1⟩ := ar_open h
  have g0' := h1.cell 0
  have g0 := h1.drew.cell 0
  have g3 := h1.drew.cell 3
  simp only [AR.cells, List.getElem?_cons_zero, List.getElem?_cons_succ] at g0 g3 g0'
  have W1 : IntKind.i64.wrap ((A.cap : Int) - A.taken) = (A.cap : Int) - A.taken := IntWalk.i64_in _ (by omega)
  clear h1 hc2 ht g0'
  go_enter Try.func41, Try.ntmps41
  go_upto_region 1 with (fail)
  refine wp_region_Z (fun W => W.cell? ⟨b, 0, none⟩ = some (.int .i64 A.cap) ∧ W.cell? ⟨b, 3, none⟩ = some (.int .i64 A.taken)) [3, 7] [] [0, 1, 2, 4, 5, 6, 8, 9] [0, 1, 2, 3, 4, 5, 6, 7, 8, 9] (by kernel_rfl) (by kernel_rfl) ?_
  (repeat (first | (refine wpZ_st (v := ?_) _ (by rfl) (by rfl) (by rfl) (fun W hW => ?_) (by exact ⟨g0, g3⟩) ?_; (rotate_left; (focus ((try dsimp only at hW); go_simp; (try with_reducible rfl); done))); try simp only [Act.put, List.getElem_toArray, List.getElem_cons_zero, List.getElem_cons_succ, List.setIfInBounds_toArray, List.set_cons_zero, List.set_cons_succ]) | (refine wpZ_pu (v := ?_) _ (by rfl) (by rfl) (by rfl) (by rfl) (fun W => ?_) ?_; (rotate_left; (focus ((try dsimp only at hW); go_simp; (try with_reducible rfl); done))); try simp only [Act.put, List.getElem_toArray, List.getElem_cons_zero, List.getElem_cons_succ, List.setIfInBounds_toArray, List.set_cons_zero, List.set_cons_succ]) | (refine wpZ_no _ (by rfl) (by rfl) (by rfl) (by rfl) ?_; try simp only [Act.put, List.getElem_toArray, List.getElem_cons_zero, List.getElem_cons_succ, List.setIfInBounds_toArray, List.set_cons_zero, List.set_cons_succ]) | (refine wpZ_noS _ (by rfl) (by rfl) (by rfl) (by exact ⟨g0, g3⟩) ?_; try simp only [Act.put, List.getElem_toArray, List.getElem_cons_zero, List.getElem_cons_succ, List.setIfInBounds_toArray, List.set_cons_zero, List.set_cons_succ])))
  (simp only [wpZ])
  go_wp2
  go_ret
  exact ⟨rfl, h.drew⟩

set_option maxHeartbeats 1000000 in
theorem rkids_ok (b : Nat) (A : AR) (id : Int) (w : World) (L : List Asn) (h : Hold w (rrA b A :: L)) :
    Calls Try.prog 39 #[.pointer (some ⟨b, 0, none⟩), .int .i64 id] w fun e w' => e = .returned (.int .i64 (kidsR A id)) ∧ Hold w' (rrA b A :: L) := by
  obtain ⟨ao, ac, fo, fc, h1⟩ := ar_open h
  have g1 := h1.cell 1
  simp only [AR.cells, List.getElem?_cons_zero, List.getElem?_cons_succ] at g1
  have P1 := there_ok b A id w L h
  rcases has_view A id with hv | ⟨i, p, rfl, hp, ht, hv, he⟩
  · rw [hv] at P1
    have e : kidsR A id = 0 := by simp [kidsR, hv]
    rw [e]
    clear h1 hv e g1
    go_enter Try.func39, Try.ntmps39
    go_wp2_with (first
      | (go_at_call 36; refine P1.mono ?_; rintro e w1 ⟨rfl, rfl⟩))
    go_ret
    exact ⟨rfl, h⟩
  · rw [hv] at P1
    have e : kidsR A (i : Int) = p.kids := by simp [kidsR, hv, he]
    rw [e]
    obtain ⟨rb, rp, rfl, G⟩ := pl_at rcells8 hp rfl (h1.mv 1)
    obtain ⟨g2, -⟩ := G _ _ (h1.mv 1) 7 (by omega)
    simp only [PL.rcells, List.getElem?_cons_zero, List.getElem?_cons_succ] at g2
    have hl2 : i < A.all.length := (List.getElem?_eq_some_iff.1 hp).1
    have hl : (i : Int) < (A.all.length : Int) := by omega
    have H := Lib.hid h
    clear G h1 hp hv e he ht h
    generalize A.all.length = n at *
    go_enter Try.func39, Try.ntmps39
    go_wp2_with (first
      | (go_at_call 36; refine P1.mono ?_; rintro e w1 ⟨rfl, rfl⟩))
    go_ret
    exact ⟨rfl, H.out⟩

set_option maxHeartbeats 1000000 in
theorem rparent_ok (b : Nat) (A : AR) (id : Int) (w : World) (L : List Asn) (h : Hold w (rrA b A :: L)) :
    Calls Try.prog 38 #[.pointer (some ⟨b, 0, none⟩), .int .i64 id] w fun e w' => e = .returned (.tuple #[.int .i64 (parR A id), .bool (parB A id)]) ∧ Hold w' (rrA b A :: L) := by
  obtain ⟨ao, ac, fo, fc, h1⟩ := ar_open h
  have g1 := h1.cell 1
  simp only [AR.cells, List.getElem?_cons_zero, List.getElem?_cons_succ] at g1
  have P1 := there_ok b A id w L h
  rcases has_view A id with hv | ⟨i, p, rfl, hp, ht, hv, he⟩
  · rw [hv] at P1
    have e : parR A id = 0 := by simp [parR, hv]
    have e2 : parB A id = false := by simp [parB, hv]
    rw [e, e2]
    clear h1 hv e e2 g1
    go_enter Try.func38, Try.ntmps38
    go_wp2_with (first
      | (go_at_call 36; refine P1.mono ?_; rintro e w1 ⟨rfl, rfl⟩))
    go_ret2
    exact ⟨rfl, h⟩
  · rw [hv] at P1
    obtain ⟨rb, rp, rfl, G⟩ := pl_at rcells8 hp rfl (h1.mv 1)
    obtain ⟨g2, -⟩ := G _ _ (h1.mv 1) 4 (by omega)
    simp only [PL.rcells, List.getElem?_cons_zero, List.getElem?_cons_succ] at g2
    have hl2 : i < A.all.length := (List.getElem?_eq_some_iff.1 hp).1
    have hl : (i : Int) < (A.all.length : Int) := by omega
    have H := Lib.hid h
    by_cases hn : p.parent < 0
    · have e : parR A (i : Int) = 0 := by simp [parR, hv, he, hn]
      have e2 : parB A (i : Int) = false := by simp [parB, he]; intro; omega
      rw [e, e2]
      clear G h1 hp hv e e2 he ht h
      generalize A.all.length = n at *
      go_enter Try.func38, Try.ntmps38
      go_wp2_with (first
        | (go_at_call 36; refine P1.mono ?_; rintro e w1 ⟨rfl, rfl⟩))
      go_ret2
      exact ⟨rfl, H.out⟩
    · have e : parR A (i : Int) = p.parent := by simp [parR, hv, he, hn]
      have e2 : parB A (i : Int) = true := by simp [parB, hv, he]; omega
      rw [e, e2]
      clear G h1 hp hv e e2 he ht h
      generalize A.all.length = n at *
      go_enter Try.func38, Try.ntmps38
      go_wp2_with (first
        | (go_at_call 36; refine P1.mono ?_; rintro e w1 ⟨rfl, rfl⟩))
      go_ret2
      exact ⟨rfl, H.out⟩

set_option maxHeartbeats 1000000 in
theorem rnode_ok (b : Nat) (A : AR) (id : Int) (w : World) (L : List Asn) (h : Hold w (rrA b A :: L)) :
    Calls Try.prog 37 #[.pointer (some ⟨b, 0, none⟩), .int .i64 id] w fun e w' => e = .returned (.tuple #[.agg (nodeR A id).toArray, .bool (hasA A id)]) ∧ Hold w' (rrA b A :: L) := by
  have hb := h.box 32 PL.zero.node
  have hb1 := hb.arr [1, 0]
  (try dsimp only [Go.Own.front, Go.Own.arrA, Go.Own.atA, Go.Own.dropA, List.length_cons, List.length_nil, Nat.zero_add, Nat.reduceAdd] at hb1)
  obtain ⟨q, hq⟩ : ∃ q, w.heap.size = q := ⟨_, rfl⟩
  simp only [hq] at hb1
  have P1 := fun w L h => there_ok b A id w L h
  rcases has_view A id with hv | ⟨i, p, rfl, hp, ht, hv, he⟩
  · have e : nodeR A id = PL.zero.node := by simp [nodeR, hv]
    rw [hv] at P1 ⊢
    rw [e]
    clear h hv e hb
    go_enter Try.func37, Try.ntmps37
    go_upto_region 1 with (fail)
    refine gen_world hb1 (fun w1 hb1 => ?_)
    have P2 := P1 w1 _ hb1
    clear P1
    have h3 := hb1.mv 1
    (try dsimp only [Go.Own.front, Go.Own.arrA, Go.Own.atA, Go.Own.dropA, List.length_cons, List.length_nil, Nat.zero_add, Nat.reduceAdd] at h3)
    try simp only [hq]
    clear hb1 hq
    go_wp2_with (first
      | (go_at_call 36; refine P2.mono ?_; rintro e w2 ⟨rfl, rfl⟩)
      | (refine wpList_storeAll_h (by rfl) 32 _ _ (by rfl) q (by rfl) PL.zero.node (by rfl) h3 (by rfl) (by rw [i32]; rfl) (by simp [PL.node, Value.oneCell']) (fun w4 h4 => ?_)))
    exact bodyPost_ret (v := .tuple #[.agg PL.zero.node.toArray, .bool false]) (res_cell_tmp (h4.loadVarAll 32 _ Try.underlying32 (by rfl) (by rw [i32]; rfl)) (by rfl) (by rfl) (by rfl)) rfl ⟨rfl, h4.drop⟩
  · have e : nodeR A (i : Int) = p.node := by simp [nodeR, hv, he]
    rw [hv] at P1 ⊢
    rw [e]
    clear h hv e hb he ht
    go_enter Try.func37, Try.ntmps37
    go_upto_region 1 with (fail)
    refine gen_world hb1 (fun w1 hb1 => ?_)
    try simp only [hq]
    have P2 := P1 w1 _ hb1
    clear P1 hq
    obtain ⟨ao, ac, fo, fc, h1⟩ := ar_open hb1
    have g1 := h1.cell 1
    simp only [AR.cells, List.getElem?_cons_zero, List.getElem?_cons_succ] at g1
    have hl2 : i < A.all.length := (List.getElem?_eq_some_iff.1 hp).1
    have hl : (i : Int) < (A.all.length : Int) := by omega
    obtain ⟨rb, rp, rfl, -⟩ := pl_at rcells8 hp rfl (h1.mv 1)
    have hR : w1.rangeAt rb (rp + i * 8 + 1) [.int .u32 p.st, .int .i64 p.depth, .int .i64 p.metric] := by
      refine (h1.mv 1).rangeRow (i * 8 + 1) p.node ?_ (by simp [PL.node]; omega) (by simp [PL.node])
      refine List.ext_getElem? fun k => ?_
      rw [List.getElem?_take, List.getElem?_drop]
      by_cases hk : k < 3
      · rw [if_pos (by simpa [PL.node] using hk), Nat.add_assoc, flat_get _ rcells8 _ i p hp (1 + k) (by omega)]
        obtain rfl | rfl | rfl : k = 0 ∨ k = 1 ∨ k = 2 := by omega
        all_goals rfl
      · rw [if_neg (by simpa [PL.node] using hk), List.getElem?_eq_none (by simp [PL.node]; omega)]
    have h3 := hb1.mv 1
    (try dsimp only [Go.Own.front, Go.Own.arrA, Go.Own.atA, Go.Own.dropA, List.length_cons, List.length_nil, Nat.zero_add, Nat.reduceAdd] at h3)
    clear h1 hb1 hp
    generalize A.all.length = n at *
    go_wp2_with (first
      | (go_at_call 36; refine P2.mono ?_; rintro e w2 ⟨rfl, rfl⟩)
      | ((with_reducible refine wpList_yw (o := ⟨some 18, _, _, _, _, _⟩) (v := .agg #[.int .u32 p.st, .int .i64 p.depth, .int .i64 p.metric]) ?_ ?_ ?_); (focus rfl); (focus exact exec_load32 (by rfl) (by rfl) hR))
      | (refine wpList_storeAll_h (by rfl) 32 _ _ (by rfl) q (by rfl) p.node (by rfl) h3 (by rfl) (by rw [i32]; rfl) (by simp [PL.node, Value.oneCell']) (fun w4 h4 => ?_)))
    exact bodyPost_ret (v := .tuple #[.agg p.node.toArray, .bool true]) (res_cell_tmp (h4.loadVarAll 32 _ Try.underlying32 (by rfl) (by rw [i32]; rfl)) (by rfl) (by rfl) (by rfl)) rfl ⟨rfl, h4.drop⟩

end Go.Proofs.Ytahhbbcgfhmmgaa
