/- Contracts: Len, Room, Kids, Parent, Node. -/
import Derived.Test.YtahhbbcgfhmmgaaArC
open Go.RowKit Go.Own
namespace Go.Proofs.Ytahhbbcgfhmmgaa

def plA (A : AR) (id : Int) : PL := (A.all[id.toNat]?).getD PL.zero
def kidsR (A : AR) (id : Int) : Nat := if hasA A id then (plA A id).kids else 0
def parR (A : AR) (id : Int) : Int := if hasA A id then (if (plA A id).parent < 0 then 0 else (plA A id).parent) else 0
def parB (A : AR) (id : Int) : Bool := hasA A id && decide (0 ≤ (plA A id).parent)
def PL.node (p : PL) : List Value := [.int .u32 p.st, .int .i64 p.depth, .int .i64 p.metric]
def nodeR (A : AR) (id : Int) : List Value := if hasA A id then (plA A id).node else PL.zero.node
theorem plA_in {A : AR} {i : Nat} {p : PL} (h : A.all[i]? = some p) : plA A (i : Int) = p := by simp [plA, h]

/-- Of a number: it has no place, or a taken one. -/
theorem has_view (A : AR) (id : Int) : hasA A id = false ∨ ∃ (i : Nat) (p : PL), id = i ∧ A.all[i]? = some p ∧ p.taken = true ∧ hasA A id = true ∧ plA A id = p := by
  cases h : hasA A id with
  | false => exact .inl rfl
  | true =>
    obtain ⟨i, p, rfl, h1, h2⟩ := has_yes h
    exact .inr ⟨i, p, rfl, h1, h2, rfl, plA_in h1⟩

theorem i32 : (Try.prog.info? 32).map (·.size) = some 3 := by kernel_rfl
theorem exec_load32 {ev : Operand → Value} {o : Oper} {x : Operand} (ho : o.op = .load 32 x) {b q : Nat} (hx : ev x = .pointer (some ⟨b, q, none⟩)) {v0 v1 v2 : Value} {W : World} (h : W.rangeAt b q [v0, v1, v2]) : (execOp ev o).run Try.prog W = .ok (.value (.agg #[v0, v1, v2])) W := by
  have := run_loadAt_mid (P := Try.prog) W b q 32 [v0, v1, v2] _ h Try.underlying32 rfl (by rw [i32]; rfl)
  unfold execOp
  simp only [ho, hx, Sem.run_bind, this, Result.andThen_ok, Sem.run_pure]

set_option maxHeartbeats 1000000 in
theorem len_ok (b : Nat) (A : AR) (hc : 1 ≤ A.cap) (w : World) (L : List Asn) (h : Hold w (arA b A :: L)) :
    Calls Try.prog 13 #[.pointer (some ⟨b, 0, none⟩)] w fun e w' => e = .returned (.int .i64 A.taken) ∧ Hold w' (arA b A :: L) := by
  obtain ⟨ao, ac, fo, fc, h1⟩ := ar_open h
  have g0 := h1.cell 0
  have g3 := h1.cell 3
  simp only [AR.cells, List.getElem?_cons_zero, List.getElem?_cons_succ] at g0 g3
  have P1 := none_ok b A.cap (by omega) w g0
  clear h1 g0 hc
  go_enter Try.func13, Try.ntmps13
  go_wp2_with (first
    | (go_at_call 24; refine P1.mono ?_; rintro e w1 ⟨rfl, rfl⟩))
  go_ret
  exact ⟨rfl, h⟩

set_option maxHeartbeats 1000000 in
theorem room_ok (b : Nat) (A : AR) (hc : 1 ≤ A.cap) (hc2 : A.cap ≤ 65536) (ht : A.taken ≤ A.cap) (w : World) (L : List Asn) (h : Hold w (arA b A :: L)) :
    Calls Try.prog 14 #[.pointer (some ⟨b, 0, none⟩)] w fun e w' => e = .returned (.int .i64 ((A.cap : Int) - A.taken)) ∧ Hold w' (arA b A :: L) := by
  obtain ⟨ao, ac, fo, fc, h1⟩ := ar_open h
  have g0' := h1.cell 0
  have g0 := h1.drew.cell 0
  have g3 := h1.drew.cell 3
  simp only [AR.cells, List.getElem?_cons_zero, List.getElem?_cons_succ] at g0 g3 g0'
  have P1 := none_ok b A.cap (by omega) w g0'
  have W1 : IntKind.i64.wrap ((A.cap : Int) - A.taken) = (A.cap : Int) - A.taken := IntWalk.i64_in _ (by omega)
  clear h1 hc hc2 ht g0'
  go_enter Try.func14, Try.ntmps14
  go_upto_region 3 with (first
    | (go_at_call 24; refine P1.mono ?_; rintro e w1 ⟨rfl, rfl⟩))
  refine wp_region_Z (fun W => W.cell? ⟨b, 0, none⟩ = some (.int .i64 A.cap) ∧ W.cell? ⟨b, 3, none⟩ = some (.int .i64 A.taken)) [3, 7] [] [0, 1, 2, 4, 5, 6, 8, 9] [0, 1, 2, 3, 4, 5, 6, 7, 8, 9] (by kernel_rfl) (by kernel_rfl) ?_
  (repeat (first | (refine wpZ_st (v := ?_) _ (by rfl) (by rfl) (by rfl) (fun W hW => ?_) (by exact ⟨g0, g3⟩) ?_; (rotate_left; (focus ((try dsimp only at hW); go_simp; (try with_reducible rfl); done))); try simp only [Act.put, List.getElem_toArray, List.getElem_cons_zero, List.getElem_cons_succ, List.setIfInBounds_toArray, List.set_cons_zero, List.set_cons_succ]) | (refine wpZ_pu (v := ?_) _ (by rfl) (by rfl) (by rfl) (by rfl) (fun W => ?_) ?_; (rotate_left; (focus ((try dsimp only at hW); go_simp; (try with_reducible rfl); done))); try simp only [Act.put, List.getElem_toArray, List.getElem_cons_zero, List.getElem_cons_succ, List.setIfInBounds_toArray, List.set_cons_zero, List.set_cons_succ]) | (refine wpZ_no _ (by rfl) (by rfl) (by rfl) (by rfl) ?_; try simp only [Act.put, List.getElem_toArray, List.getElem_cons_zero, List.getElem_cons_succ, List.setIfInBounds_toArray, List.set_cons_zero, List.set_cons_succ]) | (refine wpZ_noS _ (by rfl) (by rfl) (by rfl) (by exact ⟨g0, g3⟩) ?_; try simp only [Act.put, List.getElem_toArray, List.getElem_cons_zero, List.getElem_cons_succ, List.setIfInBounds_toArray, List.set_cons_zero, List.set_cons_succ])))
  (simp only [wpZ])
  go_wp2
  go_ret
  exact ⟨rfl, h.drew⟩

set_option maxHeartbeats 1000000 in
theorem kids_ok (b : Nat) (A : AR) (hc : 1 ≤ A.cap) (id : Int) (w : World) (L : List Asn) (h : Hold w (arA b A :: L)) :
    Calls Try.prog 34 #[.pointer (some ⟨b, 0, none⟩), .int .i64 id] w fun e w' => e = .returned (.int .i64 (kidsR A id)) ∧ Hold w' (arA b A :: L) := by
  obtain ⟨ao, ac, fo, fc, h1⟩ := ar_open h
  have g1 := h1.cell 1
  simp only [AR.cells, List.getElem?_cons_zero, List.getElem?_cons_succ] at g1
  have P1 := has_ok b A hc id w L h
  rcases has_view A id with hv | ⟨i, p, rfl, hp, ht, hv, he⟩
  · rw [hv] at P1
    have e : kidsR A id = 0 := by simp [kidsR, hv]
    rw [e]
    clear h1 hv e hc g1
    go_enter Try.func34, Try.ntmps34
    go_wp2_with (first
      | (go_at_call 26; refine P1.mono ?_; rintro e w1 ⟨rfl, rfl⟩))
    go_ret
    exact ⟨rfl, h⟩
  · rw [hv] at P1
    have e : kidsR A (i : Int) = p.kids := by simp [kidsR, hv, he]
    rw [e]
    obtain ⟨rb, rp, rfl, G⟩ := pl_at cells8 hp rfl (h1.mv 1)
    obtain ⟨g2, -⟩ := G _ _ (h1.mv 1) 5 (by omega)
    simp only [PL.cells, List.getElem?_cons_zero, List.getElem?_cons_succ] at g2
    have hl2 : i < A.all.length := (List.getElem?_eq_some_iff.1 hp).1
    have hl : (i : Int) < (A.all.length : Int) := by omega
    have H := Lib.hid h
    clear G h1 hp hv e he ht hc h
    generalize A.all.length = n at *
    go_enter Try.func34, Try.ntmps34
    go_wp2_with (first
      | (go_at_call 26; refine P1.mono ?_; rintro e w1 ⟨rfl, rfl⟩))
    go_ret
    exact ⟨rfl, H.out⟩

set_option maxHeartbeats 1000000 in
theorem parent_ok (b : Nat) (A : AR) (hc : 1 ≤ A.cap) (id : Int) (w : World) (L : List Asn) (h : Hold w (arA b A :: L)) :
    Calls Try.prog 28 #[.pointer (some ⟨b, 0, none⟩), .int .i64 id] w fun e w' => e = .returned (.tuple #[.int .i64 (parR A id), .bool (parB A id)]) ∧ Hold w' (arA b A :: L) := by
  obtain ⟨ao, ac, fo, fc, h1⟩ := ar_open h
  have g1 := h1.cell 1
  simp only [AR.cells, List.getElem?_cons_zero, List.getElem?_cons_succ] at g1
  have P1 := has_ok b A hc id w L h
  rcases has_view A id with hv | ⟨i, p, rfl, hp, ht, hv, he⟩
  · rw [hv] at P1
    have e : parR A id = 0 := by simp [parR, hv]
    have e2 : parB A id = false := by simp [parB, hv]
    rw [e, e2]
    clear h1 hv e e2 hc g1
    go_enter Try.func28, Try.ntmps28
    go_wp2_with (first
      | (go_at_call 26; refine P1.mono ?_; rintro e w1 ⟨rfl, rfl⟩))
    go_ret2
    exact ⟨rfl, h⟩
  · rw [hv] at P1
    obtain ⟨rb, rp, rfl, G⟩ := pl_at cells8 hp rfl (h1.mv 1)
    obtain ⟨g2, -⟩ := G _ _ (h1.mv 1) 3 (by omega)
    simp only [PL.cells, List.getElem?_cons_zero, List.getElem?_cons_succ] at g2
    have hl2 : i < A.all.length := (List.getElem?_eq_some_iff.1 hp).1
    have hl : (i : Int) < (A.all.length : Int) := by omega
    have H := Lib.hid h
    by_cases hn : p.parent < 0
    · have e : parR A (i : Int) = 0 := by simp [parR, hv, he, hn]
      have e2 : parB A (i : Int) = false := by simp [parB, he]; intro; omega
      rw [e, e2]
      clear G h1 hp hv e e2 he ht hc h
      generalize A.all.length = n at *
      go_enter Try.func28, Try.ntmps28
      go_wp2_with (first
        | (go_at_call 26; refine P1.mono ?_; rintro e w1 ⟨rfl, rfl⟩))
      go_ret2
      exact ⟨rfl, H.out⟩
    · have e : parR A (i : Int) = p.parent := by simp [parR, hv, he, hn]
      have e2 : parB A (i : Int) = true := by simp [parB, hv, he]; omega
      rw [e, e2]
      clear G h1 hp hv e e2 he ht hc h
      generalize A.all.length = n at *
      go_enter Try.func28, Try.ntmps28
      go_wp2_with (first
        | (go_at_call 26; refine P1.mono ?_; rintro e w1 ⟨rfl, rfl⟩))
      go_ret2
      exact ⟨rfl, H.out⟩

set_option maxHeartbeats 1000000 in
theorem node_ok (b : Nat) (A : AR) (hc : 1 ≤ A.cap) (id : Int) (w : World) (L : List Asn) (h : Hold w (arA b A :: L)) :
    Calls Try.prog 27 #[.pointer (some ⟨b, 0, none⟩), .int .i64 id] w fun e w' => e = .returned (.tuple #[.agg (nodeR A id).toArray, .bool (hasA A id)]) ∧ Hold w' (arA b A :: L) := by
  have hb := h.box 32 PL.zero.node
  have hb1 := hb.arr [1, 0]
  (try dsimp only [Go.Own.front, Go.Own.arrA, Go.Own.atA, Go.Own.dropA, List.length_cons, List.length_nil, Nat.zero_add, Nat.reduceAdd] at hb1)
  obtain ⟨q, hq⟩ : ∃ q, w.heap.size = q := ⟨_, rfl⟩
  simp only [hq] at hb1
  have P1 := fun w L h => has_ok b A hc id w L h
  rcases has_view A id with hv | ⟨i, p, rfl, hp, ht, hv, he⟩
  · have e : nodeR A id = PL.zero.node := by simp [nodeR, hv]
    rw [hv] at P1 ⊢
    rw [e]
    clear h hv e hc hb
    go_enter Try.func27, Try.ntmps27
    go_upto_region 1 with (fail)
    refine gen_world hb1 (fun w1 hb1 => ?_)
    have P2 := P1 w1 _ hb1
    clear P1
    have h3 := hb1.mv 1
    (try dsimp only [Go.Own.front, Go.Own.arrA, Go.Own.atA, Go.Own.dropA, List.length_cons, List.length_nil, Nat.zero_add, Nat.reduceAdd] at h3)
    try simp only [hq]
    clear hb1 hq
    go_wp2_with (first
      | (go_at_call 26; refine P2.mono ?_; rintro e w2 ⟨rfl, rfl⟩)
      | (refine wpList_storeAll_h (by rfl) 32 _ _ (by rfl) q (by rfl) PL.zero.node (by rfl) h3 (by rfl) (by rw [i32]; rfl) (by simp [PL.node, Value.oneCell']) (fun w4 h4 => ?_)))
    exact bodyPost_ret (v := .tuple #[.agg PL.zero.node.toArray, .bool false]) (res_cell_tmp (h4.loadVarAll 32 _ Try.underlying32 (by rfl) (by rw [i32]; rfl)) (by rfl) (by rfl) (by rfl)) rfl ⟨rfl, h4.drop⟩
  · have e : nodeR A (i : Int) = p.node := by simp [nodeR, hv, he]
    rw [hv] at P1 ⊢
    rw [e]
    clear h hv e hc hb he ht
    go_enter Try.func27, Try.ntmps27
    go_upto_region 1 with (fail)
    refine gen_world hb1 (fun w1 hb1 => ?_)
    try simp only [hq]
    have P2 := P1 w1 _ hb1
    clear P1 hq
    obtain ⟨ao, ac, fo, fc, h1⟩ := ar_open hb1
    have g1 := h1.cell 1
    simp only [AR.cells, List.getElem?_cons_zero, List.getElem?_cons_succ] at g1
    have hl2 : i < A.all.length := (List.getElem?_eq_some_iff.1 hp).1
    have hl : (i : Int) < (A.all.length : Int) := by omega
    obtain ⟨rb, rp, rfl, -⟩ := pl_at cells8 hp rfl (h1.mv 1)
    have hR : w1.rangeAt rb (rp + i * 8) [.int .u32 p.st, .int .i64 p.depth, .int .i64 p.metric] := by
      refine (h1.mv 1).rangeRow (i * 8) p.node ?_ (by simp [PL.node]; omega) (by simp [PL.node])
      refine List.ext_getElem? fun k => ?_
      rw [List.getElem?_take, List.getElem?_drop]
      by_cases hk : k < 3
      · rw [if_pos (by simpa [PL.node] using hk), flat_get _ cells8 _ i p hp k (by omega)]
        obtain rfl | rfl | rfl : k = 0 ∨ k = 1 ∨ k = 2 := by omega
        all_goals rfl
      · rw [if_neg (by simpa [PL.node] using hk), List.getElem?_eq_none (by simp [PL.node]; omega)]
    have h3 := hb1.mv 1
    (try dsimp only [Go.Own.front, Go.Own.arrA, Go.Own.atA, Go.Own.dropA, List.length_cons, List.length_nil, Nat.zero_add, Nat.reduceAdd] at h3)
    clear h1 hb1 hp
    generalize A.all.length = n at *
    go_wp2_with (first
      | (go_at_call 26; refine P2.mono ?_; rintro e w2 ⟨rfl, rfl⟩)
      | ((with_reducible refine wpList_yw (o := ⟨some 18, _, _, _, _, _⟩) (v := .agg #[.int .u32 p.st, .int .i64 p.depth, .int .i64 p.metric]) ?_ ?_ ?_); (focus rfl); (focus exact exec_load32 (by rfl) (by rfl) hR))
      | (refine wpList_storeAll_h (by rfl) 32 _ _ (by rfl) q (by rfl) p.node (by rfl) h3 (by rfl) (by rw [i32]; rfl) (by simp [PL.node, Value.oneCell']) (fun w4 h4 => ?_)))
    exact bodyPost_ret (v := .tuple #[.agg p.node.toArray, .bool true]) (res_cell_tmp (h4.loadVarAll 32 _ Try.underlying32 (by rfl) (by rw [i32]; rfl)) (by rfl) (by rfl) (by rfl)) rfl ⟨rfl, h4.drop⟩

end Go.Proofs.Ytahhbbcgfhmmgaa
