/- Contracts: the reference's Send. -/
import Derived.Test.YtjnjbmkkfkdhcaaSeU
open Go.RowKit Go.Own
namespace Go.Proofs.Ytjnjbmkkfkdhcaa

theorem rows_more {w : World} {go : Option Addr} {gc : Nat} {G : List (List UInt8)} {vs : List (Option Addr × Nat)} {a1 : Option Addr} {c1 : Nat} {x : List UInt8} {L : List Asn} (hl : vs.length = G.length)
    (h : Hold w (rowA 32 1 go (G.length + 1) gc (sl G vs ++ [.slice a1 x.length c1]) :: starL (rws G vs) :: rowA 5 1 a1 x.length c1 (ub x) :: L)) : Hold w (rowsA go gc (G ++ [x]) :: L) := by
  have h1 := h.arr [2, 1, 0]
  (try dsimp only [Go.Own.front, Go.Own.arrA, Go.Own.atA, Go.Own.dropA, List.length_cons, List.length_nil, Nat.zero_add, Nat.reduceAdd] at h1)
  have h2 := h1.addL.swap
  have e1 := sl_append G [x] vs [(a1, c1)] hl
  have e2 := rws_append G [x] vs [(a1, c1)] hl
  have e3 : sl [x] [(a1, c1)] = [.slice a1 x.length c1] := rfl
  have e4 : rws [x] [(a1, c1)] = [rowA 5 1 a1 x.length c1 (ub x)] := rfl
  rw [e3] at e1
  rw [e4] at e2
  rw [← e1, ← e2] at h2
  have e5 : G.length + 1 = (G ++ [x]).length := by simp
  rw [e5] at h2
  exact rows_close (by simp [hl]) h2

theorem send_cases {S : SS} (hll : S.L.length ≤ S.store) {n : Nat} (he : sendE S n = 0) : n ≤ 64 ∧ S.fin ≠ 4294967295 ∧ S.L.length < S.store := by
  unfold sendE at he
  split at he
  · omega
  · split at he
    · omega
    · split at he
      · omega
      · exact ⟨by omega, by omega, by omega⟩

set_option maxHeartbeats 1000000 in
set_option maxRecDepth 20000 in
theorem rsend_good (b : Nat) (S : SS) (F : Nat) (G : List (List UInt8)) (hK : KI F S G) (x : List UInt8) (C : Asn) (ao : Option Addr) (cap : Nat) (hR : Reads C 1 (.slice ao x.length cap) x.length (ub x)) (he : sendE S x.length = 0) (w : World) (L : List Asn) (h : Hold w (rfA b S F G :: C :: L)) :
    Calls Try.prog 30 #[.pointer (some ⟨b, 0, none⟩), .slice ao x.length cap] w fun e w' => e = .returned (.tuple #[.int .u32 S.fin, .int .i64 0]) ∧ Hold w' (rfA b (addS S x) F (G ++ [x]) :: C :: L) := by
  obtain ⟨i5, hi, hz0, hz1, hz2⟩ := info_parts info5
  obtain ⟨i32, hi', hy0, hy1, hy2⟩ := info_parts info32
  obtain ⟨hx64, hf1, hf2⟩ := send_cases hK.si.ll he
  obtain ⟨ro, rc, h1⟩ := rf_open h
  have hfb := hK.si.fin
  have hmx := hK.si.max
  have hGf := hK.fin
  have hst := hK.si.s256
  obtain ⟨E, hE⟩ : ∃ E : Int, (S.fin : Int) = E := ⟨_, rfl⟩
  have PR := fun w L h => rend_cells b S F G hK ro rc w L h
  have PR2 := fun ro rc w L h => rend_cells b (addS S x) F (G ++ [x]) (hK.add he) ro rc w L h
  have eF : ((addS S x).fin : Int) = E + 1 := by show ((S.fin + 1 : Nat) : Int) = _; omega
  simp only [eF] at PR2
  simp only [hE] at PR ⊢
  have hki : (x.length : Int) ≤ 64 := by omega
  have hne : (E == 4294967295) = false := by rw [beq_eq_false_iff_ne]; omega
  have W1 : IntKind.u64.wrap (E - S.base) = S.L.length := by rw [show E - (S.base : Int) = S.L.length by omega]; exact IntWalk.u64_in _ (by omega)
  have W2 : IntKind.u64.wrap (S.store : Int) = S.store := IntWalk.u64_in _ (by omega)
  have W3 : IntKind.u64.wrap (E + 1 - 1) = E := by rw [show E + 1 - 1 = E by omega]; exact IntWalk.u64_in _ (by omega)
  have W4 : IntKind.u32.wrap E = E := IntWalk.u32_in _ (by omega)
  have W5 : IntKind.u64.wrap E = E := IntWalk.u64_in _ (by omega)
  have W6 : E % 4294967296 = E := by omega
  have hd1 : decide (S.store ≤ S.L.length) = false := by simp; omega
  have HG9 : Hid (G.length ≤ 4294967295) := Lib.hid (by omega)
  have HU := Lib.hid (ub_one x)
  have HX := Lib.hid hx64
  have HRd := Lib.hid hR
  clear hfb hmx hGf hst hE hf1 hf2 hx64 he hK eF h hR
  go_enter Try.func30, Try.ntmps30
  go_upto_region 5 with (go_at_call 33; refine (PR _ _ h1).mono ?_; rintro e w1 ⟨rfl, rfl⟩)
  have h2 := h1.drew.drew
  have h3 := h2.drew
  obtain ⟨-, g1, -, -, -, g5, -, -, -⟩ := rfM h2
  obtain ⟨-, k1, -, -, -, k5, -, -, -⟩ := rfM h3
  refine wp_region_Z (fun W => W.cell? ⟨b, 5, none⟩ = some (.int .u64 S.base) ∧ W.cell? ⟨b, 1, none⟩ = some (.int .i64 S.store)) [5, 10, 11] [] [0, 2, 3, 4, 6, 7, 8, 9, 12, 13] [0, 2, 3, 4, 5, 7, 8, 9, 10, 11, 1, 6, 12, 13] (by kernel_rfl) (by kernel_rfl) ?_
  (repeat (first | (refine wpZ_st (v := ?_) _ (by rfl) (by rfl) (by rfl) (fun W hW => ?_) (by exact ⟨g5, g1⟩) ?_; (rotate_left; (focus ((try dsimp only at hW); go_simp; (try with_reducible rfl); done))); try simp only [Act.put, List.getElem_toArray, List.getElem_cons_zero, List.getElem_cons_succ, List.setIfInBounds_toArray, List.set_cons_zero, List.set_cons_succ]) | (refine wpZ_pu (v := ?_) _ (by rfl) (by rfl) (by rfl) (by rfl) (fun W => ?_) ?_; (rotate_left; (focus ((try dsimp only at hW); go_simp; (try with_reducible rfl); done))); try simp only [Act.put, List.getElem_toArray, List.getElem_cons_zero, List.getElem_cons_succ, List.setIfInBounds_toArray, List.set_cons_zero, List.set_cons_succ]) | (refine wpZ_no _ (by rfl) (by rfl) (by rfl) (by rfl) ?_; try simp only [Act.put, List.getElem_toArray, List.getElem_cons_zero, List.getElem_cons_succ, List.setIfInBounds_toArray, List.set_cons_zero, List.set_cons_succ]) | (refine wpZ_noS _ (by rfl) (by rfl) (by rfl) (by exact ⟨g5, g1⟩) ?_; try simp only [Act.put, List.getElem_toArray, List.getElem_cons_zero, List.getElem_cons_succ, List.setIfInBounds_toArray, List.set_cons_zero, List.set_cons_succ])))
  refine wpZ_eff _ (by rfl) (by rfl) (by rfl) (by rfl) (fun K hK => ?_)
  go_simp
  refine (PR _ _ h2).mono ?_
  rintro e w1 ⟨rfl, rfl⟩
  dsimp only
  (refine hK _ _ (fun hl => ?_) ?_; (first | (focus (cases hl; done)) | exact ⟨k5, k1⟩); clear hK K; try simp only [Act.put, List.getElem_toArray, List.getElem_cons_zero, List.getElem_cons_succ, List.setIfInBounds_toArray, List.set_cons_zero, List.set_cons_succ])
  (repeat (first | (refine wpZ_st (v := ?_) _ (by rfl) (by rfl) (by rfl) (fun W hW => ?_) (by exact ⟨k5, k1⟩) ?_; (rotate_left; (focus ((try dsimp only at hW); go_simp; (try with_reducible rfl); done))); try simp only [Act.put, List.getElem_toArray, List.getElem_cons_zero, List.getElem_cons_succ, List.setIfInBounds_toArray, List.set_cons_zero, List.set_cons_succ]) | (refine wpZ_pu (v := ?_) _ (by rfl) (by rfl) (by rfl) (by rfl) (fun W => ?_) ?_; (rotate_left; (focus ((try dsimp only at hW); go_simp; (try with_reducible rfl); done))); try simp only [Act.put, List.getElem_toArray, List.getElem_cons_zero, List.getElem_cons_succ, List.setIfInBounds_toArray, List.set_cons_zero, List.set_cons_succ]) | (refine wpZ_no _ (by rfl) (by rfl) (by rfl) (by rfl) ?_; try simp only [Act.put, List.getElem_toArray, List.getElem_cons_zero, List.getElem_cons_succ, List.setIfInBounds_toArray, List.set_cons_zero, List.set_cons_succ]) | (refine wpZ_noS _ (by rfl) (by rfl) (by rfl) (by exact ⟨k5, k1⟩) ?_; try simp only [Act.put, List.getElem_toArray, List.getElem_cons_zero, List.getElem_cons_succ, List.setIfInBounds_toArray, List.set_cons_zero, List.set_cons_succ])))
  (simp only [wpZ])
  clear g1 g5 k1 k5 PR
  go_upto_region 7 with (fail)
  refine gen_world h3 (fun w1 h3 => ?_)
  clear h1 h2
  have h4 := h3.drew
  have g4 : w1.drew.cell? ⟨b, 4, none⟩ = some (.slice ro G.length rc) := h4.cell 4
  obtain ⟨SR, r0⟩ := (h4.mv 2).reads HRd.out
  refine wp_region_Z (fun W => W.cell? ⟨b, 4, none⟩ = some (.slice ro G.length rc)) [4] [9, 12] [0, 1, 2, 3, 6, 10, 11] [0, 1, 2, 3, 4, 6, 5, 7, 8, 9, 10, 11, 12] (by kernel_rfl) (by kernel_rfl) ?_
  (repeat (first | (refine wpZ_st (v := ?_) _ (by rfl) (by rfl) (by rfl) (fun W hW => ?_) (by exact g4) ?_; (rotate_left; (focus ((try dsimp only at hW); go_simp; (try with_reducible rfl); done))); try simp only [Act.put, List.getElem_toArray, List.getElem_cons_zero, List.getElem_cons_succ, List.setIfInBounds_toArray, List.set_cons_zero, List.set_cons_succ]) | (refine wpZ_pu (v := ?_) _ (by rfl) (by rfl) (by rfl) (by rfl) (fun W => ?_) ?_; (rotate_left; (focus ((try dsimp only at hW); go_simp; (try with_reducible rfl); done))); try simp only [Act.put, List.getElem_toArray, List.getElem_cons_zero, List.getElem_cons_succ, List.setIfInBounds_toArray, List.set_cons_zero, List.set_cons_succ]) | (refine wpZ_no _ (by rfl) (by rfl) (by rfl) (by rfl) ?_; try simp only [Act.put, List.getElem_toArray, List.getElem_cons_zero, List.getElem_cons_succ, List.setIfInBounds_toArray, List.set_cons_zero, List.set_cons_succ]) | (refine wpZ_noS _ (by rfl) (by rfl) (by rfl) (by exact g4) ?_; try simp only [Act.put, List.getElem_toArray, List.getElem_cons_zero, List.getElem_cons_succ, List.setIfInBounds_toArray, List.set_cons_zero, List.set_cons_succ])))
  (refine wpZ_eff _ (by rfl) (by rfl) (by rfl) (by rfl) (fun K hK => ?_); go_simp; refine hK _ _ (fun hl => ?_) ?_; (first | (focus (cases hl; done)) | exact (h4.junk (.cells #[] 5)).cell 4); clear hK K; try simp only [Act.put, List.getElem_toArray, List.getElem_cons_zero, List.getElem_cons_succ, List.setIfInBounds_toArray, List.set_cons_zero, List.set_cons_succ])
  (repeat (first | (refine wpZ_st (v := ?_) _ (by rfl) (by rfl) (by rfl) (fun W hW => ?_) (by exact (h4.junk (.cells #[] 5)).cell 4) ?_; (rotate_left; (focus ((try dsimp only at hW); go_simp; (try with_reducible rfl); done))); try simp only [Act.put, List.getElem_toArray, List.getElem_cons_zero, List.getElem_cons_succ, List.setIfInBounds_toArray, List.set_cons_zero, List.set_cons_succ]) | (refine wpZ_pu (v := ?_) _ (by rfl) (by rfl) (by rfl) (by rfl) (fun W => ?_) ?_; (rotate_left; (focus ((try dsimp only at hW); go_simp; (try with_reducible rfl); done))); try simp only [Act.put, List.getElem_toArray, List.getElem_cons_zero, List.getElem_cons_succ, List.setIfInBounds_toArray, List.set_cons_zero, List.set_cons_succ]) | (refine wpZ_no _ (by rfl) (by rfl) (by rfl) (by rfl) ?_; try simp only [Act.put, List.getElem_toArray, List.getElem_cons_zero, List.getElem_cons_succ, List.setIfInBounds_toArray, List.set_cons_zero, List.set_cons_succ]) | (refine wpZ_noS _ (by rfl) (by rfl) (by rfl) (by exact (h4.junk (.cells #[] 5)).cell 4) ?_; try simp only [Act.put, List.getElem_toArray, List.getElem_cons_zero, List.getElem_cons_succ, List.setIfInBounds_toArray, List.set_cons_zero, List.set_cons_succ])))
  refine wpZ_eff _ (by rfl) (by rfl) (by rfl) (by rfl) (fun K hK => ?_)
  refine wp_append_new_h (w := w1.drew) _ _ 32 (by rfl) 5 i5 (.int .u8 0) 1 1 Try.underlying32 hi hz0 hz1 hz2 (by rfl) h4 (by rfl) ⟨rfl, rfl, rfl, rfl⟩ _ (by rfl) x.length (ub x) SR r0 HU.out (by unfold maxLen; have := HX.out; omega) (by have := HX.out; omega) (fun ao1 cap1 w6 h6 hc1 => ?_)
  have h7 := h6.mv 1
  (try dsimp only [Go.Own.front, Go.Own.arrA, Go.Own.atA, Go.Own.dropA, List.length_cons, List.length_nil, Nat.zero_add, Nat.reduceAdd] at h7)
  (refine hK _ _ (fun hl => ?_) ?_; (first | (focus (cases hl; done)) | exact h7.cell 4); clear hK K; try simp only [Act.put, List.getElem_toArray, List.getElem_cons_zero, List.getElem_cons_succ, List.setIfInBounds_toArray, List.set_cons_zero, List.set_cons_succ])
  (refine wpZ_eff _ (by rfl) (by rfl) (by rfl) (by rfl) (fun K hK => ?_); go_simp; refine hK _ _ (fun hl => ?_) ?_; (first | (focus (cases hl; done)) | exact (h7.junk (.cells #[.slice ao1 x.length cap1] 32)).cell 4); clear hK K; try simp only [Act.put, List.getElem_toArray, List.getElem_cons_zero, List.getElem_cons_succ, List.setIfInBounds_toArray, List.set_cons_zero, List.set_cons_succ])
  obtain ⟨vs, hvl, h8⟩ := rows_open (h7.mv 2)
  (try dsimp only [Go.Own.front, Go.Own.arrA, Go.Own.atA, Go.Own.dropA, List.length_cons, List.length_nil, Nat.zero_add, Nat.reduceAdd] at h8)
  refine wpZ_eff _ (by rfl) (by rfl) (by rfl) (by rfl) (fun K hK => ?_)
  refine wp_append_one_h (w := w6) _ _ 47 (by rfl) 32 i32 (.slice none 0 0) 1 24 Try.underlying47 hi' hy0 hy1 hy2 (by rfl) _ G.length _ _ (by rfl) h8 [.slice ao1 x.length cap1] (by rfl) ⟨rfl, rfl, rfl, rfl⟩ (by rfl) (by simp [Value.oneCell']) (by unfold maxLen; have := HG9.out; omega) (by have := HG9.out; omega) (fun go2 gc2 w9 h9 hc9 => ?_)
  have h9' := h9.arr [0, 1, 3, 2]
  (try dsimp only [Go.Own.front, Go.Own.arrA, Go.Own.atA, Go.Own.dropA, List.length_cons, List.length_nil, Nat.zero_add, Nat.reduceAdd] at h9')
  have h10 := (rows_more hvl h9').mv 1
  (try dsimp only [Go.Own.front, Go.Own.arrA, Go.Own.atA, Go.Own.dropA, List.length_cons, List.length_nil, Nat.zero_add, Nat.reduceAdd] at h10)
  have k4 : w9.cell? ⟨b, 4, none⟩ = some (.slice ro G.length rc) := h10.cell 4
  have f4 := h10.frozen 4
  (refine hK _ _ (fun hl => ?_) ?_; (first | (focus (cases hl; done)) | trivial); clear hK K; try simp only [Act.put, List.getElem_toArray, List.getElem_cons_zero, List.getElem_cons_succ, List.setIfInBounds_toArray, List.set_cons_zero, List.set_cons_succ])
  (repeat (first | (refine wpZ_st (v := ?_) _ (by rfl) (by rfl) (by rfl) (fun W hW => ?_) (by exact k4) ?_; (rotate_left; (focus ((try dsimp only at hW); go_simp; (try with_reducible rfl); done))); try simp only [Act.put, List.getElem_toArray, List.getElem_cons_zero, List.getElem_cons_succ, List.setIfInBounds_toArray, List.set_cons_zero, List.set_cons_succ]) | (refine wpZ_pu (v := ?_) _ (by rfl) (by rfl) (by rfl) (by rfl) (fun W => ?_) ?_; (rotate_left; (focus ((try dsimp only at hW); go_simp; (try with_reducible rfl); done))); try simp only [Act.put, List.getElem_toArray, List.getElem_cons_zero, List.getElem_cons_succ, List.setIfInBounds_toArray, List.set_cons_zero, List.set_cons_succ]) | (refine wpZ_no _ (by rfl) (by rfl) (by rfl) (by rfl) ?_; try simp only [Act.put, List.getElem_toArray, List.getElem_cons_zero, List.getElem_cons_succ, List.setIfInBounds_toArray, List.set_cons_zero, List.set_cons_succ]) | (refine wpZ_noS _ (by rfl) (by rfl) (by rfl) (by exact k4) ?_; try simp only [Act.put, List.getElem_toArray, List.getElem_cons_zero, List.getElem_cons_succ, List.setIfInBounds_toArray, List.set_cons_zero, List.set_cons_succ])))
  (refine wpZ_eff _ (by rfl) (by rfl) (by rfl) (by rfl) (fun K hK => ?_); go_simp; refine hK _ _ (fun hl => ?_) ?_; (first | (focus (cases hl; done)) | trivial); clear hK K; try simp only [Act.put, List.getElem_toArray, List.getElem_cons_zero, List.getElem_cons_succ, List.setIfInBounds_toArray, List.set_cons_zero, List.set_cons_succ])
  (simp only [wpZ])
  have h11 := h10.st 4 (.slice go2 (G.length + 1) gc2)
  go_upto_region 8 with (fail)
  refine gen_world h11 (fun w10 h11 => ?_)
  clear k4 f4 h10 h9' h9 h8 h7 h6 r0 g4 h4
  have h12 : Hold w10 (cellsA b 65 (rcells (addS S x) F (.slice go2 (G ++ [x]).length gc2)) :: rowsA go2 gc2 (G ++ [x]) :: C :: L) := by
    refine h11.as ?_
    simp only [rcells, List.set_cons_succ, List.set_cons_zero, List.length_append, List.length_cons, List.length_nil]
    rfl
  go_wp2_with (go_at_call 33; refine (PR2 _ _ _ _ h12).mono ?_; rintro e w1 ⟨rfl, rfl⟩)
  go_ret2
  exact ⟨rfl, rf_close h12.drew⟩

set_option maxRecDepth 20000 in
theorem rsend_bad (b : Nat) (S : SS) (F : Nat) (G : List (List UInt8)) (hK : KI F S G) (ao : Option Addr) (k cap : Nat) (hk : k ≤ 140737488351232) (he : sendE S k ≠ 0) (w : World) (L : List Asn) (h : Hold w (rfA b S F G :: L)) :
    Calls Try.prog 30 #[.pointer (some ⟨b, 0, none⟩), .slice ao k cap] w fun e w' => e = .returned (.tuple #[.int .u32 0, .int .i64 (sendE S k)]) ∧ Hold w' (rfA b S F G :: L) := by
  obtain ⟨ro, rc, h1⟩ := rf_open h
  have hfb := hK.si.fin
  have hmx := hK.si.max
  have hst := hK.si.s256
  obtain ⟨E, hE⟩ : ∃ E : Int, (S.fin : Int) = E := ⟨_, rfl⟩
  have PR := fun w L h => rend_cells b S F G hK ro rc w L h
  simp only [hE] at PR
  have hki : (k : Int) ≤ 9223372036854775807 := by omega
  have HH := Lib.hid h
  clear h hK
  by_cases q1 : 64 < k
  · have e : sendE S k = 6 := by unfold sendE; rw [if_pos q1]
    rw [e]
    have q1' : 64 < (k : Int) := by omega
    clear e he hk q1 hfb hmx hst hE
    go_enter Try.func30, Try.ntmps30
    go_wp2
    go_ret2
    exact ⟨rfl, HH.out⟩
  by_cases q2 : S.fin = 4294967295
  · have e : sendE S k = 4 := by unfold sendE; rw [if_neg q1, if_pos q2]
    rw [e]
    have q1' : (k : Int) ≤ 64 := by omega
    have q2' : (E == 4294967295) = true := by rw [beq_iff_eq]; omega
    clear e he hk q1 q2 hfb hmx hst hE
    go_enter Try.func30, Try.ntmps30
    go_wp2_with (go_at_call 33; refine (PR _ _ h1).mono ?_; rintro e w1 ⟨rfl, rfl⟩)
    go_ret2
    exact ⟨rfl, rf_close h1.drew⟩
  have q3 : S.L.length = S.store := by
    apply Classical.byContradiction
    intro hne
    apply he
    unfold sendE; rw [if_neg q1, if_neg q2, if_neg hne]
  have e : sendE S k = 2 := by unfold sendE; rw [if_neg q1, if_neg q2, if_pos q3]
  rw [e]
  have q1' : (k : Int) ≤ 64 := by omega
  have q2' : (E == 4294967295) = false := by rw [beq_eq_false_iff_ne]; omega
  have W1 : IntKind.u64.wrap (E - S.base) = S.store := by rw [show E - (S.base : Int) = S.store by omega]; exact IntWalk.u64_in _ (by omega)
  have W2 : IntKind.u64.wrap (S.store : Int) = S.store := IntWalk.u64_in _ (by omega)
  clear e he hk q1 q2 q3 hfb hmx hst hE
  go_enter Try.func30, Try.ntmps30
  go_upto_region 5 with (go_at_call 33; refine (PR _ _ h1).mono ?_; rintro e w1 ⟨rfl, rfl⟩)
  have h2 := h1.drew.drew
  have h3 := h2.drew
  obtain ⟨-, g1, -, -, -, g5, -, -, -⟩ := rfM h2
  obtain ⟨-, k1, -, -, -, k5, -, -, -⟩ := rfM h3
  refine wp_region_Z (fun W => W.cell? ⟨b, 5, none⟩ = some (.int .u64 S.base) ∧ W.cell? ⟨b, 1, none⟩ = some (.int .i64 S.store)) [5, 10, 11] [] [0, 2, 3, 4, 6, 7, 8, 9, 12, 13] [0, 2, 3, 4, 5, 7, 8, 9, 10, 11, 1, 6, 12, 13] (by kernel_rfl) (by kernel_rfl) ?_
  (repeat (first | (refine wpZ_st (v := ?_) _ (by rfl) (by rfl) (by rfl) (fun W hW => ?_) (by exact ⟨g5, g1⟩) ?_; (rotate_left; (focus ((try dsimp only at hW); go_simp; (try with_reducible rfl); done))); try simp only [Act.put, List.getElem_toArray, List.getElem_cons_zero, List.getElem_cons_succ, List.setIfInBounds_toArray, List.set_cons_zero, List.set_cons_succ]) | (refine wpZ_pu (v := ?_) _ (by rfl) (by rfl) (by rfl) (by rfl) (fun W => ?_) ?_; (rotate_left; (focus ((try dsimp only at hW); go_simp; (try with_reducible rfl); done))); try simp only [Act.put, List.getElem_toArray, List.getElem_cons_zero, List.getElem_cons_succ, List.setIfInBounds_toArray, List.set_cons_zero, List.set_cons_succ]) | (refine wpZ_no _ (by rfl) (by rfl) (by rfl) (by rfl) ?_; try simp only [Act.put, List.getElem_toArray, List.getElem_cons_zero, List.getElem_cons_succ, List.setIfInBounds_toArray, List.set_cons_zero, List.set_cons_succ]) | (refine wpZ_noS _ (by rfl) (by rfl) (by rfl) (by exact ⟨g5, g1⟩) ?_; try simp only [Act.put, List.getElem_toArray, List.getElem_cons_zero, List.getElem_cons_succ, List.setIfInBounds_toArray, List.set_cons_zero, List.set_cons_succ])))
  refine wpZ_eff _ (by rfl) (by rfl) (by rfl) (by rfl) (fun K hK => ?_)
  go_simp
  refine (PR _ _ h2).mono ?_
  rintro e w1 ⟨rfl, rfl⟩
  dsimp only
  (refine hK _ _ (fun hl => ?_) ?_; (first | (focus (cases hl; done)) | exact ⟨k5, k1⟩); clear hK K; try simp only [Act.put, List.getElem_toArray, List.getElem_cons_zero, List.getElem_cons_succ, List.setIfInBounds_toArray, List.set_cons_zero, List.set_cons_succ])
  (repeat (first | (refine wpZ_st (v := ?_) _ (by rfl) (by rfl) (by rfl) (fun W hW => ?_) (by exact ⟨k5, k1⟩) ?_; (rotate_left; (focus ((try dsimp only at hW); go_simp; (try with_reducible rfl); done))); try simp only [Act.put, List.getElem_toArray, List.getElem_cons_zero, List.getElem_cons_succ, List.setIfInBounds_toArray, List.set_cons_zero, List.set_cons_succ]) | (refine wpZ_pu (v := ?_) _ (by rfl) (by rfl) (by rfl) (by rfl) (fun W => ?_) ?_; (rotate_left; (focus ((try dsimp only at hW); go_simp; (try with_reducible rfl); done))); try simp only [Act.put, List.getElem_toArray, List.getElem_cons_zero, List.getElem_cons_succ, List.setIfInBounds_toArray, List.set_cons_zero, List.set_cons_succ]) | (refine wpZ_no _ (by rfl) (by rfl) (by rfl) (by rfl) ?_; try simp only [Act.put, List.getElem_toArray, List.getElem_cons_zero, List.getElem_cons_succ, List.setIfInBounds_toArray, List.set_cons_zero, List.set_cons_succ]) | (refine wpZ_noS _ (by rfl) (by rfl) (by rfl) (by exact ⟨k5, k1⟩) ?_; try simp only [Act.put, List.getElem_toArray, List.getElem_cons_zero, List.getElem_cons_succ, List.setIfInBounds_toArray, List.set_cons_zero, List.set_cons_succ])))
  (simp only [wpZ])
  clear g1 g5 k1 k5 PR
  go_wp2
  go_ret2
  exact ⟨rfl, rf_close h3⟩

end Go.Proofs.Ytjnjbmkkfkdhcaa
