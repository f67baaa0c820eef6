/- Contracts: one operation on two counters. -/
import Derived.Test.YtklokbmpapjjiaaCtE
import Derived.Test.YtklokbmpapjjiaaQtF
open Go.RowKit Go.Own
namespace Go.Proofs.Ytklokbmpapjjiaa

theorem rowL_cnt {m : Nat} : ∀ (x y : List UInt8) (s : SV) (i : Nat), Cnt s m → Cnt (rowL s x y i).1 m
  | [], _, s, i, h => by rw [rowL]; exact h; simp
  | _ :: _, [], s, i, h => by rw [rowL]; exact h; simp
  | a :: x, b :: y, s, i, h => by
    rw [rowL]
    split
    · exact rowL_cnt x y _ _ (h.add _ _)
    · exact h
theorem rowR_cnt {m : Nat} {s : SV} (x y : List UInt8) (h : Cnt s m) : Cnt (rowR s x y).1 m := by
  unfold rowR
  split
  · exact rowL_cnt x y s 0 h
  · exact h
theorem ub_one (x : List UInt8) : ∀ v ∈ ub x, v.oneCell' = true := by
  intro v hv
  simp only [ub, List.mem_map] at hv
  obtain ⟨_, _, rfl⟩ := hv
  rfl
theorem Reads.star1 {A B : Asn} {sz n : Nat} {v : Value} {xs : List Value} (h : Reads A sz v n xs) : Reads (starA A B) sz v n xs := by
  rintro X w ⟨X1, X2, rfl, h1, h2⟩
  obtain ⟨S, h3, h4⟩ := h X1 w h1
  exact ⟨S, h3, fun k hk => by simp [h4 k hk]⟩
theorem Reads.star2 {A B : Asn} {sz n : Nat} {v : Value} {xs : List Value} (h : Reads B sz v n xs) : Reads (starA A B) sz v n xs := by
  rintro X w ⟨X1, X2, rfl, h1, h2⟩
  obtain ⟨S, h3, h4⟩ := h X2 w h2
  exact ⟨S, h3, fun k hk => by simp [h4 k hk]⟩
theorem text_of {C : Asn} {ao : Option Addr} {n cap : Nat} {x : List UInt8} (hR : Reads C 1 (.slice ao n cap) n (ub x)) {w : World} {L : List Asn} (h : Hold w (C :: L)) : Sem.run Try.prog (convert 73 9 (.slice ao n cap)) w = .ok (.string ⟨x.toArray⟩) w := by
  obtain ⟨S, hrd⟩ := h.reads hR
  exact run_text Try.underlying73 Try.underlying5 Try.underlying9 hrd

set_option maxHeartbeats 8000000 in
set_option maxRecDepth 20000 in
theorem counts_made (s : SV) (mm : Nat) (hc : Cnt s mm) (b c : Nat) (k : Int) (bit lev : Nat) (hbit : bit < 256) (hlev : lev < 256) (x y : List UInt8) (C : Asn) (ax ay : Option Addr) (n cx m cy : Nat) (hX : Reads C 1 (.slice ax n cx) n (ub x)) (hY : Reads C 1 (.slice ay m cy) m (ub y)) (hn : n ≤ 140737488351232) (hm : m ≤ 140737488351232) (w : World) (L : List Asn)
    (h : Hold w (cellsA b 85 (encC s) :: cellsA c 94 (enc s) :: C :: L)) :
    Calls Try.prog 36 #[.pointer (some ⟨b, 0, none⟩), .pointer (some ⟨c, 0, none⟩), .agg #[.int .i64 k, .int .u8 bit, .int .u8 lev, .slice ax n cx, .slice ay m cy]] w fun e w' => e = .returned (.bool true) ∧ ∃ s', Cnt s' mm ∧ Hold w' (cellsA b 85 (encC s') :: cellsA c 94 (enc s') :: C :: L) := by
  obtain ⟨i5, hi, hz0, hz1, hz2⟩ := info_parts info5
  obtain ⟨S1, r1⟩ := (h.mv 2).reads hX
  obtain ⟨S2, r2⟩ := (h.mv 2).reads hY
  have hx1 := r1.bounds.1
  have hy1 := r2.bounds.1
  have hb := h.box 75 [.int .i64 k, .int .u8 bit, .int .u8 lev, .slice ax n cx, .slice ay m cy]
  clear r1 r2 S1 S2
  go_enter Try.func36, Try.ntmps36
  go_upto_region 1 with (fail)
  refine gen_world hb (fun w1 hb => ?_)
  generalize w.heap.size = o at *
  have g0 := hb.cell 0
  have g1 := hb.cell 1
  have g2 := hb.cell 2
  have g3 := hb.cell 3
  have g4 := hb.cell 4
  simp only [List.getElem?_cons_zero, List.getElem?_cons_succ] at g0 g1 g2 g3 g4
  by_cases hk1 : k = 1
  · subst hk1
    go_upto_region 3 with (fail)
    refine wp_region_Z (fun W => W.cell? ⟨o, 1, none⟩ = some (.int .u8 bit) ∧ W.cell? ⟨o, 2, none⟩ = some (.int .u8 lev)) [2, 4, 9, 11] [] [0, 1, 3, 7, 8, 10, 13, 14] [0, 1, 2, 3, 4, 7, 8, 9, 10, 11, 5, 6, 12, 13, 14] (by kernel_rfl) (by kernel_rfl) ?_
    have hS := hb.drew
    have hg : w1.drew.cell? ⟨o, 1, none⟩ = some (.int .u8 bit) ∧ w1.drew.cell? ⟨o, 2, none⟩ = some (.int .u8 lev) := ⟨g1, g2⟩
    (repeat (first | (refine wpZ_st (v := ?_) _ (by rfl) (by rfl) (by rfl) (fun W hW => ?_) hg ?_; (rotate_left; (focus ((try dsimp only at hW); go_simp; (try with_reducible rfl); done))); try simp only [Act.put, List.getElem_toArray, List.getElem_cons_zero, List.getElem_cons_succ, List.setIfInBounds_toArray, List.set_cons_zero, List.set_cons_succ]) | (refine wpZ_pu (v := ?_) _ (by rfl) (by rfl) (by rfl) (by rfl) (fun W => ?_) ?_; (rotate_left; (focus ((try dsimp only at hW); go_simp; (try with_reducible rfl); done))); try simp only [Act.put, List.getElem_toArray, List.getElem_cons_zero, List.getElem_cons_succ, List.setIfInBounds_toArray, List.set_cons_zero, List.set_cons_succ]) | (refine wpZ_no _ (by rfl) (by rfl) (by rfl) (by rfl) ?_; try simp only [Act.put, List.getElem_toArray, List.getElem_cons_zero, List.getElem_cons_succ, List.setIfInBounds_toArray, List.set_cons_zero, List.set_cons_succ]) | (refine wpZ_noS _ (by rfl) (by rfl) (by rfl) hg ?_; try simp only [Act.put, List.getElem_toArray, List.getElem_cons_zero, List.getElem_cons_succ, List.setIfInBounds_toArray, List.set_cons_zero, List.set_cons_succ])))
    refine wpZ_eff _ (by rfl) (by rfl) (by rfl) (by rfl) (fun K hK => ?_)
    go_simp
    refine (cadd_ok s bit lev (by rw [hc.lv]; have := hc.hi; omega) hbit hlev b _ _ (hS.mv 1)).mono ?_
    rintro e w5 ⟨rfl, h5⟩
    have hg : w5.cell? ⟨o, 1, none⟩ = some (.int .u8 bit) ∧ w5.cell? ⟨o, 2, none⟩ = some (.int .u8 lev) := ⟨(h5.mv 1).cell 1, (h5.mv 1).cell 2⟩
    dsimp only
    (refine hK _ _ (fun hl => ?_) ?_; (first | (focus (cases hl; done)) | exact hg); clear hK K; try simp only [Act.put, List.getElem_toArray, List.getElem_cons_zero, List.getElem_cons_succ, List.setIfInBounds_toArray, List.set_cons_zero, List.set_cons_succ])
    refine wpZ_eff _ (by rfl) (by rfl) (by rfl) (by rfl) (fun K hK => ?_)
    go_simp
    refine (num_any _ _ _ h5).mono ?_
    rintro e w' ⟨rfl, rfl⟩
    dsimp only
    (refine hK _ _ (fun hl => ?_) ?_; (first | (focus (cases hl; done)) | exact hg); clear hK K; try simp only [Act.put, List.getElem_toArray, List.getElem_cons_zero, List.getElem_cons_succ, List.setIfInBounds_toArray, List.set_cons_zero, List.set_cons_succ])
    (repeat (first | (refine wpZ_st (v := ?_) _ (by rfl) (by rfl) (by rfl) (fun W hW => ?_) hg ?_; (rotate_left; (focus ((try dsimp only at hW); go_simp; (try with_reducible rfl); done))); try simp only [Act.put, List.getElem_toArray, List.getElem_cons_zero, List.getElem_cons_succ, List.setIfInBounds_toArray, List.set_cons_zero, List.set_cons_succ]) | (refine wpZ_pu (v := ?_) _ (by rfl) (by rfl) (by rfl) (by rfl) (fun W => ?_) ?_; (rotate_left; (focus ((try dsimp only at hW); go_simp; (try with_reducible rfl); done))); try simp only [Act.put, List.getElem_toArray, List.getElem_cons_zero, List.getElem_cons_succ, List.setIfInBounds_toArray, List.set_cons_zero, List.set_cons_succ]) | (refine wpZ_no _ (by rfl) (by rfl) (by rfl) (by rfl) ?_; try simp only [Act.put, List.getElem_toArray, List.getElem_cons_zero, List.getElem_cons_succ, List.setIfInBounds_toArray, List.set_cons_zero, List.set_cons_succ]) | (refine wpZ_noS _ (by rfl) (by rfl) (by rfl) hg ?_; try simp only [Act.put, List.getElem_toArray, List.getElem_cons_zero, List.getElem_cons_succ, List.setIfInBounds_toArray, List.set_cons_zero, List.set_cons_succ])))
    refine wpZ_eff _ (by rfl) (by rfl) (by rfl) (by rfl) (fun K hK => ?_)
    go_simp
    refine (radd_ok s bit lev (by rw [hc.lv]; have := hc.hi; omega) hbit hlev c _ _ (h5.mv 2)).mono ?_
    rintro e w6 ⟨rfl, h6⟩
    dsimp only
    (refine hK _ _ (fun hl => ?_) ?_; (first | (focus (cases hl; done)) | exact ⟨(h6.mv 2).cell 1, (h6.mv 2).cell 2⟩); clear hK K; try simp only [Act.put, List.getElem_toArray, List.getElem_cons_zero, List.getElem_cons_succ, List.setIfInBounds_toArray, List.set_cons_zero, List.set_cons_succ])
    (repeat (first | (refine wpZ_st (v := ?_) _ (by rfl) (by rfl) (by rfl) (fun W hW => ?_) (⟨(h6.mv 2).cell 1, (h6.mv 2).cell 2⟩ : w6.cell? ⟨o, 1, none⟩ = some (.int .u8 bit) ∧ w6.cell? ⟨o, 2, none⟩ = some (.int .u8 lev)) ?_; (rotate_left; (focus ((try dsimp only at hW); go_simp; (try with_reducible rfl); done))); try simp only [Act.put, List.getElem_toArray, List.getElem_cons_zero, List.getElem_cons_succ, List.setIfInBounds_toArray, List.set_cons_zero, List.set_cons_succ]) | (refine wpZ_pu (v := ?_) _ (by rfl) (by rfl) (by rfl) (by rfl) (fun W => ?_) ?_; (rotate_left; (focus ((try dsimp only at hW); go_simp; (try with_reducible rfl); done))); try simp only [Act.put, List.getElem_toArray, List.getElem_cons_zero, List.getElem_cons_succ, List.setIfInBounds_toArray, List.set_cons_zero, List.set_cons_succ]) | (refine wpZ_no _ (by rfl) (by rfl) (by rfl) (by rfl) ?_; try simp only [Act.put, List.getElem_toArray, List.getElem_cons_zero, List.getElem_cons_succ, List.setIfInBounds_toArray, List.set_cons_zero, List.set_cons_succ]) | (refine wpZ_noS _ (by rfl) (by rfl) (by rfl) (⟨(h6.mv 2).cell 1, (h6.mv 2).cell 2⟩ : w6.cell? ⟨o, 1, none⟩ = some (.int .u8 bit) ∧ w6.cell? ⟨o, 2, none⟩ = some (.int .u8 lev)) ?_; try simp only [Act.put, List.getElem_toArray, List.getElem_cons_zero, List.getElem_cons_succ, List.setIfInBounds_toArray, List.set_cons_zero, List.set_cons_succ])))
    (simp only [wpZ])
    go_wp2
    go_ret
    exact ⟨by simp, _, hc.add bit lev, (h6.mv 2).drop.mv 1⟩
  · by_cases hk2 : k = 2
    · subst hk2
      obtain ⟨S1, r1⟩ := (hb.mv (2 + 1)).reads hX
      have j3 := (hb.junk (.cells #[] 5)).cell 3
      simp only [List.getElem?_cons_zero, List.getElem?_cons_succ] at j3
      go_upto_region 6 with ((with_reducible refine wpList_plain (o := ⟨some 36, _, _, _, _, _⟩) rfl (fun K hK => ?_)); refine wp_append_new_h (w := w1) _ _ 73 (by rfl) 5 i5 (.int .u8 0) 1 1 Try.underlying73 hi hz0 hz1 hz2 (by rfl) hb (by rfl) ⟨rfl, rfl, rfl, rfl⟩ _ (by rfl) n (ub x) S1 r1 (ub_one x) (by unfold maxLen; omega) (by omega) (fun a1 c1 w2 h2 hc1 => ?_); refine hK _ _ ?_; clear hK K)
      obtain ⟨S2, r2⟩ := (h2.mv (2 + 2)).reads hY
      have j4 := ((h2.mv 1).junk (.cells #[] 5)).cell 4
      simp only [List.getElem?_cons_zero, List.getElem?_cons_succ] at j4
      clear r1 j3 g0 g1 g2 g3 g4 hb h
      go_upto_region 7 with ((with_reducible refine wpList_plain (o := ⟨some 40, _, _, _, _, _⟩) rfl (fun K hK => ?_)); refine wp_append_new_h (w := w2) _ _ 73 (by rfl) 5 i5 (.int .u8 0) 1 1 Try.underlying73 hi hz0 hz1 hz2 (by rfl) h2 (by rfl) ⟨rfl, rfl, rfl, rfl⟩ _ (by rfl) m (ub y) S2 r2 (ub_one y) (by unfold maxLen; omega) (by omega) (fun a2 c2 w3 h3 hc2 => ?_); refine hK _ _ ?_; clear hK K)
      clear r2 j4 h2
      have h3 := Hold.star.2 h3
      have j3 := h3.mv 2
      have PR := cntrow_ok s (by rw [hc.lv]; have := hc.hi; omega) b x y _ _ _ _ _ _ _ (Reads.star2 (A := rowA 5 1 a2 m c2 (ub y)) (Reads.row 5 1 a1 n c1 (ub x))) (Reads.star1 (B := rowA 5 1 a1 n c1 (ub x)) (Reads.row 5 1 a2 m c2 (ub y))) w3 _ j3
      have PS := fun w L h => rcntrow_ok s (by rw [hc.lv]; have := hc.hi; omega) c x y C ax ay n cx m cy hX hY w L h
      have hcr := Lib.hid (rowR_cnt x y hc)
      generalize rowR s x y = r at *
      have HC := Lib.hid hc
      clear hc
      go_upto_region 8 with (go_at_call 49; refine PR.mono ?_; rintro e w4 ⟨rfl, h4⟩)
      have z3 := (h4.mv 2).cell 3
      have z4 := (h4.mv 2).cell 4
      simp only [List.getElem?_cons_zero, List.getElem?_cons_succ] at z3 z4
      clear PR h3 j3
      go_upto_region 9 with (go_at_call 50; refine (PS _ _ ((h4.mv 4).mv 4)).mono ?_; rintro e w5 ⟨rfl, h5⟩)
      have z3 := (h5.mv 4).cell 3
      have z4 := (h5.mv 4).cell 4
      simp only [List.getElem?_cons_zero, List.getElem?_cons_succ] at z3 z4
      have t1 := text_of (Reads.star2 (A := rowA 5 1 a2 m c2 (ub y)) (Reads.row 5 1 a1 n c1 (ub x))) (h5.mv 3)
      have t2 := text_of (Reads.star1 (B := rowA 5 1 a1 n c1 (ub x)) (Reads.row 5 1 a2 m c2 (ub y))) (h5.mv 3)
      have t3 := text_of hX (h5.mv 1)
      have t4 := text_of hY (h5.mv 1)
      clear PS h4
      obtain ⟨s', i', e'⟩ := r
      simp only at *
      go_wp2_with (go_at_call 18; refine (num_any _ _ _ h5).mono ?_; rintro e w' ⟨rfl, rfl⟩)
      go_ret
      exact ⟨rfl, s', hcr.out, ((h5.mv 4).drop.mv 3).drop.mv 2⟩
    · have e1 : (k == 1) = false := by rw [beq_eq_false_iff_ne]; exact hk1
      have e2 : (k == 2) = false := by rw [beq_eq_false_iff_ne]; exact hk2
      go_wp2
      go_ret
      exact ⟨rfl, s, hc, hb.drop⟩

set_option maxHeartbeats 8000000 in
set_option maxRecDepth 20000 in
theorem counts_no (pv : Value) (k : Int) (bit lev : Nat) (hbit : bit < 256) (hlev : lev < 256) (x y : List UInt8) (C : Asn) (ax ay : Option Addr) (n cx m cy : Nat) (hX : Reads C 1 (.slice ax n cx) n (ub x)) (hY : Reads C 1 (.slice ay m cy) m (ub y)) (hn : n ≤ 140737488351232) (hm : m ≤ 140737488351232) (w : World) (L : List Asn)
    (h : Hold w (noA 85 encU pv :: C :: L)) :
    Calls Try.prog 36 #[pv, .pointer none, .agg #[.int .i64 k, .int .u8 bit, .int .u8 lev, .slice ax n cx, .slice ay m cy]] w fun e w' => e = .returned (.bool true) ∧ Hold w' (noA 85 encU pv :: C :: L) := by
  obtain ⟨i5, hi, hz0, hz1, hz2⟩ := info_parts info5
  obtain ⟨S1, r1⟩ := (h.mv 1).reads hX
  obtain ⟨S2, r2⟩ := (h.mv 1).reads hY
  have hx1 := r1.bounds.1
  have hy1 := r2.bounds.1
  have hb := h.box 75 [.int .i64 k, .int .u8 bit, .int .u8 lev, .slice ax n cx, .slice ay m cy]
  clear r1 r2 S1 S2
  go_enter Try.func36, Try.ntmps36
  go_upto_region 1 with (fail)
  refine gen_world hb (fun w1 hb => ?_)
  generalize w.heap.size = o at *
  have g0 := hb.cell 0
  have g1 := hb.cell 1
  have g2 := hb.cell 2
  have g3 := hb.cell 3
  have g4 := hb.cell 4
  simp only [List.getElem?_cons_zero, List.getElem?_cons_succ] at g0 g1 g2 g3 g4
  by_cases hk1 : k = 1
  · subst hk1
    go_upto_region 3 with (fail)
    refine wp_region_Z (fun W => W.cell? ⟨o, 1, none⟩ = some (.int .u8 bit) ∧ W.cell? ⟨o, 2, none⟩ = some (.int .u8 lev)) [2, 4, 9, 11] [] [0, 1, 3, 7, 8, 10, 13, 14] [0, 1, 2, 3, 4, 7, 8, 9, 10, 11, 5, 6, 12, 13, 14] (by kernel_rfl) (by kernel_rfl) ?_
    have hS := hb.drew
    have hg : w1.drew.cell? ⟨o, 1, none⟩ = some (.int .u8 bit) ∧ w1.drew.cell? ⟨o, 2, none⟩ = some (.int .u8 lev) := ⟨g1, g2⟩
    (repeat (first | (refine wpZ_st (v := ?_) _ (by rfl) (by rfl) (by rfl) (fun W hW => ?_) hg ?_; (rotate_left; (focus ((try dsimp only at hW); go_simp; (try with_reducible rfl); done))); try simp only [Act.put, List.getElem_toArray, List.getElem_cons_zero, List.getElem_cons_succ, List.setIfInBounds_toArray, List.set_cons_zero, List.set_cons_succ]) | (refine wpZ_pu (v := ?_) _ (by rfl) (by rfl) (by rfl) (by rfl) (fun W => ?_) ?_; (rotate_left; (focus ((try dsimp only at hW); go_simp; (try with_reducible rfl); done))); try simp only [Act.put, List.getElem_toArray, List.getElem_cons_zero, List.getElem_cons_succ, List.setIfInBounds_toArray, List.set_cons_zero, List.set_cons_succ]) | (refine wpZ_no _ (by rfl) (by rfl) (by rfl) (by rfl) ?_; try simp only [Act.put, List.getElem_toArray, List.getElem_cons_zero, List.getElem_cons_succ, List.setIfInBounds_toArray, List.set_cons_zero, List.set_cons_succ]) | (refine wpZ_noS _ (by rfl) (by rfl) (by rfl) hg ?_; try simp only [Act.put, List.getElem_toArray, List.getElem_cons_zero, List.getElem_cons_succ, List.setIfInBounds_toArray, List.set_cons_zero, List.set_cons_succ])))
    refine wpZ_eff _ (by rfl) (by rfl) (by rfl) (by rfl) (fun K hK => ?_)
    go_simp
    refine (cadd_no pv bit lev _ _ (hS.mv 1)).mono ?_
    rintro e w5 ⟨rfl, rfl⟩
    have h5 := hS.mv 1
    have hg : w1.drew.cell? ⟨o, 1, none⟩ = some (.int .u8 bit) ∧ w1.drew.cell? ⟨o, 2, none⟩ = some (.int .u8 lev) := ⟨(h5.mv 1).cell 1, (h5.mv 1).cell 2⟩
    dsimp only
    (refine hK _ _ (fun hl => ?_) ?_; (first | (focus (cases hl; done)) | exact hg); clear hK K; try simp only [Act.put, List.getElem_toArray, List.getElem_cons_zero, List.getElem_cons_succ, List.setIfInBounds_toArray, List.set_cons_zero, List.set_cons_succ])
    refine wpZ_eff _ (by rfl) (by rfl) (by rfl) (by rfl) (fun K hK => ?_)
    go_simp
    refine (num_any _ _ _ h5).mono ?_
    rintro e w' ⟨rfl, rfl⟩
    dsimp only
    (refine hK _ _ (fun hl => ?_) ?_; (first | (focus (cases hl; done)) | exact hg); clear hK K; try simp only [Act.put, List.getElem_toArray, List.getElem_cons_zero, List.getElem_cons_succ, List.setIfInBounds_toArray, List.set_cons_zero, List.set_cons_succ])
    (repeat (first | (refine wpZ_st (v := ?_) _ (by rfl) (by rfl) (by rfl) (fun W hW => ?_) hg ?_; (rotate_left; (focus ((try dsimp only at hW); go_simp; (try with_reducible rfl); done))); try simp only [Act.put, List.getElem_toArray, List.getElem_cons_zero, List.getElem_cons_succ, List.setIfInBounds_toArray, List.set_cons_zero, List.set_cons_succ]) | (refine wpZ_pu (v := ?_) _ (by rfl) (by rfl) (by rfl) (by rfl) (fun W => ?_) ?_; (rotate_left; (focus ((try dsimp only at hW); go_simp; (try with_reducible rfl); done))); try simp only [Act.put, List.getElem_toArray, List.getElem_cons_zero, List.getElem_cons_succ, List.setIfInBounds_toArray, List.set_cons_zero, List.set_cons_succ]) | (refine wpZ_no _ (by rfl) (by rfl) (by rfl) (by rfl) ?_; try simp only [Act.put, List.getElem_toArray, List.getElem_cons_zero, List.getElem_cons_succ, List.setIfInBounds_toArray, List.set_cons_zero, List.set_cons_succ]) | (refine wpZ_noS _ (by rfl) (by rfl) (by rfl) hg ?_; try simp only [Act.put, List.getElem_toArray, List.getElem_cons_zero, List.getElem_cons_succ, List.setIfInBounds_toArray, List.set_cons_zero, List.set_cons_succ])))
    refine wpZ_eff _ (by rfl) (by rfl) (by rfl) (by rfl) (fun K hK => ?_)
    go_simp
    refine (radd_no bit lev _).mono ?_
    rintro e w6 ⟨rfl, rfl⟩
    have h6 := (h5.mv 2)
    dsimp only
    (refine hK _ _ (fun hl => ?_) ?_; (first | (focus (cases hl; done)) | exact ⟨(h6.mv 2).cell 1, (h6.mv 2).cell 2⟩); clear hK K; try simp only [Act.put, List.getElem_toArray, List.getElem_cons_zero, List.getElem_cons_succ, List.setIfInBounds_toArray, List.set_cons_zero, List.set_cons_succ])
    (repeat (first | (refine wpZ_st (v := ?_) _ (by rfl) (by rfl) (by rfl) (fun W hW => ?_) (⟨(h6.mv 2).cell 1, (h6.mv 2).cell 2⟩ : w1.drew.cell? ⟨o, 1, none⟩ = some (.int .u8 bit) ∧ w1.drew.cell? ⟨o, 2, none⟩ = some (.int .u8 lev)) ?_; (rotate_left; (focus ((try dsimp only at hW); go_simp; (try with_reducible rfl); done))); try simp only [Act.put, List.getElem_toArray, List.getElem_cons_zero, List.getElem_cons_succ, List.setIfInBounds_toArray, List.set_cons_zero, List.set_cons_succ]) | (refine wpZ_pu (v := ?_) _ (by rfl) (by rfl) (by rfl) (by rfl) (fun W => ?_) ?_; (rotate_left; (focus ((try dsimp only at hW); go_simp; (try with_reducible rfl); done))); try simp only [Act.put, List.getElem_toArray, List.getElem_cons_zero, List.getElem_cons_succ, List.setIfInBounds_toArray, List.set_cons_zero, List.set_cons_succ]) | (refine wpZ_no _ (by rfl) (by rfl) (by rfl) (by rfl) ?_; try simp only [Act.put, List.getElem_toArray, List.getElem_cons_zero, List.getElem_cons_succ, List.setIfInBounds_toArray, List.set_cons_zero, List.set_cons_succ]) | (refine wpZ_noS _ (by rfl) (by rfl) (by rfl) (⟨(h6.mv 2).cell 1, (h6.mv 2).cell 2⟩ : w1.drew.cell? ⟨o, 1, none⟩ = some (.int .u8 bit) ∧ w1.drew.cell? ⟨o, 2, none⟩ = some (.int .u8 lev)) ?_; try simp only [Act.put, List.getElem_toArray, List.getElem_cons_zero, List.getElem_cons_succ, List.setIfInBounds_toArray, List.set_cons_zero, List.set_cons_succ])))
    (simp only [wpZ])
    go_wp2
    go_ret
    exact ⟨rfl, hS.drop⟩
  · by_cases hk2 : k = 2
    · subst hk2
      obtain ⟨S1, r1⟩ := (hb.mv (1 + 1)).reads hX
      have j3 := (hb.junk (.cells #[] 5)).cell 3
      simp only [List.getElem?_cons_zero, List.getElem?_cons_succ] at j3
      go_upto_region 6 with ((with_reducible refine wpList_plain (o := ⟨some 36, _, _, _, _, _⟩) rfl (fun K hK => ?_)); refine wp_append_new_h (w := w1) _ _ 73 (by rfl) 5 i5 (.int .u8 0) 1 1 Try.underlying73 hi hz0 hz1 hz2 (by rfl) hb (by rfl) ⟨rfl, rfl, rfl, rfl⟩ _ (by rfl) n (ub x) S1 r1 (ub_one x) (by unfold maxLen; omega) (by omega) (fun a1 c1 w2 h2 hc1 => ?_); refine hK _ _ ?_; clear hK K)
      obtain ⟨S2, r2⟩ := (h2.mv (1 + 2)).reads hY
      have j4 := ((h2.mv 1).junk (.cells #[] 5)).cell 4
      simp only [List.getElem?_cons_zero, List.getElem?_cons_succ] at j4
      clear r1 j3 g0 g1 g2 g3 g4 hb h
      go_upto_region 7 with ((with_reducible refine wpList_plain (o := ⟨some 40, _, _, _, _, _⟩) rfl (fun K hK => ?_)); refine wp_append_new_h (w := w2) _ _ 73 (by rfl) 5 i5 (.int .u8 0) 1 1 Try.underlying73 hi hz0 hz1 hz2 (by rfl) h2 (by rfl) ⟨rfl, rfl, rfl, rfl⟩ _ (by rfl) m (ub y) S2 r2 (ub_one y) (by unfold maxLen; omega) (by omega) (fun a2 c2 w3 h3 hc2 => ?_); refine hK _ _ ?_; clear hK K)
      clear r2 j4 h2
      have h3 := Hold.star.2 h3
      have PR := cntrow_no pv (.slice a1 n c1) (.slice a2 m c2) w3 _ (h3.mv 2)
      have z3 := (h3.mv 1).cell 3
      have z4 := (h3.mv 1).cell 4
      simp only [List.getElem?_cons_zero, List.getElem?_cons_succ] at z3 z4
      go_upto_region 8 with (go_at_call 49; refine PR.mono ?_; rintro e w4 ⟨rfl, rfl⟩)
      clear PR
      go_upto_region 9 with (go_at_call 50; refine (rcntrow_no _ _ _).mono ?_; rintro e w5 ⟨rfl, rfl⟩)
      have t1 := text_of (Reads.star2 (A := rowA 5 1 a2 m c2 (ub y)) (Reads.row 5 1 a1 n c1 (ub x))) h3
      have t2 := text_of (Reads.star1 (B := rowA 5 1 a1 n c1 (ub x)) (Reads.row 5 1 a2 m c2 (ub y))) h3
      have t3 := text_of hX (h3.mv 3)
      have t4 := text_of hY (h3.mv 3)
      go_wp2_with (go_at_call 18; refine (num_any _ _ _ h3).mono ?_; rintro e w' ⟨rfl, rfl⟩)
      go_ret
      exact ⟨rfl, h3.drop.drop⟩
    · have e1 : (k == 1) = false := by rw [beq_eq_false_iff_ne]; exact hk1
      have e2 : (k == 2) = false := by rw [beq_eq_false_iff_ne]; exact hk2
      go_wp2
      go_ret
      exact ⟨rfl, hb.drop⟩

end Go.Proofs.Ytklokbmpapjjiaa
