/- The walk of StatsLooks. -/
import Derived.Test.YtklokbmpapjjiaaStI
open Go.RowKit Go.Own
namespace Go.Proofs.Ytklokbmpapjjiaa

set_option maxHeartbeats 8000000 in
set_option maxRecDepth 20000 in
theorem looks_walk (s : SV) (hs : s.ok) (w : World) (L : List Asn) (h : Hold w L) :
    Calls Try.prog 3 #[.agg (enc s).toArray] w fun e w' => e = .returned (.bool true) ∧ Hold w' L := by
  have hb := h.box 26 (enc s)
  have C1 := totals_ok s hs
  have C2 := sym_ok s hs
  have C3 := pmirror_ok s hs
  have C4 := rtotals_ok s hs
  have C5 := rsym_ok s hs
  have C6 := rmirror_ok s hs
  have C7 := check_ok s hs
  have C8 := rcheck_ok s hs
  have E := eq26 (mirV_ok hs) (mirV_ok hs) (v := true) (by simp [same_refl])
  generalize mirV s = M at *
  generalize (totA s) = ta at *
  generalize (totB s) = tb at *
  generalize symV s = sv at *
  generalize check s = ck at *
  clear h
  go_enter Try.func3, Try.ntmps3
  go_upto_region 1 with (fail)
  refine gen_world hb (fun w1 hb => ?_)
  generalize w.heap.size = b at *
  go_upto_region 4 with (first
    | (refine wpList_yw (by rfl) (exec_load26 (by rfl) (by rfl) h3) ?_)
    | (refine wpList_yw (by rfl) (exec_load26 (by rfl) (by rfl) h2) ?_)
    | (refine wpList_yw (by rfl) (exec_load26 (by rfl) (by rfl) hb) ?_)
    | (go_at_call 12; refine (C1 _ _ hb).mono ?_; rintro e w2 ⟨rfl, h2⟩)
    | (go_at_call 13; refine (C2 _ _ h2).mono ?_; rintro e w3 ⟨rfl, h3⟩)
    | (go_at_call 14; refine (C3 _ _ h3).mono ?_; rintro e w4 ⟨rfl, h4⟩; have h4z := h4.boxZ 0)
    | (refine wp_store26 rfl _ _ (by rfl) w4.heap.size (by rfl) M (by rfl) h4z (fun w5 h5 => ?_)))
  clear h2 h3 h4 h4z hb C1 C2 C3
  generalize w4.heap.size = m at *
  go_upto_region 7 with (first
    | (refine wpList_yw (by rfl) (exec_load26 (by rfl) (by rfl) (h7.mv 1)) ?_)
    | (refine wpList_yw (by rfl) (exec_load26 (by rfl) (by rfl) (h6.mv 1)) ?_)
    | (refine wpList_yw (by rfl) (exec_load26 (by rfl) (by rfl) (h5.mv 1)) ?_)
    | (go_at_call 15; refine (C4 _ _ h5).mono ?_; rintro e w6 ⟨rfl, h6⟩)
    | (go_at_call 16; refine (C5 _ _ h6).mono ?_; rintro e w7 ⟨rfl, h7⟩)
    | (go_at_call 17; refine (C6 _ _ h7).mono ?_; rintro e w8 ⟨rfl, h8⟩; have h8z := h8.boxZ 0)
    | (refine wp_store26 rfl _ _ (by rfl) w8.heap.size (by rfl) M (by rfl) h8z (fun w9 h9 => ?_)))
  clear h5 h6 h7 h8 h8z C4 C5 C6
  generalize w8.heap.size = n at *
  have hS := h9.drew
  clear h9
  refine wp_region_X (fun W => Hold W (cellsA n 26 (enc M) :: cellsA m 26 (enc M) :: cellsA b 26 (enc s) :: L)) [0, 3, 5, 6, 7, 8, 9, 10, 11, 12, 13, 14, 15, 16, 17, 19, 20, 21, 22, 23, 24, 25, 26, 27, 28, 30, 31, 32, 33, 34, 35, 36, 37, 38, 39, 41, 42, 43, 44, 46] [47] [0, 3, 1, 2, 4, 5, 6, 7, 8, 9, 10, 11, 12, 13, 14, 15, 16, 17, 19, 18, 20, 21, 22, 23, 24, 25, 26, 27, 28, 30, 29, 31, 32, 33, 34, 35, 36, 37, 38, 39, 41, 40, 42, 43, 44, 45, 46, 47] (by kernel_rfl) (by kernel_rfl) ?_
  generalize w9.drew = wS at *
  refine wpX_st _ _ (by rfl) (by rfl) (by rfl) (fun W hW => exec_load26 (by rfl) (by rfl) (hW.mv 2)) hS ?_
  try simp only [Act.put, List.getElem_toArray, List.getElem_cons_zero, List.getElem_cons_succ, List.setIfInBounds_toArray, List.set_cons_zero, List.set_cons_succ]
  refine wpX_st _ _ (by rfl) (by rfl) (by rfl) (fun W hW => exec_load26 (by rfl) (by rfl) (hW.mv 2)) hS ?_
  try simp only [Act.put, List.getElem_toArray, List.getElem_cons_zero, List.getElem_cons_succ, List.setIfInBounds_toArray, List.set_cons_zero, List.set_cons_succ]
  refine wpX_eff _ (by rfl) (by rfl) (by rfl) (fun K hK => ?_)
  go_simp
  refine (C7 _ _ (hS.mv 2)).mono ?_
  rintro e wS ⟨rfl, hS⟩; have hS := (hS.mv 2).mv 2
  dsimp only
  (refine hK _ _ (fun hl => ?_) ?_; (first | (focus (cases hl; done)) | exact hS); clear hK K; try simp only [Act.put, List.getElem_toArray, List.getElem_cons_zero, List.getElem_cons_succ, List.setIfInBounds_toArray, List.set_cons_zero, List.set_cons_succ])
  refine wpX_eff _ (by rfl) (by rfl) (by rfl) (fun K hK => ?_)
  go_simp
  refine (num_any _ _ _ hS).mono ?_
  rintro e w' ⟨rfl, rfl⟩
  dsimp only
  (refine hK _ _ (fun hl => ?_) ?_; (first | (focus (cases hl; done)) | exact hS); clear hK K; try simp only [Act.put, List.getElem_toArray, List.getElem_cons_zero, List.getElem_cons_succ, List.setIfInBounds_toArray, List.set_cons_zero, List.set_cons_succ])
  refine wpX_eff _ (by rfl) (by rfl) (by rfl) (fun K hK => ?_)
  go_simp
  refine (C8 _ _ (hS.mv 2)).mono ?_
  rintro e wS ⟨rfl, hS⟩; have hS := (hS.mv 2).mv 2
  dsimp only
  (refine hK _ _ (fun hl => ?_) ?_; (first | (focus (cases hl; done)) | exact hS); clear hK K; try simp only [Act.put, List.getElem_toArray, List.getElem_cons_zero, List.getElem_cons_succ, List.setIfInBounds_toArray, List.set_cons_zero, List.set_cons_succ])
  (repeat (refine wpX_st (v := ?_) _ (by rfl) (by rfl) (by rfl) (fun W hW => ?_) hS ?_; rotate_left; (focus ((try dsimp only at hW); go_simp; (try with_reducible rfl); done)); try simp only [Act.put, List.getElem_toArray, List.getElem_cons_zero, List.getElem_cons_succ, List.setIfInBounds_toArray, List.set_cons_zero, List.set_cons_succ]))
  refine wpX_eff _ (by rfl) (by rfl) (by rfl) (fun K hK => ?_)
  go_simp
  refine (num_any _ _ _ hS).mono ?_
  rintro e w' ⟨rfl, rfl⟩
  dsimp only
  (refine hK _ _ (fun hl => ?_) ?_; (first | (focus (cases hl; done)) | exact hS); clear hK K; try simp only [Act.put, List.getElem_toArray, List.getElem_cons_zero, List.getElem_cons_succ, List.setIfInBounds_toArray, List.set_cons_zero, List.set_cons_succ])
  (repeat (refine wpX_st (v := ?_) _ (by rfl) (by rfl) (by rfl) (fun W hW => ?_) hS ?_; rotate_left; (focus ((try dsimp only at hW); go_simp; (try with_reducible rfl); done)); try simp only [Act.put, List.getElem_toArray, List.getElem_cons_zero, List.getElem_cons_succ, List.setIfInBounds_toArray, List.set_cons_zero, List.set_cons_succ]))
  refine wpX_eff _ (by rfl) (by rfl) (by rfl) (fun K hK => ?_)
  go_simp
  refine (num_any _ _ _ hS).mono ?_
  rintro e w' ⟨rfl, rfl⟩
  dsimp only
  (refine hK _ _ (fun hl => ?_) ?_; (first | (focus (cases hl; done)) | exact hS); clear hK K; try simp only [Act.put, List.getElem_toArray, List.getElem_cons_zero, List.getElem_cons_succ, List.setIfInBounds_toArray, List.set_cons_zero, List.set_cons_succ])
  (repeat (refine wpX_st (v := ?_) _ (by rfl) (by rfl) (by rfl) (fun W hW => ?_) hS ?_; rotate_left; (focus ((try dsimp only at hW); go_simp; (try with_reducible rfl); done)); try simp only [Act.put, List.getElem_toArray, List.getElem_cons_zero, List.getElem_cons_succ, List.setIfInBounds_toArray, List.set_cons_zero, List.set_cons_succ]))
  refine wpX_st _ _ (by rfl) (by rfl) (by rfl) (fun W hW => exec_load26 (by rfl) (by rfl) (hW.mv 1)) hS ?_
  try simp only [Act.put, List.getElem_toArray, List.getElem_cons_zero, List.getElem_cons_succ, List.setIfInBounds_toArray, List.set_cons_zero, List.set_cons_succ]
  refine wpX_st _ _ (by rfl) (by rfl) (by rfl) (fun W hW => exec_load26 (by rfl) (by rfl) hW) hS ?_
  try simp only [Act.put, List.getElem_toArray, List.getElem_cons_zero, List.getElem_cons_succ, List.setIfInBounds_toArray, List.set_cons_zero, List.set_cons_succ]
  refine wpX_st _ _ (by rfl) (by rfl) (by rfl) (fun W hW => exec_agg_eql (by rfl) (by rfl) (by rfl) g26 E W) hS ?_
  try simp only [Act.put, List.getElem_toArray, List.getElem_cons_zero, List.getElem_cons_succ, List.setIfInBounds_toArray, List.set_cons_zero, List.set_cons_succ]
  (repeat (refine wpX_st (v := ?_) _ (by rfl) (by rfl) (by rfl) (fun W hW => ?_) hS ?_; rotate_left; (focus ((try dsimp only at hW); go_simp; (try with_reducible rfl); done)); try simp only [Act.put, List.getElem_toArray, List.getElem_cons_zero, List.getElem_cons_succ, List.setIfInBounds_toArray, List.set_cons_zero, List.set_cons_succ]))
  refine wpX_eff _ (by rfl) (by rfl) (by rfl) (fun K hK => ?_)
  go_simp
  refine (num_any _ _ _ hS).mono ?_
  rintro e w' ⟨rfl, rfl⟩
  dsimp only
  (refine hK _ _ (fun hl => ?_) ?_; (first | (focus (cases hl; done)) | exact hS); clear hK K; try simp only [Act.put, List.getElem_toArray, List.getElem_cons_zero, List.getElem_cons_succ, List.setIfInBounds_toArray, List.set_cons_zero, List.set_cons_succ])
  (repeat (refine wpX_st (v := ?_) _ (by rfl) (by rfl) (by rfl) (fun W hW => ?_) hS ?_; rotate_left; (focus ((try dsimp only at hW); go_simp; (try with_reducible rfl); done)); try simp only [Act.put, List.getElem_toArray, List.getElem_cons_zero, List.getElem_cons_succ, List.setIfInBounds_toArray, List.set_cons_zero, List.set_cons_succ]))
  refine wpX_eff _ (by rfl) (by rfl) (by rfl) (fun K hK => ?_)
  go_simp
  refine (knows_ok _ _ hS).mono ?_
  rintro e wS ⟨rfl, hS⟩
  dsimp only
  (refine hK _ _ (fun hl => ?_) ?_; (first | (focus (cases hl; done)) | exact hS); clear hK K; try simp only [Act.put, List.getElem_toArray, List.getElem_cons_zero, List.getElem_cons_succ, List.setIfInBounds_toArray, List.set_cons_zero, List.set_cons_succ])
  (repeat (refine wpX_st (v := ?_) _ (by rfl) (by rfl) (by rfl) (fun W hW => ?_) hS ?_; rotate_left; (focus ((try dsimp only at hW); go_simp; (try with_reducible rfl); done)); try simp only [Act.put, List.getElem_toArray, List.getElem_cons_zero, List.getElem_cons_succ, List.setIfInBounds_toArray, List.set_cons_zero, List.set_cons_succ]))
  (refine wpX_eff _ (by rfl) (by rfl) (by rfl) (fun K hK => ?_); go_simp; refine hK _ _ (fun hl => ?_) ?_; (first | (focus (cases hl; done)) | exact hS); clear hK K; try simp only [Act.put, List.getElem_toArray, List.getElem_cons_zero, List.getElem_cons_succ, List.setIfInBounds_toArray, List.set_cons_zero, List.set_cons_succ])
  (simp only [wpX])
  go_wp2
  go_ret
  exact ⟨by simp, hS.drop.drop.drop⟩

end Go.Proofs.Ytklokbmpapjjiaa
