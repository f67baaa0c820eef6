/- Contracts: Symmetric. -/
import Derived.Test.YtklokbmpapjjiaaStG
open Go.RowKit Go.Own
namespace Go.Proofs.Ytklokbmpapjjiaa

section
variable {ev : Operand → Value} {o : Oper} {x : Operand}

theorem exec_load26 (ho : o.op = .load 26 x) {b : Nat} (hx : ev x = .pointer (some ⟨b, 0, none⟩)) {s : SV} {L : List Asn} {W : World} (h : Hold W (cellsA b 26 (enc s) :: L)) : (execOp ev o).run Try.prog W = .ok (.value (.agg (enc s).toArray)) W := by
  unfold execOp
  simp only [ho, hx, Sem.run_bind, load26 h, Result.andThen_ok, Sem.run_pure]

theorem load24 {w : World} {b : Nat} {s : SV} {L : List Asn} (h : Hold w (cellsA b 26 (enc s) :: L)) : (Instr.loadAt 24 (.pointer (some ⟨b, 1, none⟩))).run Try.prog w = .ok (.agg (u32s 32 s.c).toArray) w := by
  refine h.load 24 1 (u32s 32 s.c) _ ?_ Try.underlying24 rfl ?_
  · show ((u32s 32 s.c)).take (u32s 32 s.c).length = _
    simp
  · rw [u32s_length]; kernel_rfl

theorem exec_load24 (ho : o.op = .load 24 x) {b : Nat} (hx : ev x = .pointer (some ⟨b, 1, none⟩)) {s : SV} {L : List Asn} {W : World} (h : Hold W (cellsA b 26 (enc s) :: L)) : (execOp ev o).run Try.prog W = .ok (.value (.agg (u32s 32 s.c).toArray)) W := by
  unfold execOp
  simp only [ho, hx, Sem.run_bind, load24 h, Result.andThen_ok, Sem.run_pure]

theorem run_field26 (s : SV) (W : World) : (Instr.field 26 (.agg (enc s).toArray) 1).run Try.prog W = .ok (.agg (u32s 32 s.c).toArray) W := by
  obtain ⟨i, hi, hs⟩ : ∃ i, Try.prog.info? 24 = some i ∧ i.size = 32 := by
    have : (Try.prog.info? 24).map (·.size) = some 32 := by kernel_rfl
    cases h : Try.prog.info? 24 with
    | none => simp [h] at this
    | some i => exact ⟨i, rfl, by simpa [h] using this⟩
  simp [Instr.field, run_underlying Try.underlying26, run_underlying Try.underlying25, run_underlying Try.underlying24, part, isAgg, asAgg, sizeOf, typeInfo, hi, hs]
  show ((u32s 32 s.c)).take 32 = u32s 32 s.c
  rw [List.take_of_length_le (by rw [u32s_length]; omega)]

theorem exec_field26 (ho : o.op = .field 26 x 1) {s : SV} (hx : ev x = .agg (enc s).toArray) (W : World) : (execOp ev o).run Try.prog W = .ok (.value (.agg (u32s 32 s.c).toArray)) W := by
  unfold execOp
  simp only [ho, hx, Sem.run_bind, run_field26, Result.andThen_ok, Sem.run_pure]
end

def symV (s : SV) : Bool := check s == 0 && (List.range 32).all fun i => (mir s).c i == s.c i

set_option maxHeartbeats 4000000 in
set_option maxRecDepth 20000 in
theorem sym_ok (s : SV) (hs : s.ok) (w : World) (L : List Asn) (h : Hold w L) :
    Calls Try.prog 13 #[.agg (enc s).toArray] w fun e w' => e = .returned (.tuple #[.bool (symV s), .int .i64 (check s)]) ∧ Hold w' L := by
  have hb := h.box 26 (enc s)
  have C := check_ok s hs
  rcases check_cases s with hc | hc
  · obtain ⟨c1, c2, _, _, _⟩ := check_zero hc
    have hv : symV s = true ↔ ∀ i, i < 32 → (mir s).c i = s.c i := by unfold symV; simp [hc]
    generalize symV s = v at hv ⊢
    have E := eq24 (mir_ok hs c2).2.2 hs.2.2 hv
    rw [hc] at C ⊢
    clear hc h hv
    have M := fun w L h => mirror0_ok s hs w L h c1 c2
    clear c1 c2
    go_enter Try.func13, Try.ntmps13
    go_upto_region 1 with (fail)
    refine gen_world hb (fun w1 hb => ?_)
    generalize w.heap.size = b at *
    go_upto_region 4 with (first
      | (refine wp_load26 rfl _ (by rfl) b (by rfl) hb ?_)
      | (go_at_call 19; refine (C _ _ hb).mono ?_; rintro e w2 ⟨rfl, h2⟩))
    have hS : Hold w2.drew (cellsA b 26 (enc s) :: L) := h2.drew
    refine wp_region_X (fun W => Hold W (cellsA b 26 (enc s) :: L)) [0, 2, 3, 4, 5] [6, 7] [0, 3, 4, 1, 2, 5, 6, 7] (by kernel_rfl) (by kernel_rfl) ?_
    refine wpX_st _ _ (by rfl) (by rfl) (by rfl) (fun W hW => exec_load26 (by rfl) (by rfl) hW) hS ?_
    try simp only [Act.put, List.getElem_toArray, List.getElem_cons_zero, List.getElem_cons_succ, List.setIfInBounds_toArray, List.set_cons_zero, List.set_cons_succ]
    (repeat (refine wpX_st (v := ?_) _ (by rfl) (by rfl) (by rfl) (fun W hW => ?_) hS ?_; rotate_left; (focus ((try dsimp only at hW); go_simp; (try with_reducible rfl); done)); try simp only [Act.put, List.getElem_toArray, List.getElem_cons_zero, List.getElem_cons_succ, List.setIfInBounds_toArray, List.set_cons_zero, List.set_cons_succ]))
    refine wpX_st _ _ (by rfl) (by rfl) (by rfl) (fun W hW => exec_load24 (by rfl) (by rfl) hW) hS ?_
    try simp only [Act.put, List.getElem_toArray, List.getElem_cons_zero, List.getElem_cons_succ, List.setIfInBounds_toArray, List.set_cons_zero, List.set_cons_succ]
    refine wpX_eff _ (by rfl) (by rfl) (by rfl) (fun K hK => ?_)
    go_simp
    refine (M _ _ hS).mono ?_
    rintro e w3 ⟨rfl, h3⟩
    dsimp only
    (refine hK _ _ (fun hl => ?_) ?_; (first | (focus (cases hl; done)) | exact h3); clear hK K; try simp only [Act.put, List.getElem_toArray, List.getElem_cons_zero, List.getElem_cons_succ, List.setIfInBounds_toArray, List.set_cons_zero, List.set_cons_succ])
    refine wpX_st _ _ (by rfl) (by rfl) (by rfl) (fun W hW => exec_field26 (by rfl) (by rfl) W) h3 ?_
    try simp only [Act.put, List.getElem_toArray, List.getElem_cons_zero, List.getElem_cons_succ, List.setIfInBounds_toArray, List.set_cons_zero, List.set_cons_succ]
    refine wpX_st _ _ (by rfl) (by rfl) (by rfl) (fun W hW => exec_agg_eql (by rfl) (by rfl) (by rfl) g24 E W) h3 ?_
    try simp only [Act.put, List.getElem_toArray, List.getElem_cons_zero, List.getElem_cons_succ, List.setIfInBounds_toArray, List.set_cons_zero, List.set_cons_succ]
    (refine wpX_eff _ (by rfl) (by rfl) (by rfl) (fun K hK => ?_); go_simp; refine hK _ _ (fun hl => ?_) ?_; (first | (focus (cases hl; done)) | exact h3); clear hK K; try simp only [Act.put, List.getElem_toArray, List.getElem_cons_zero, List.getElem_cons_succ, List.setIfInBounds_toArray, List.set_cons_zero, List.set_cons_succ])
    (refine wpX_eff _ (by rfl) (by rfl) (by rfl) (fun K hK => ?_); go_simp; refine hK _ _ (fun hl => ?_) ?_; (first | (focus (cases hl; done)) | exact h3); clear hK K; try simp only [Act.put, List.getElem_toArray, List.getElem_cons_zero, List.getElem_cons_succ, List.setIfInBounds_toArray, List.set_cons_zero, List.set_cons_succ])
    (simp only [wpX])
    go_wp2
    go_ret2
    exact ⟨rfl, h3.drop⟩
  · have hv : symV s = false := by unfold symV; simp [hc]
    rw [hv]
    rw [hc] at C ⊢
    clear hc h hv
    go_enter Try.func13, Try.ntmps13
    go_upto_region 1 with (fail)
    refine gen_world hb (fun w1 hb => ?_)
    generalize w.heap.size = b at *
    go_wp2_with (first
      | (refine wp_load26 rfl _ (by rfl) b (by rfl) hb ?_)
      | (go_at_call 19; refine (C _ _ hb).mono ?_; rintro e w2 ⟨rfl, h2⟩))
    go_ret2
    exact ⟨rfl, h2.drop⟩


set_option maxHeartbeats 4000000 in
set_option maxRecDepth 20000 in
theorem rsym_ok (s : SV) (hs : s.ok) (w : World) (L : List Asn) (h : Hold w L) :
    Calls Try.prog 16 #[.agg (enc s).toArray] w fun e w' => e = .returned (.tuple #[.bool (symV s), .int .i64 (check s)]) ∧ Hold w' L := by
  have hb := h.box 26 (enc s)
  have M := rmirror_ok s hs
  rcases check_cases s with hc | hc
  · obtain ⟨c1, c2, _, _, _⟩ := check_zero hc
    have hv : symV s = true ↔ same (mir s) s := by unfold symV same; simp [hc, mir]
    generalize symV s = v at hv ⊢
    have E := eq26 (mir_ok hs c2) hs hv
    have hm : mirV s = mir s := by rw [mirV, if_pos hc]
    rw [hm] at M
    rw [hc] at M ⊢
    clear hc h hv c1 c2 hm
    go_enter Try.func16, Try.ntmps16
    go_upto_region 1 with (fail)
    refine gen_world hb (fun w1 hb => ?_)
    generalize w.heap.size = b at *
    go_wp2_with (first
      | (refine wpList_yw (by rfl) (exec_load26 (by rfl) (by rfl) h4) ?_)
      | (refine wpList_yw (by rfl) (exec_load26 (by rfl) (by rfl) (h4.mv 1)) ?_)
      | (refine wpList_yw (by rfl) (exec_load26 (by rfl) (by rfl) hb) ?_)
      | (go_at_call 17; refine (M _ _ hb).mono ?_; rintro e w2 ⟨rfl, h2⟩; have h3 := h2.boxZ 0)
      | (refine wp_store26 rfl _ _ (by rfl) w2.heap.size (by rfl) (mir s) (by rfl) h3 (fun w4 h4 => ?_))
      | (refine wpList_yw (by rfl) (exec_agg_eql (by rfl) (by rfl) (by rfl) g26 E _) ?_))
    go_ret2
    exact ⟨rfl, h4.drop.drop⟩
  · have hv : symV s = false := by unfold symV; simp [hc]
    rw [hv]
    have hm : mirV s = ⟨0, fun _ => 0⟩ := by rw [mirV, if_neg (by omega)]
    rw [hm] at M
    rw [hc] at M ⊢
    clear hc h hv hm
    go_enter Try.func16, Try.ntmps16
    go_upto_region 1 with (fail)
    refine gen_world hb (fun w1 hb => ?_)
    generalize w.heap.size = b at *
    go_wp2_with (first
      | (refine wpList_yw (by rfl) (exec_load26 (by rfl) (by rfl) hb) ?_)
      | (go_at_call 17; refine (M _ _ hb).mono ?_; rintro e w2 ⟨rfl, h2⟩; have h3 := h2.boxZ 0)
      | (refine wp_store26 rfl _ _ (by rfl) w2.heap.size (by rfl) ⟨0, fun _ => 0⟩ (by rfl) h3 (fun w4 h4 => ?_)))
    go_ret2
    exact ⟨rfl, h4.drop.drop⟩

end Go.Proofs.Ytklokbmpapjjiaa
