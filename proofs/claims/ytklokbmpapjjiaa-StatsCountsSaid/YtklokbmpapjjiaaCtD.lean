/- Contracts: the reference's counter. -/
import Derived.Test.YtklokbmpapjjiaaCtC
open Go.RowKit Go.Own
namespace Go.Proofs.Ytklokbmpapjjiaa

theorem load26T {w : World} {b : Nat} {T : TypeId} {s : SV} {L : List Asn} (h : Hold w (cellsA b T (enc s) :: L)) : (Instr.loadAt 26 (.pointer (some ⟨b, 0, none⟩))).run Try.prog w = .ok (.agg (enc s).toArray) w := by
  obtain ⟨d, h1, h2⟩ := u26
  exact h.loadAll 26 d h1 h2 (by rw [info26, enc_length])
theorem exec_load26T {ev : Operand → Value} {o : Oper} {x : Operand} (ho : o.op = .load 26 x) {b : Nat} {T : TypeId} (hx : ev x = .pointer (some ⟨b, 0, none⟩)) {s : SV} {L : List Asn} {W : World} (h : Hold W (cellsA b T (enc s) :: L)) : (execOp ev o).run Try.prog W = .ok (.value (.agg (enc s).toArray)) W := by
  unfold execOp
  simp only [ho, hx, Sem.run_bind, load26T h, Result.andThen_ok, Sem.run_pure]

set_option maxHeartbeats 4000000 in
set_option maxRecDepth 20000 in
theorem rstats_ok (s : SV) (b : Nat) (w : World) (L : List Asn) (h : Hold w (cellsA b 94 (enc s) :: L)) :
    Calls Try.prog 37 #[.pointer (some ⟨b, 0, none⟩)] w fun e w' => e = .returned (.agg (enc s).toArray) ∧ Hold w' (cellsA b 94 (enc s) :: L) := by
  have hb := h.boxZ 0
  go_enter Try.func37, Try.ntmps37
  go_upto_region 1 with (fail)
  refine gen_world hb (fun w1 hb => ?_)
  generalize w.heap.size = r at *
  go_wp2_with (first
    | (refine wpList_yw (by rfl) (exec_load26T (by rfl) (by rfl) (hb.mv 1)) ?_)
    | (refine wp_store26 rfl _ _ (by rfl) r (by rfl) s (by rfl) hb (fun w4 h4 => ?_)))
  exact bodyPost_ret (res_cell (loadV26 h4) (by rfl) (by rfl)) rfl ⟨rfl, h4.drop⟩

set_option maxHeartbeats 4000000 in
set_option maxRecDepth 20000 in
theorem rstats_no (w : World) (L : List Asn) (h : Hold w L) :
    Calls Try.prog 37 #[.pointer none] w fun e w' => e = .returned (.agg (enc ⟨0, fun _ => 0⟩).toArray) ∧ Hold w' L := by
  have hb := h.boxZ 0
  go_enter Try.func37, Try.ntmps37
  go_upto_region 1 with (fail)
  refine gen_world hb (fun w1 hb => ?_)
  generalize w.heap.size = r at *
  go_wp2_with (refine wp_store26 rfl _ _ (by rfl) r (by rfl) ⟨0, fun _ => 0⟩ (by rfl) hb (fun w4 h4 => ?_))
  exact bodyPost_ret (res_cell (loadV26 h4) (by rfl) (by rfl)) rfl ⟨rfl, h4.drop⟩

set_option maxHeartbeats 4000000 in
set_option maxRecDepth 20000 in
theorem rnew_no (n : Int) (hn : n < 2 ∨ 16 < n) (w : World) :
    Calls Try.prog 35 #[.int .i64 n] w fun e w' => e = .returned (.tuple #[.pointer none, .int .i64 1]) ∧ w = w' := by
  rcases hn with hn | hn
  all_goals
    go_enter Try.func35, Try.ntmps35
    go_wp2
    go_ret2
    exact ⟨rfl, rfl⟩

set_option maxHeartbeats 4000000 in
set_option maxRecDepth 20000 in
theorem rnew_ok (m : Nat) (h1 : 2 ≤ m) (h2 : m ≤ 16) (w : World) (L : List Asn) (h : Hold w L) :
    Calls Try.prog 35 #[.int .i64 m] w fun e w' => ∃ b, e = .returned (.tuple #[.pointer (some ⟨b, 0, none⟩), .int .i64 0]) ∧ Hold w' (cellsA b 94 (enc ⟨m, newC m⟩) :: L) := by
  have hb := h.box 94 (enc ⟨m, fun _ => 0⟩)
  rw [enc_zero] at hb
  go_enter Try.func35, Try.ntmps35
  go_upto_region 4 with (fail)
  refine gen_world hb (fun w1 hb => ?_)
  generalize w.heap.size = b at *
  go_wp2
  go_loopw [5] (fun i wr => ∃ k : Nat, k ≤ m ∧ i = .int .i64 k ∧ Hold wr (cellsA b 94 (enc ⟨m, newC k⟩) :: L)) (fun i _ => m - (intOf i).toNat)
  case atStart => exact ⟨0, by omega, rfl, by rw [newC_zero]; exact hb⟩
  case round =>
    obtain ⟨k, hk, rfl, hr⟩ := hrel
    clear hb
    by_cases hlt : k < m
    · have hki : (k : Int) < m := by omega
      have hk16 : (k : Int) < 16 := by omega
      have ka := (hr.cell (1 + k)).trans (enc_at (i := k) (by omega) (by omega))
      have kb := (hr.cell (17 + k)).trans (enc_at (i := 16 + k) (by omega) (by omega))
      have fa := hr.frozen (1 + k)
      have fb := hr.frozen (17 + k)
      have HX := (hr.seta (k) 1).seta (16 + k) 1
      rw [show k + 1 = 1 + k from by omega, show 16 + k + 1 = 17 + k from by omega] at HX
      simp only [Int.natCast_one] at HX
      go_wp2
      go_roundw
      case rel => exact ⟨k + 1, by omega, by go_num, (HX.as (ds := enc ⟨m, newC (k + 1)⟩) (enc_congr rfl fun i hi => newC_step k i hi (by omega)))⟩
      case measure => simp [intOf]; omega
    · obtain rfl : m = k := by omega
      go_wp2
      go_ret2
      exact ⟨b, rfl, hr⟩

theorem radd_no (bit lev : Nat) (w : World) :
    Calls Try.prog 48 #[.pointer none, .int .u8 bit, .int .u8 lev] w fun e w' => e = .returned (.int .i64 1) ∧ w = w' := by
  go_enter Try.func48, Try.ntmps48
  go_wp2
  go_ret
  exact ⟨rfl, rfl⟩

set_option maxHeartbeats 4000000 in
set_option maxRecDepth 20000 in
theorem radd_ok (s : SV) (bit lev : Nat) (hl : s.lv ≤ 16) (hbit : bit < 256) (hlev : lev < 256) (b : Nat) (w : World) (L : List Asn) (h : Hold w (cellsA b 94 (enc s) :: L)) :
    Calls Try.prog 48 #[.pointer (some ⟨b, 0, none⟩), .int .u8 bit, .int .u8 lev] w fun e w' => e = .returned (.int .i64 (addE s bit lev)) ∧ Hold w' (cellsA b 94 (enc (addV s bit lev)) :: L) := by
  have g0 := (h.cell 0).trans (enc_lv s)
  by_cases h1 : 1 < bit
  · obtain ⟨e1, e2⟩ := add_1 (s := s) (lev := lev) h1
    rw [e1, e2]
    clear e1 e2
    go_enter Try.func48, Try.ntmps48
    go_wp2
    go_ret
    exact ⟨rfl, h⟩
  · by_cases h2 : s.lv ≤ (lev : Int)
    · obtain ⟨e1, e2⟩ := add_2 (s := s) (bit := bit) (by omega) h2
      rw [e1, e2]
      clear e1 e2
      have h1' : bit ≤ 1 := by omega
      clear h1
      go_enter Try.func48, Try.ntmps48
      go_wp2
      go_ret
      exact ⟨rfl, h⟩
    · have h2' : (lev : Int) < s.lv := by omega
      have hl16 : (lev : Int) < 16 := by omega
      clear h2
      obtain ⟨lv, c⟩ := s
      simp only at g0 hl h2'
      obtain rfl | rfl : bit = 0 ∨ bit = 1 := by omega
      · have ga := (h.cell (1 + lev)).trans (enc_at (i := lev) (by omega) (by omega))
        have fa := h.frozen (1 + lev)
        simp only at ga
        by_cases h3 : 4095 ≤ c (lev)
        · obtain ⟨e1, e2⟩ := add_3 (s := ⟨lv, c⟩) (bit := 0) (lev := lev) (by omega) h2' (by rw [show 16 * 0 + lev = lev from by omega]; exact h3)
          rw [e1, e2]
          have h3' : (4095 : Int) ≤ c (lev) := by omega
          clear e1 e2 h3
          go_enter Try.func48, Try.ntmps48
          go_wp2
          go_ret
          exact ⟨rfl, h⟩
        · obtain ⟨e1, e2⟩ := add_4 (s := ⟨lv, c⟩) (bit := 0) (lev := lev) (by omega) h2' (by rw [show 16 * 0 + lev = lev from by omega]; show c (lev) < 4095; omega)
          rw [e1, e2]
          clear e1 e2
          have h3' : (c (lev) : Int) < 4095 := by omega
          have W1 : IntKind.u32.wrap ((c (lev) : Int) + 1) = (c (lev) : Int) + 1 := IntWalk.u32_in _ (by omega)
          clear h3
          go_enter Try.func48, Try.ntmps48
          go_upto_region 9 with (fail)
          refine wp_region_Z (fun W => W.cell? ⟨b, 1 + lev, none⟩ = some (.int .u32 (c (lev)))) [8] [15] [0, 1, 2, 3, 4, 5, 6, 7, 9, 10, 11, 12, 13, 14] [0, 1, 2, 3, 4, 5, 6, 7, 8, 9, 10, 11, 12, 13, 14, 15] (by kernel_rfl) (by kernel_rfl) ?_
          (repeat (first | (refine wpZ_st (v := ?_) _ (by rfl) (by rfl) (by rfl) (fun W hW => ?_) ga ?_; (rotate_left; (focus ((try dsimp only at hW); go_simp; (try with_reducible rfl); done))); try simp only [Act.put, List.getElem_toArray, List.getElem_cons_zero, List.getElem_cons_succ, List.setIfInBounds_toArray, List.set_cons_zero, List.set_cons_succ]) | (refine wpZ_pu (v := ?_) _ (by rfl) (by rfl) (by rfl) (by rfl) (fun W => ?_) ?_; (rotate_left; (focus ((try dsimp only at hW); go_simp; (try with_reducible rfl); done))); try simp only [Act.put, List.getElem_toArray, List.getElem_cons_zero, List.getElem_cons_succ, List.setIfInBounds_toArray, List.set_cons_zero, List.set_cons_succ]) | (refine wpZ_no _ (by rfl) (by rfl) (by rfl) (by rfl) ?_; try simp only [Act.put, List.getElem_toArray, List.getElem_cons_zero, List.getElem_cons_succ, List.setIfInBounds_toArray, List.set_cons_zero, List.set_cons_succ]) | (refine wpZ_noS _ (by rfl) (by rfl) (by rfl) ga ?_; try simp only [Act.put, List.getElem_toArray, List.getElem_cons_zero, List.getElem_cons_succ, List.setIfInBounds_toArray, List.set_cons_zero, List.set_cons_succ])))
          (refine wpZ_eff _ (by rfl) (by rfl) (by rfl) (by rfl) (fun K hK => ?_); go_simp; refine hK _ _ (fun hl => ?_) ?_; (first | (focus (cases hl; done)) | trivial); clear hK K; try simp only [Act.put, List.getElem_toArray, List.getElem_cons_zero, List.getElem_cons_succ, List.setIfInBounds_toArray, List.set_cons_zero, List.set_cons_succ])
          (simp only [wpZ])
          have HX := (h.seta (lev) (c (lev) + 1)).drew
          rw [show lev + 1 = 1 + lev from by omega] at HX
          simp only [Int.natCast_add, Int.natCast_one] at HX
          go_wp2
          go_ret
          exact ⟨rfl, HX.as (by rw [show 16 * 0 + lev = lev from by omega])⟩
      · have ga := (h.cell (17 + lev)).trans (enc_at (i := 16 + lev) (by omega) (by omega))
        have fa := h.frozen (17 + lev)
        simp only at ga
        by_cases h3 : 4095 ≤ c (16 + lev)
        · obtain ⟨e1, e2⟩ := add_3 (s := ⟨lv, c⟩) (bit := 1) (lev := lev) (by omega) h2' (by rw [show 16 * 1 + lev = 16 + lev from by omega]; exact h3)
          rw [e1, e2]
          have h3' : (4095 : Int) ≤ c (16 + lev) := by omega
          clear e1 e2 h3
          go_enter Try.func48, Try.ntmps48
          go_wp2
          go_ret
          exact ⟨rfl, h⟩
        · obtain ⟨e1, e2⟩ := add_4 (s := ⟨lv, c⟩) (bit := 1) (lev := lev) (by omega) h2' (by rw [show 16 * 1 + lev = 16 + lev from by omega]; show c (16 + lev) < 4095; omega)
          rw [e1, e2]
          clear e1 e2
          have h3' : (c (16 + lev) : Int) < 4095 := by omega
          have W1 : IntKind.u32.wrap ((c (16 + lev) : Int) + 1) = (c (16 + lev) : Int) + 1 := IntWalk.u32_in _ (by omega)
          clear h3
          go_enter Try.func48, Try.ntmps48
          go_upto_region 9 with (fail)
          refine wp_region_Z (fun W => W.cell? ⟨b, 17 + lev, none⟩ = some (.int .u32 (c (16 + lev)))) [8] [15] [0, 1, 2, 3, 4, 5, 6, 7, 9, 10, 11, 12, 13, 14] [0, 1, 2, 3, 4, 5, 6, 7, 8, 9, 10, 11, 12, 13, 14, 15] (by kernel_rfl) (by kernel_rfl) ?_
          (repeat (first | (refine wpZ_st (v := ?_) _ (by rfl) (by rfl) (by rfl) (fun W hW => ?_) ga ?_; (rotate_left; (focus ((try dsimp only at hW); go_simp; (try with_reducible rfl); done))); try simp only [Act.put, List.getElem_toArray, List.getElem_cons_zero, List.getElem_cons_succ, List.setIfInBounds_toArray, List.set_cons_zero, List.set_cons_succ]) | (refine wpZ_pu (v := ?_) _ (by rfl) (by rfl) (by rfl) (by rfl) (fun W => ?_) ?_; (rotate_left; (focus ((try dsimp only at hW); go_simp; (try with_reducible rfl); done))); try simp only [Act.put, List.getElem_toArray, List.getElem_cons_zero, List.getElem_cons_succ, List.setIfInBounds_toArray, List.set_cons_zero, List.set_cons_succ]) | (refine wpZ_no _ (by rfl) (by rfl) (by rfl) (by rfl) ?_; try simp only [Act.put, List.getElem_toArray, List.getElem_cons_zero, List.getElem_cons_succ, List.setIfInBounds_toArray, List.set_cons_zero, List.set_cons_succ]) | (refine wpZ_noS _ (by rfl) (by rfl) (by rfl) ga ?_; try simp only [Act.put, List.getElem_toArray, List.getElem_cons_zero, List.getElem_cons_succ, List.setIfInBounds_toArray, List.set_cons_zero, List.set_cons_succ])))
          (refine wpZ_eff _ (by rfl) (by rfl) (by rfl) (by rfl) (fun K hK => ?_); go_simp; refine hK _ _ (fun hl => ?_) ?_; (first | (focus (cases hl; done)) | trivial); clear hK K; try simp only [Act.put, List.getElem_toArray, List.getElem_cons_zero, List.getElem_cons_succ, List.setIfInBounds_toArray, List.set_cons_zero, List.set_cons_succ])
          (simp only [wpZ])
          have HX := (h.seta (16 + lev) (c (16 + lev) + 1)).drew
          rw [show 16 + lev + 1 = 17 + lev from by omega] at HX
          simp only [Int.natCast_add, Int.natCast_one] at HX
          go_wp2
          go_ret
          exact ⟨rfl, HX.as (by rw [show 16 * 1 + lev = 16 + lev from by omega])⟩

end Go.Proofs.Ytklokbmpapjjiaa
