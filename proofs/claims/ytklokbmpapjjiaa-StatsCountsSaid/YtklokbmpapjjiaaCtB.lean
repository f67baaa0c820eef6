/- Contracts: the program's counter, made, nil, and unmade. -/
import Derived.Test.YtklokbmpapjjiaaCtA
open Go.RowKit Go.Own
namespace Go.Proofs.Ytklokbmpapjjiaa

/-- An unmade counter's cells. -/
def encU : List Value := enc ⟨0, fun _ => 0⟩ ++ [.bool false]
theorem encU_made : encU[33]? = some (.bool false) := by
  rw [encU, List.getElem?_append_right (by rw [enc_length]; omega), enc_length]; rfl

/-- No counter: nil, or one that nobody made. -/
def noA (T : TypeId) (U : List Value) (pv : Value) : Asn where
  ok B w := (pv = .pointer none ∧ B = []) ∨ ∃ b, pv = .pointer (some ⟨b, 0, none⟩) ∧ B = [b] ∧ Blk w b T U
  stable := by
    rintro B w w' _ _ _ _ _ f h
    rcases h with h | ⟨b, h1, rfl, h3⟩
    · exact .inl h
    · exact .inr ⟨b, h1, rfl, (f b (by simp)).trans h3⟩

theorem _root_.Go.Own.Hold.no {T : TypeId} {U : List Value} {pv : Value} {w : World} {L : List Asn} (h : Hold w (noA T U pv :: L)) : pv = .pointer none ∨ ∃ b, pv = .pointer (some ⟨b, 0, none⟩) ∧ Blk w b T U := by
  obtain ⟨B, h1, _⟩ := h.first
  rcases h1 with ⟨h1, _⟩ | ⟨b, h1, _, h3⟩
  · exact .inl h1
  · exact .inr ⟨b, h1, h3⟩
theorem _root_.Go.Own.Hold.nil_no {w : World} {L : List Asn} (h : Hold w L) (T : TypeId) (U : List Value) : Hold w (noA T U (.pointer none) :: L) :=
  h.new (Fr.refl _ _) (B := []) (.inl ⟨rfl, rfl⟩) (by simp) (by simp)
theorem _root_.Go.Own.Hold.un_no {w : World} {b : Nat} {T : TypeId} {U : List Value} {L : List Asn} (h : Hold w (cellsA b T U :: L)) : Hold w (noA T U (.pointer (some ⟨b, 0, none⟩)) :: L) :=
  h.imp fun B hB => .inr ⟨b, rfl, hB.1, hB.2⟩

theorem cgood_ok (s : SV) (b : Nat) (w : World) (L : List Asn) (h : Hold w (cellsA b 85 (encC s) :: L)) :
    Calls Try.prog 44 #[.pointer (some ⟨b, 0, none⟩)] w fun e w' => e = .returned (.bool true) ∧ w = w' := by
  have g0 := (h.cell 33).trans (encC_made s)
  go_enter Try.func44, Try.ntmps44
  go_wp2
  go_ret
  exact ⟨rfl, rfl⟩

theorem cgood_no (pv : Value) (w : World) (L : List Asn) (h : Hold w (noA 85 encU pv :: L)) : Calls Try.prog 44 #[pv] w fun e w' => e = .returned (.bool false) ∧ w = w' := by
  rcases h.no with rfl | ⟨b, rfl, hB⟩
  · go_enter Try.func44, Try.ntmps44
    go_wp2
    go_ret
    exact ⟨rfl, rfl⟩
  · have g0 := (hB.cell 33).trans encU_made
    go_enter Try.func44, Try.ntmps44
    go_wp2
    go_ret
    exact ⟨rfl, rfl⟩

theorem cadd_ok (s : SV) (bit lev : Nat) (hl : s.lv ≤ 16) (hbit : bit < 256) (hlev : lev < 256) (b : Nat) (w : World) (L : List Asn) (h : Hold w (cellsA b 85 (encC s) :: L)) :
    Calls Try.prog 30 #[.pointer (some ⟨b, 0, none⟩), .int .u8 bit, .int .u8 lev] w fun e w' => e = .returned (.int .i64 (addE s bit lev)) ∧ Hold w' (cellsA b 85 (encC (addV s bit lev)) :: L) := by
  go_enter Try.func30, Try.ntmps30
  go_wp2_with (first
    | (go_at_call 44; refine (cgood_ok s b _ _ h).mono ?_; rintro e w1 ⟨rfl, rfl⟩)
    | (go_at_call 45; refine (more_ok s bit lev hl hbit hlev b _ _ h).mono ?_; rintro e w2 ⟨rfl, h2⟩))
  go_ret
  exact ⟨rfl, h2⟩

theorem cadd_no (pv : Value) (bit lev : Nat) (w : World) (L : List Asn) (h : Hold w (noA 85 encU pv :: L)) :
    Calls Try.prog 30 #[pv, .int .u8 bit, .int .u8 lev] w fun e w' => e = .returned (.int .i64 1) ∧ w = w' := by
  go_enter Try.func30, Try.ntmps30
  go_wp2_with (go_at_call 44; refine (cgood_no pv _ _ h).mono ?_; rintro e w1 ⟨rfl, rfl⟩)
  go_ret
  exact ⟨rfl, rfl⟩

theorem loadC {w : World} {b : Nat} {s : SV} {L : List Asn} (h : Hold w (cellsA b 85 (encC s) :: L)) : (Instr.loadAt 24 (.pointer (some ⟨b, 1, none⟩))).run Try.prog w = .ok (.agg (u32s 32 s.c).toArray) w := by
  refine h.load 24 1 (u32s 32 s.c) _ ?_ Try.underlying24 rfl ?_
  · show ((u32s 32 s.c ++ [Value.bool true])).take (u32s 32 s.c).length = _
    simp
  · rw [u32s_length]; kernel_rfl
theorem exec_loadC {ev : Operand → Value} {o : Oper} {x : Operand} (ho : o.op = .load 24 x) {b : Nat} (hx : ev x = .pointer (some ⟨b, 1, none⟩)) {s : SV} {L : List Asn} {W : World} (h : Hold W (cellsA b 85 (encC s) :: L)) : (execOp ev o).run Try.prog W = .ok (.value (.agg (u32s 32 s.c).toArray)) W := by
  unfold execOp
  simp only [ho, hx, Sem.run_bind, loadC h, Result.andThen_ok, Sem.run_pure]

/-- api.Stats{Levels: .., Count: ..}. -/
theorem exec_build26 {ev : Operand → Value} {o : Oper} {x y : Operand} (ho : o.op = .build 26 #[(0, x), (1, y)]) {lv : Int} {c : Nat → Nat} (hx : ev x = .int .i64 lv) (hy : ev y = .agg (u32s 32 c).toArray) (W : World) :
    (execOp ev o).run Try.prog W = .ok (.value (.agg (enc ⟨lv, c⟩).toArray)) W := by
  have hb : Try.prog.built 26 [(0, .int .i64 lv), (1, .agg (u32s 32 c).toArray)] = some (enc ⟨lv, c⟩).toArray := by kernel_rfl
  unfold execOp
  simp only [ho, Sem.run_bind]
  rw [run_build W 26 _ _ (by simpa [hx, hy] using hb)]
  rfl

theorem oper_store26 {op : Oper} {a : Act} {w : World} {K : Act → World → Prop} {Q : Exit → Act → World → Prop} (x y : Operand) (ho : op.op = .store 26 x y)
    (b : Nat) (hx : a.eval x = .pointer (some ⟨b, 0, none⟩)) (t : SV) (hy : a.eval y = .agg (enc t).toArray) {s : SV} {L : List Asn} (h : Hold w (cellsA b 26 (enc s) :: L))
    (k : ∀ w', Hold w' (cellsA b 26 (enc t) :: L) → K (a.put op.dst undef) w') : op.wp Try.prog a w K Q := by
  obtain ⟨w', h2, h3⟩ := store26 h t
  unfold Oper.wp execOp
  simp only [ho, hx, hy, Sem.run_bind, h2, Result.andThen_ok]
  exact k w' h3

set_option maxHeartbeats 4000000 in
set_option maxRecDepth 20000 in
theorem cstats_ok (s : SV) (b : Nat) (w : World) (L : List Asn) (h : Hold w (cellsA b 85 (encC s) :: L)) :
    Calls Try.prog 31 #[.pointer (some ⟨b, 0, none⟩)] w fun e w' => e = .returned (.agg (enc s).toArray) ∧ Hold w' (cellsA b 85 (encC s) :: L) := by
  have hb := h.boxZ 0
  go_enter Try.func31, Try.ntmps31
  go_upto_region 1 with (fail)
  refine gen_world hb (fun w1 hb => ?_)
  generalize w.heap.size = r at *
  go_upto_region 3 with (go_at_call 44; refine (cgood_ok s b _ _ (hb.mv 1)).mono ?_; rintro e w2 ⟨rfl, rfl⟩)
  have hS := (hb.mv 1).drew
  refine wp_region_Z (fun W => Hold W (cellsA b 85 (encC s) :: cellsA r 26 (enc ⟨0, fun _ => 0⟩) :: L)) [4, 9] [11] [0, 1, 2, 3, 5, 6, 7, 8, 10] [0, 1, 2, 3, 4, 5, 6, 7, 8, 9, 10, 11] (by kernel_rfl) (by kernel_rfl) ?_
  have hS : Hold w1.drew (cellsA b 85 (encC s) :: cellsA r 26 (enc ⟨0, fun _ => 0⟩) :: L) := hS
  have G : ∀ W, Hold W (cellsA b 85 (encC s) :: cellsA r 26 (enc ⟨0, fun _ => 0⟩) :: L) → W.cell? ⟨b, 0, none⟩ = some (.int .i64 s.lv) := fun W h => (h.cell 0).trans (encC_lv s)
  have g0 := G _ hS
  iterate 4 (refine wpZ_pu (v := ?_) _ (by rfl) (by rfl) (by rfl) (by rfl) (fun W => ?_) ?_; (rotate_left; (focus (go_simp; (try with_reducible rfl); done))); try simp only [Act.put, List.getElem_toArray, List.getElem_cons_zero, List.getElem_cons_succ, List.setIfInBounds_toArray, List.set_cons_zero, List.set_cons_succ])
  refine wpZ_st (v := .int .i64 s.lv) _ (by rfl) (by rfl) (by rfl) (fun W hW => by have := G W hW; go_simp) hS ?_
  try simp only [Act.put, List.getElem_toArray, List.getElem_cons_zero, List.getElem_cons_succ, List.setIfInBounds_toArray, List.set_cons_zero, List.set_cons_succ]
  iterate 4 (refine wpZ_pu (v := ?_) _ (by rfl) (by rfl) (by rfl) (by rfl) (fun W => ?_) ?_; (rotate_left; (focus (go_simp; (try with_reducible rfl); done))); try simp only [Act.put, List.getElem_toArray, List.getElem_cons_zero, List.getElem_cons_succ, List.setIfInBounds_toArray, List.set_cons_zero, List.set_cons_succ])
  refine wpZ_st _ _ (by rfl) (by rfl) (by rfl) (fun W hW => exec_loadC (by rfl) (by rfl) hW) hS ?_
  try simp only [Act.put, List.getElem_toArray, List.getElem_cons_zero, List.getElem_cons_succ, List.setIfInBounds_toArray, List.set_cons_zero, List.set_cons_succ]
  refine wpZ_pu _ _ (by rfl) (by rfl) (by rfl) (by rfl) (fun W => exec_build26 (by rfl) (by rfl) (by rfl) W) ?_
  try simp only [Act.put, List.getElem_toArray, List.getElem_cons_zero, List.getElem_cons_succ, List.setIfInBounds_toArray, List.set_cons_zero, List.set_cons_succ]
  refine wpZ_eff _ (by rfl) (by rfl) (by rfl) (by rfl) (fun K hK => ?_)
  refine oper_store26 _ _ (by rfl) r (by rfl) s (by rfl) (hS.mv 1) (fun w3 h3 => ?_)
  (refine hK _ _ (fun hl => ?_) ?_; (first | (focus (cases hl; done)) | trivial); clear hK K; try simp only [Act.put, List.getElem_toArray, List.getElem_cons_zero, List.getElem_cons_succ, List.setIfInBounds_toArray, List.set_cons_zero, List.set_cons_succ])
  (simp only [wpZ])
  go_wp2
  exact bodyPost_ret (res_cell (loadV26 h3) (by rfl) (by rfl)) rfl ⟨rfl, h3.drop⟩

set_option maxHeartbeats 4000000 in
set_option maxRecDepth 20000 in
theorem cstats_no (pv : Value) (w : World) (L : List Asn) (h : Hold w (noA 85 encU pv :: L)) :
    Calls Try.prog 31 #[pv] w fun e w' => e = .returned (.agg (enc ⟨0, fun _ => 0⟩).toArray) ∧ Hold w' (noA 85 encU pv :: L) := by
  have hb := h.boxZ 0
  go_enter Try.func31, Try.ntmps31
  go_upto_region 1 with (fail)
  refine gen_world hb (fun w1 hb => ?_)
  generalize w.heap.size = r at *
  go_wp2_with (first
    | (go_at_call 44; refine (cgood_no pv _ _ (hb.mv 1)).mono ?_; rintro e w2 ⟨rfl, rfl⟩)
    | (refine wp_store26 rfl _ _ (by rfl) r (by rfl) ⟨0, fun _ => 0⟩ (by rfl) hb (fun w4 h4 => ?_)))
  exact bodyPost_ret (res_cell (loadV26 h4) (by rfl) (by rfl)) rfl ⟨rfl, h4.drop⟩

/-- A new counter's counts, while they are laid. -/
def newC (k : Nat) : Nat → Nat := fun i => if i % 16 < k then 1 else 0
theorem newC_zero : newC 0 = fun _ => 0 := by funext i; simp [newC]
theorem newC_step (k i : Nat) (hi : i < 32) (hk : k < 16) : upd (upd (newC k) k 1) (16 + k) 1 i = newC (k + 1) i := by
  unfold upd newC
  by_cases h1 : i % 16 = k
  · have e : i % 16 < k + 1 := by omega
    simp only [e, if_true]
    split
    · rfl
    · rw [if_pos (by omega)]
  · have e1 : ¬ i = 16 + k := by omega
    have e2 : ¬ i = k := by omega
    simp only [e1, e2, if_false]
    by_cases h3 : i % 16 < k
    · have e : i % 16 < k + 1 := by omega
      simp only [h3, e, if_true]
    · have e : ¬ i % 16 < k + 1 := by omega
      simp only [h3, e, if_false]

set_option maxHeartbeats 4000000 in
set_option maxRecDepth 20000 in
theorem cnew_no (n : Int) (hn : n < 2 ∨ 16 < n) (w : World) :
    Calls Try.prog 29 #[.int .i64 n] w fun e w' => e = .returned (.tuple #[.pointer none, .int .i64 1]) ∧ w = w' := by
  rcases hn with hn | hn
  all_goals
    go_enter Try.func29, Try.ntmps29
    go_wp2
    go_ret2
    exact ⟨rfl, rfl⟩

set_option maxHeartbeats 4000000 in
set_option maxRecDepth 20000 in
theorem cnew_ok (m : Nat) (h1 : 2 ≤ m) (h2 : m ≤ 16) (w : World) (L : List Asn) (h : Hold w L) :
    Calls Try.prog 29 #[.int .i64 m] w fun e w' => ∃ b, e = .returned (.tuple #[.pointer (some ⟨b, 0, none⟩), .int .i64 0]) ∧ Hold w' (cellsA b 85 (encC ⟨m, newC m⟩) :: L) := by
  have hb := h.box 85 (encC ⟨m, fun _ => 0⟩)
  rw [encC_zero] at hb
  go_enter Try.func29, Try.ntmps29
  go_upto_region 4 with (fail)
  refine gen_world hb (fun w1 hb => ?_)
  generalize w.heap.size = b at *
  go_wp2
  go_loopw [17] (fun i wr => ∃ k : Nat, k ≤ m ∧ i = .int .i64 k ∧ Hold wr (cellsA b 85 (encC ⟨m, newC k⟩) :: L)) (fun i _ => m - (intOf i).toNat)
  case atStart => exact ⟨0, by omega, rfl, by rw [newC_zero]; exact hb⟩
  case round =>
    obtain ⟨k, hk, rfl, hr⟩ := hrel
    clear hb
    by_cases hlt : k < m
    · have hki : (k : Int) < m := by omega
      have hk16 : (k : Int) < 16 := by omega
      have ka := (hr.cell (1 + k)).trans (encC_at (i := k) (by omega) (by omega))
      have kb := (hr.cell (17 + k)).trans (encC_at (i := 16 + k) (by omega) (by omega))
      have fa := hr.frozen (1 + k)
      have fb := hr.frozen (17 + k)
      go_upto_region 7 with (fail)
      refine wp_region_Z (fun W => True) [] [9, 15] [0, 1, 2, 3, 4, 5, 6, 7, 8, 10, 11, 12, 13, 14] [0, 1, 2, 3, 4, 5, 6, 7, 8, 10, 11, 12, 13, 9, 14, 15] (by kernel_rfl) (by kernel_rfl) ?_
      (repeat (first | (refine wpZ_st (v := ?_) _ (by rfl) (by rfl) (by rfl) (fun W hW => ?_) trivial ?_; (rotate_left; (focus ((try dsimp only at hW); go_simp; (try with_reducible rfl); done))); try simp only [Act.put, List.getElem_toArray, List.getElem_cons_zero, List.getElem_cons_succ, List.setIfInBounds_toArray, List.set_cons_zero, List.set_cons_succ]) | (refine wpZ_pu (v := ?_) _ (by rfl) (by rfl) (by rfl) (by rfl) (fun W => ?_) ?_; (rotate_left; (focus ((try dsimp only at hW); go_simp; (try with_reducible rfl); done))); try simp only [Act.put, List.getElem_toArray, List.getElem_cons_zero, List.getElem_cons_succ, List.setIfInBounds_toArray, List.set_cons_zero, List.set_cons_succ]) | (refine wpZ_no _ (by rfl) (by rfl) (by rfl) (by rfl) ?_; try simp only [Act.put, List.getElem_toArray, List.getElem_cons_zero, List.getElem_cons_succ, List.setIfInBounds_toArray, List.set_cons_zero, List.set_cons_succ]) | (refine wpZ_noS _ (by rfl) (by rfl) (by rfl) trivial ?_; try simp only [Act.put, List.getElem_toArray, List.getElem_cons_zero, List.getElem_cons_succ, List.setIfInBounds_toArray, List.set_cons_zero, List.set_cons_succ])))
      (refine wpZ_eff _ (by rfl) (by rfl) (by rfl) (by rfl) (fun K hK => ?_); go_simp; refine hK _ _ (fun hl => ?_) ?_; (first | (focus (cases hl; done)) | trivial); clear hK K; try simp only [Act.put, List.getElem_toArray, List.getElem_cons_zero, List.getElem_cons_succ, List.setIfInBounds_toArray, List.set_cons_zero, List.set_cons_succ])
      (repeat (first | (refine wpZ_st (v := ?_) _ (by rfl) (by rfl) (by rfl) (fun W hW => ?_) trivial ?_; (rotate_left; (focus ((try dsimp only at hW); go_simp; (try with_reducible rfl); done))); try simp only [Act.put, List.getElem_toArray, List.getElem_cons_zero, List.getElem_cons_succ, List.setIfInBounds_toArray, List.set_cons_zero, List.set_cons_succ]) | (refine wpZ_pu (v := ?_) _ (by rfl) (by rfl) (by rfl) (by rfl) (fun W => ?_) ?_; (rotate_left; (focus ((try dsimp only at hW); go_simp; (try with_reducible rfl); done))); try simp only [Act.put, List.getElem_toArray, List.getElem_cons_zero, List.getElem_cons_succ, List.setIfInBounds_toArray, List.set_cons_zero, List.set_cons_succ]) | (refine wpZ_no _ (by rfl) (by rfl) (by rfl) (by rfl) ?_; try simp only [Act.put, List.getElem_toArray, List.getElem_cons_zero, List.getElem_cons_succ, List.setIfInBounds_toArray, List.set_cons_zero, List.set_cons_succ]) | (refine wpZ_noS _ (by rfl) (by rfl) (by rfl) trivial ?_; try simp only [Act.put, List.getElem_toArray, List.getElem_cons_zero, List.getElem_cons_succ, List.setIfInBounds_toArray, List.set_cons_zero, List.set_cons_succ])))
      (refine wpZ_eff _ (by rfl) (by rfl) (by rfl) (by rfl) (fun K hK => ?_); go_simp; refine hK _ _ (fun hl => ?_) ?_; (first | (focus (cases hl; done)) | trivial); clear hK K; try simp only [Act.put, List.getElem_toArray, List.getElem_cons_zero, List.getElem_cons_succ, List.setIfInBounds_toArray, List.set_cons_zero, List.set_cons_succ])
      (simp only [wpZ])
      have HX := (hr.setc k 1 (by omega)).setc (16 + k) 1 (by omega)
      rw [show k + 1 = 1 + k from by omega, show 16 + k + 1 = 17 + k from by omega] at HX
      simp only [Int.natCast_one] at HX
      go_wp2
      go_roundw
      case rel => exact ⟨k + 1, by omega, by go_num, (HX.as (ds := encC ⟨m, newC (k + 1)⟩) (encC_congr rfl fun i hi => newC_step k i hi (by omega))).drew⟩
      case measure => simp [intOf]; omega
    · obtain rfl : m = k := by omega
      go_wp2
      go_ret2
      exact ⟨b, rfl, hr⟩

end Go.Proofs.Ytklokbmpapjjiaa
