/- Contracts: the reference's Slot. -/
import Derived.Test.YtjnjbmkkfkdhcaaSeW
open Go.RowKit Go.Own
namespace Go.Proofs.Ytjnjbmkkfkdhcaa

theorem KI.tick {F : Nat} {S : SS} {G : List (List UInt8)} (H : KI F S G) : KI F (tickS S) G := by
  obtain ⟨k1, k2, k3, k4, k5, k6, k7⟩ := tick_same S
  exact ⟨H.si.tick, by rw [k1]; exact H.fb, by rw [k2, k1]; exact H.eq, by rw [k5]; exact H.fin⟩

/-- An empty row of one's own. -/
theorem emptyRow {w : World} {L : List Asn} (h : Hold w L) (E : TypeId) : Hold (w.alloc (.cells #[] E)) (rowA E 1 (some ⟨w.heap.size, 0, none⟩) 0 0 [] :: L) :=
  h.new ((Fr.refl _ _).alloc _) (B := [w.heap.size]) (Own.new w E 1 0 0 #[] (by omega) (by unfold maxLen; omega) (by simp)) (by simp) (by simp)

theorem wp_append_empty_h {P : Program} {w : World} {L : List Asn} {o : Oper} {a : Act} {K : Act → World → Prop} {Q : Exit → Act → World → Prop} (s x : Operand) (t : TypeId)
    (hop : o.op = Op.call { callee := Callee.builtin Builtin.append, args := #[s, x], argTypes := #[t, t] })
    (E : TypeId) (i : TypeInfo) (z : Value) (sz by_ : Nat) (ht : P.underlying t = some (.slice E)) (hi : P.info? E = some i) (hz : i.zero = some z) (hsz : i.size = sz) (hby : i.bytes = by_)
    (hzc : z.cells.size = sz) (ao : Option Addr) (hv : a.eval s = .slice ao 0 0) (h : Hold w (rowA E sz ao 0 0 [] :: L)) (sv : Value) (hx : a.eval x = sv) (m : Nat) (news : List Value) (S : List Nat)
    (hr : Rd w sz sv m news S) (h1 : ∀ u ∈ news, u.oneCell' = true) (h63 : m ≤ maxLen) (hfit : m * by_ ≤ 140737488355328)
    (hK : ∀ ao' cap' w', Hold w' (rowA E sz ao' m cap' news :: L) → m ≤ cap' → K (a.put o.dst (.slice ao' m cap')) w') : o.wp P a w K Q := by
  refine wp_append_src_h s x t hop E i z sz by_ ht hi hz hsz hby hzc ao 0 0 [] hv h sv hx m news S hr h1 (by omega) (by rw [Nat.zero_add]; exact hfit) (fun ao' cap' w' g1 g2 => ?_)
  rw [Nat.zero_add] at g1 g2 ⊢
  exact hK ao' cap' w' g1 g2

/-- A struct written whole. -/
theorem wp_storeAll_h {P : Program} {op : Oper} {a : Act} {w : World} {K : Act → World → Prop} {Q : Exit → Act → World → Prop} (ty : TypeId) (x y : Operand) (ho : op.op = .store ty x y)
    (b : Nat) (hx : a.eval x = .pointer (some ⟨b, 0, none⟩)) (vs : List Value) (hy : a.eval y = .agg vs.toArray) {T : TypeId} {cs : List Value} {L : List Asn} (h : Hold w (cellsA b T cs :: L))
    (hl : vs.length = cs.length) (hi : (P.info? ty).map (·.size) = some vs.length) (h1 : ∀ v ∈ vs, v.oneCell' = true)
    (k : ∀ w', Hold w' (cellsA b T vs :: L) → K (a.put op.dst undef) w') : op.wp P a w K Q := by
  obtain ⟨w', h2, h3⟩ := h.storeAll (P := P) ty vs hl hi h1
  unfold Oper.wp execOp
  simp only [ho, hx, hy, Sem.run_bind, h2, Result.andThen_ok]
  exact k w' h3

set_option maxHeartbeats 4000000 in
set_option maxRecDepth 20000 in
theorem rslot_ok (b : Nat) (S : SS) (F : Nat) (G : List (List UInt8)) (hK : KI F S G) (w : World) (L : List Asn) (h : Hold w (rfA b S F G :: L)) :
    Calls Try.prog 31 #[.pointer (some ⟨b, 0, none⟩)] w fun e w' =>
      (ready (tickS S) = true ∧ ∃ (x : List UInt8) (ao : Option Addr) (cap : Nat), S.L[(tickS S).next - S.base]? = some x ∧ x.length ≤ 64 ∧ e = .returned (.tuple #[.agg #[.int .i64 2, .int .u32 (tickS S).next, .int .u32 0, .slice ao x.length cap], .bool true]) ∧ Hold w' (rowA 5 1 ao x.length cap (ub x) :: rfA b (slotS S) F G :: L)) ∨
      (ready (tickS S) = false ∧ e = .returned (.tuple #[.agg zeroF.toArray, .bool false]) ∧ Hold w' (rfA b (slotS S) F G :: L)) := by
  obtain ⟨i5, hi, hz0, hz1, hz2⟩ := info_parts info5
  obtain ⟨lo, lc, h1⟩ := rf_open h
  have hb := h1.box 39 zeroF
  have hb1 := hb.arr [1, 0]
  (try dsimp only [Go.Own.front, Go.Own.arrA, Go.Own.atA, Go.Own.dropA, List.length_cons, List.length_nil, Nat.zero_add, Nat.reduceAdd] at hb1)
  obtain ⟨qb, hqb⟩ : ∃ qb, w.heap.size = qb := ⟨_, rfl⟩
  have HK := Lib.hid hK
  clear h h1 hb hK
  go_enter Try.func31, Try.ntmps31
  go_upto_region 1 with (fail)
  have hb1 : Hold (w.alloc (.cells #[.int .i64 0, .int .u32 0, .int .u32 0, .slice none 0 0] 39)) (cellsA b 65 (rcells S F (.slice lo G.length lc)) :: cellsA w.heap.size 39 zeroF :: rowsA lo lc G :: L) := hb1
  refine gen_world hb1 (fun w1 hb1 => ?_)
  simp only [hqb] at hb1
  try simp only [hqb]
  clear hqb
  have hS := hb1.drew
  obtain ⟨-, -, -, -, -, g5, g6, -, -⟩ := rfM hS
  refine wp_region_Z (fun W => W.cell? ⟨b, 6, none⟩ = some (.int .u64 S.next) ∧ W.cell? ⟨b, 5, none⟩ = some (.int .u64 S.base)) [3, 7] [] [0, 1, 2, 4, 5, 6, 8] [0, 1, 2, 3, 4, 5, 6, 7, 8] (by kernel_rfl) (by kernel_rfl) ?_
  (repeat (first | (refine wpZ_st (v := ?_) _ (by rfl) (by rfl) (by rfl) (fun W hW => ?_) (by exact ⟨g6, g5⟩) ?_; (rotate_left; (focus ((try dsimp only at hW); go_simp; (try with_reducible rfl); done))); try simp only [Act.put, List.getElem_toArray, List.getElem_cons_zero, List.getElem_cons_succ, List.setIfInBounds_toArray, List.set_cons_zero, List.set_cons_succ]) | (refine wpZ_pu (v := ?_) _ (by rfl) (by rfl) (by rfl) (by rfl) (fun W => ?_) ?_; (rotate_left; (focus ((try dsimp only at hW); go_simp; (try with_reducible rfl); done))); try simp only [Act.put, List.getElem_toArray, List.getElem_cons_zero, List.getElem_cons_succ, List.setIfInBounds_toArray, List.set_cons_zero, List.set_cons_succ]) | (refine wpZ_no _ (by rfl) (by rfl) (by rfl) (by rfl) ?_; try simp only [Act.put, List.getElem_toArray, List.getElem_cons_zero, List.getElem_cons_succ, List.setIfInBounds_toArray, List.set_cons_zero, List.set_cons_succ]) | (refine wpZ_noS _ (by rfl) (by rfl) (by rfl) (by exact ⟨g6, g5⟩) ?_; try simp only [Act.put, List.getElem_toArray, List.getElem_cons_zero, List.getElem_cons_succ, List.setIfInBounds_toArray, List.set_cons_zero, List.set_cons_succ])))
  (simp only [wpZ])
  go_upto_if 13 with (fail)
  go_cut [30] (fun _ wc => Hold wc (cellsA b 65 (rcells (tickS S) F (.slice lo G.length lc)) :: cellsA qb 39 zeroF :: rowsA lo lc G :: L))
  case first =>
    have htl := HK.out.si.tl
    have htm := HK.out.si.tm
    by_cases hbn : S.base < S.next
    · have hbi : (S.base : Int) < S.next := by omega
      have W1 : IntKind.i64.wrap ((S.timer : Int) + 1) = (S.timer : Int) + 1 := IntWalk.i64_in _ (by omega)
      have g8 : w1.drew.cell? ⟨b, 8, none⟩ = some (.int .i64 S.timer) := hS.cell 8
      have f8 := hS.frozen 8
      have HV := hS.st 8 (.int .i64 ((S.timer : Int) + 1))
      have ht9 : (S.timer : Int) ≤ 9223372036854775806 := by omega
      by_cases ht : S.timer + 1 = S.timeout
      · have ht2 : ((S.timer : Int) + 1 == S.timeout) = true := by rw [beq_iff_eq]; omega
        have e : tickS S = { S with next := S.base, timer := 0 } := by unfold tickS; rw [if_pos hbn, if_pos ht]
        have HE := Lib.hid e
        clear e hbn ht htl htm
        go_upto_region 3 with (fail)
        refine gen_world HV (fun w2 HV => ?_)
        clear g5 g6 g8 hS f8 hb1
        have hT := HV.drew
        have k8 : w2.drew.cell? ⟨b, 8, none⟩ = some (.int .i64 ((S.timer : Int) + 1)) := hT.cell 8
        have k2 : w2.drew.cell? ⟨b, 2, none⟩ = some (.int .i64 S.timeout) := hT.cell 2
        refine wp_region_Z (fun W => W.cell? ⟨b, 8, none⟩ = some (.int .i64 ((S.timer : Int) + 1)) ∧ W.cell? ⟨b, 2, none⟩ = some (.int .i64 S.timeout)) [3, 7] [] [0, 1, 2, 4, 5, 6, 8] [0, 1, 2, 3, 4, 5, 6, 7, 8] (by kernel_rfl) (by kernel_rfl) ?_
        (repeat (first | (refine wpZ_st (v := ?_) _ (by rfl) (by rfl) (by rfl) (fun W hW => ?_) (by exact ⟨k8, k2⟩) ?_; (rotate_left; (focus ((try dsimp only at hW); go_simp; (try with_reducible rfl); done))); try simp only [Act.put, List.getElem_toArray, List.getElem_cons_zero, List.getElem_cons_succ, List.setIfInBounds_toArray, List.set_cons_zero, List.set_cons_succ]) | (refine wpZ_pu (v := ?_) _ (by rfl) (by rfl) (by rfl) (by rfl) (fun W => ?_) ?_; (rotate_left; (focus ((try dsimp only at hW); go_simp; (try with_reducible rfl); done))); try simp only [Act.put, List.getElem_toArray, List.getElem_cons_zero, List.getElem_cons_succ, List.setIfInBounds_toArray, List.set_cons_zero, List.set_cons_succ]) | (refine wpZ_no _ (by rfl) (by rfl) (by rfl) (by rfl) ?_; try simp only [Act.put, List.getElem_toArray, List.getElem_cons_zero, List.getElem_cons_succ, List.setIfInBounds_toArray, List.set_cons_zero, List.set_cons_succ]) | (refine wpZ_noS _ (by rfl) (by rfl) (by rfl) (by exact ⟨k8, k2⟩) ?_; try simp only [Act.put, List.getElem_toArray, List.getElem_cons_zero, List.getElem_cons_succ, List.setIfInBounds_toArray, List.set_cons_zero, List.set_cons_succ])))
        (simp only [wpZ])
        go_upto_region 4 with (fail)
        refine gen_world hT (fun w3 hT => ?_)
        clear k8 k2
        have k5 : w3.cell? ⟨b, 5, none⟩ = some (.int .u64 S.base) := hT.cell 5
        have k6 : w3.cell? ⟨b, 6, none⟩ = some (.int .u64 S.next) := hT.cell 6
        have k8 : w3.cell? ⟨b, 8, none⟩ = some (.int .i64 ((S.timer : Int) + 1)) := hT.cell 8
        have f6 := hT.frozen 6
        have f8 := hT.frozen 8
        have HX := (hT.st 6 (.int .u64 S.base)).st 8 (.int .i64 0)
        go_wp2
        go_meet
        exact HX.as (by rw [HE.out]; rfl)
      · have ht2 : ((S.timer : Int) + 1 == S.timeout) = false := by rw [beq_eq_false_iff_ne]; omega
        have e : tickS S = { S with timer := S.timer + 1 } := by unfold tickS; rw [if_pos hbn, if_neg ht]
        have HE := Lib.hid e
        clear e hbn ht htl htm
        go_upto_region 3 with (fail)
        refine gen_world HV (fun w2 HV => ?_)
        clear g5 g6 g8 hS f8 hb1
        have hT := HV.drew
        have k8 : w2.drew.cell? ⟨b, 8, none⟩ = some (.int .i64 ((S.timer : Int) + 1)) := hT.cell 8
        have k2 : w2.drew.cell? ⟨b, 2, none⟩ = some (.int .i64 S.timeout) := hT.cell 2
        refine wp_region_Z (fun W => W.cell? ⟨b, 8, none⟩ = some (.int .i64 ((S.timer : Int) + 1)) ∧ W.cell? ⟨b, 2, none⟩ = some (.int .i64 S.timeout)) [3, 7] [] [0, 1, 2, 4, 5, 6, 8] [0, 1, 2, 3, 4, 5, 6, 7, 8] (by kernel_rfl) (by kernel_rfl) ?_
        (repeat (first | (refine wpZ_st (v := ?_) _ (by rfl) (by rfl) (by rfl) (fun W hW => ?_) (by exact ⟨k8, k2⟩) ?_; (rotate_left; (focus ((try dsimp only at hW); go_simp; (try with_reducible rfl); done))); try simp only [Act.put, List.getElem_toArray, List.getElem_cons_zero, List.getElem_cons_succ, List.setIfInBounds_toArray, List.set_cons_zero, List.set_cons_succ]) | (refine wpZ_pu (v := ?_) _ (by rfl) (by rfl) (by rfl) (by rfl) (fun W => ?_) ?_; (rotate_left; (focus ((try dsimp only at hW); go_simp; (try with_reducible rfl); done))); try simp only [Act.put, List.getElem_toArray, List.getElem_cons_zero, List.getElem_cons_succ, List.setIfInBounds_toArray, List.set_cons_zero, List.set_cons_succ]) | (refine wpZ_no _ (by rfl) (by rfl) (by rfl) (by rfl) ?_; try simp only [Act.put, List.getElem_toArray, List.getElem_cons_zero, List.getElem_cons_succ, List.setIfInBounds_toArray, List.set_cons_zero, List.set_cons_succ]) | (refine wpZ_noS _ (by rfl) (by rfl) (by rfl) (by exact ⟨k8, k2⟩) ?_; try simp only [Act.put, List.getElem_toArray, List.getElem_cons_zero, List.getElem_cons_succ, List.setIfInBounds_toArray, List.set_cons_zero, List.set_cons_succ])))
        (simp only [wpZ])
        go_wp2
        go_meet
        exact hT.as (by rw [HE.out]; rfl)
    · have hbi : (S.next : Int) ≤ S.base := by omega
      have e : tickS S = S := by unfold tickS; rw [if_neg hbn]
      have HE := Lib.hid e
      clear e hbn htl htm
      go_wp2
      go_meet
      exact hS.as (by rw [HE.out])
  case rest =>
    clear g5 g6 hS hb1
    obtain ⟨e1, e2, e3, e4, e5, e6, e7⟩ := tick_same S
    have KT := HK.out.tick
    have eS : slotS S = if ready (tickS S) then goS (tickS S) else tickS S := rfl
    generalize hT : tickS S = T at *
    have HTE := Lib.hid hT
    have hws := KT.si.ws
    have hs2 := KT.si.s256
    have hbn := KT.si.bn
    have hnt := KT.si.nt
    have htf := KT.si.tf
    have hmx := KT.si.max
    have hS := hcut.drew
    obtain ⟨g0, -, -, -, -, g5, g6, -, -⟩ := rfM hS
    have hS2 := hS.drew
    obtain ⟨k0, -, -, -, -, k5, k6, -, -⟩ := rfM hS2
    have PR := fun w L h => rend_cells b T F G KT lo lc w L h
    have W1 : IntKind.u64.wrap ((T.next : Int) - T.base) = (T.next : Int) - T.base := IntWalk.u64_in _ (by omega)
    have W2 : IntKind.u64.wrap (T.window : Int) = T.window := IntWalk.u64_in _ (by omega)
    have hbi : (T.base : Int) ≤ T.next := by omega
    have HH := Lib.hid (And.intro KT (And.intro e2 (And.intro e1 e6)))
    have HES := Lib.hid eS
    clear HK e1 e2 e3 e4 e5 e6 e7 KT eS hT hmx htf hnt hbn hs2 hws
    go_upto_region 6 with (fail)
    by_cases hr1 : T.next < T.fin
    · by_cases hr2 : T.next - T.base < T.window
      · have hre : ready T = true := by unfold ready; exact decide_eq_true ⟨hr1, hr2⟩
        have hd1 : decide (T.fin ≤ T.next) = false := by simp; omega
        have hd2 : decide ((T.window : Int) ≤ (T.next : Int) - T.base) = false := by simp; omega
        have HR := Lib.hid hre
        have HN := Lib.hid hr1
        clear hre hr1 hr2
        refine wp_region_Z (fun W => W.cell? ⟨b, 6, none⟩ = some (.int .u64 T.next) ∧ W.cell? ⟨b, 5, none⟩ = some (.int .u64 T.base) ∧ W.cell? ⟨b, 0, none⟩ = some (.int .i64 T.window)) [3, 11, 15, 20, 21] [] [0, 1, 2, 4, 6, 7, 8, 9, 10, 12, 13, 14, 16, 17, 18, 19, 22, 23] [0, 1, 2, 3, 4, 5, 6, 7, 8, 9, 10, 11, 12, 13, 14, 15, 16, 17, 18, 19, 20, 21, 22, 23] (by kernel_rfl) (by kernel_rfl) ?_
        (repeat (first | (refine wpZ_st (v := ?_) _ (by rfl) (by rfl) (by rfl) (fun W hW => ?_) (by exact ⟨g6, g5, g0⟩) ?_; (rotate_left; (focus ((try dsimp only at hW); go_simp; (try with_reducible rfl); done))); try simp only [Act.put, List.getElem_toArray, List.getElem_cons_zero, List.getElem_cons_succ, List.setIfInBounds_toArray, List.set_cons_zero, List.set_cons_succ]) | (refine wpZ_pu (v := ?_) _ (by rfl) (by rfl) (by rfl) (by rfl) (fun W => ?_) ?_; (rotate_left; (focus ((try dsimp only at hW); go_simp; (try with_reducible rfl); done))); try simp only [Act.put, List.getElem_toArray, List.getElem_cons_zero, List.getElem_cons_succ, List.setIfInBounds_toArray, List.set_cons_zero, List.set_cons_succ]) | (refine wpZ_no _ (by rfl) (by rfl) (by rfl) (by rfl) ?_; try simp only [Act.put, List.getElem_toArray, List.getElem_cons_zero, List.getElem_cons_succ, List.setIfInBounds_toArray, List.set_cons_zero, List.set_cons_succ]) | (refine wpZ_noS _ (by rfl) (by rfl) (by rfl) (by exact ⟨g6, g5, g0⟩) ?_; try simp only [Act.put, List.getElem_toArray, List.getElem_cons_zero, List.getElem_cons_succ, List.setIfInBounds_toArray, List.set_cons_zero, List.set_cons_succ])))
        refine wpZ_eff _ (by rfl) (by rfl) (by rfl) (by rfl) (fun K hK => ?_)
        go_simp
        refine (PR _ _ hS).mono ?_
        rintro e w5 ⟨rfl, rfl⟩
        dsimp only
        (refine hK _ _ (fun hl => ?_) ?_; (first | (focus (cases hl; done)) | exact ⟨k6, k5, k0⟩); clear hK K; try simp only [Act.put, List.getElem_toArray, List.getElem_cons_zero, List.getElem_cons_succ, List.setIfInBounds_toArray, List.set_cons_zero, List.set_cons_succ])
        (repeat (first | (refine wpZ_st (v := ?_) _ (by rfl) (by rfl) (by rfl) (fun W hW => ?_) (by exact ⟨k6, k5, k0⟩) ?_; (rotate_left; (focus ((try dsimp only at hW); go_simp; (try with_reducible rfl); done))); try simp only [Act.put, List.getElem_toArray, List.getElem_cons_zero, List.getElem_cons_succ, List.setIfInBounds_toArray, List.set_cons_zero, List.set_cons_succ]) | (refine wpZ_pu (v := ?_) _ (by rfl) (by rfl) (by rfl) (by rfl) (fun W => ?_) ?_; (rotate_left; (focus ((try dsimp only at hW); go_simp; (try with_reducible rfl); done))); try simp only [Act.put, List.getElem_toArray, List.getElem_cons_zero, List.getElem_cons_succ, List.setIfInBounds_toArray, List.set_cons_zero, List.set_cons_succ]) | (refine wpZ_no _ (by rfl) (by rfl) (by rfl) (by rfl) ?_; try simp only [Act.put, List.getElem_toArray, List.getElem_cons_zero, List.getElem_cons_succ, List.setIfInBounds_toArray, List.set_cons_zero, List.set_cons_succ]) | (refine wpZ_noS _ (by rfl) (by rfl) (by rfl) (by exact ⟨k6, k5, k0⟩) ?_; try simp only [Act.put, List.getElem_toArray, List.getElem_cons_zero, List.getElem_cons_succ, List.setIfInBounds_toArray, List.set_cons_zero, List.set_cons_succ])))
        (simp only [wpZ])
        go_upto_region 8 with (fail)
        refine gen_world hS2 (fun w2 hS => ?_)
        clear g0 g5 g6 k0 k5 k6 hS2 PR
        obtain ⟨KT, e2, e1, e6⟩ := HH.out
        obtain ⟨vs, hvl, h8⟩ := rows_open (hS.mv 2)
        have hX := h8.arr [2, 0, 1, 3]
        (try dsimp only [Go.Own.front, Go.Own.arrA, Go.Own.atA, Go.Own.dropA, List.length_cons, List.length_nil, Nat.zero_add, Nat.reduceAdd] at hX)
        have hfb := KT.fb
        have hbn := KT.si.bn
        have hfin := KT.fin
        have hmx := KT.si.max
        have hN := HN.out
        have hle := KT.le
        have hfi := KT.si.fin
        have hdl : T.next - T.base < T.L.length := by omega
        obtain ⟨x9, hx9⟩ : ∃ x, T.L[T.next - T.base]? = some x := ⟨T.L[T.next - T.base], List.getElem?_eq_getElem hdl⟩
        obtain ⟨d, hd⟩ : ∃ d, T.next - F = d := ⟨_, rfl⟩
        have hGx : G[d]? = some x9 := by have := KT.at hx9; rw [show T.base - F + (T.next - T.base) = d by omega] at this; exact this
        have hdG : d < G.length := by omega
        obtain ⟨gb, gp, rfl, xs, u, hxs, -, hrw, FG⟩ := row_at hvl rfl hdG (hX.mv 1)
        obtain rfl : x9 = xs := by rw [hGx] at hxs; simpa using hxs
        have hx64 : x9.length ≤ 64 := KT.si.short x9 (List.mem_of_getElem? hx9)
        have W3 : IntKind.u64.wrap ((T.next : Int) - F) = d := by rw [show (T.next : Int) - F = d by omega]; exact IntWalk.u64_in _ (by omega)
        have W4 : IntKind.u32.wrap (T.next : Int) = T.next := IntWalk.u32_in _ (by omega)
        have W5 : (T.next : Int) % 4294967296 = T.next := by omega
        have W6 : IntKind.u64.wrap ((T.next : Int) + 1) = (T.next : Int) + 1 := IntWalk.u64_in _ (by omega)
        have hdi : (d : Int) < G.length := by omega
        have hd0 : 0 ≤ (d : Int) := by omega
        have HLX : Hid (S.L[T.next - S.base]? = some x9 ∧ x9.length ≤ 64) := Lib.hid ⟨by rw [← e1, ← e2]; exact hx9, hx64⟩
        have HU := Lib.hid (ub_one x9)
        have HRW := Lib.hid hrw
        have FS : ∀ W R, Hold W (cellsA b 65 (rcells T F (.slice (some ⟨gb, gp, none⟩) G.length lc)) :: rowA 32 1 (some ⟨gb, gp, none⟩) G.length lc (sl G vs) :: R) → W.cell? ⟨b, 6, none⟩ = some (.int .u64 T.next) ∧ W.cell? ⟨b, 4, none⟩ = some (.slice (some ⟨gb, gp, none⟩) G.length lc) ∧ W.cell? ⟨b, 3, none⟩ = some (.int .u64 F) ∧ W.cell? ⟨gb, gp + d, none⟩ = some (.slice u.1 x9.length u.2) := fun W R hW =>
          ⟨hW.cell 6, hW.cell 4, hW.cell 3, (FG _ _ (hW.mv 1)).1⟩
        have HFS := Lib.hid FS
        have HVL := Lib.hid hvl
        clear KT e2 e1 e6 hfb hbn hfin hmx hN hle hfi hdl hx9 hGx hdG hxs hrw FG hx64 FS hd h8 hS hvl
        go_cut [4] (fun v wc => ∃ qx a2 c2, v = .pointer (some ⟨qx, 0, none⟩) ∧ Hold wc (cellsA b 65 (rcells T F (.slice (some ⟨gb, gp, none⟩) G.length lc)) :: cellsA qx 39 [.int .i64 2, .int .u32 T.next, .int .u32 0, .slice a2 x9.length c2] :: cellsA qb 39 zeroF :: rowA 5 1 a2 x9.length c2 (ub x9) :: rowA 32 1 (some ⟨gb, gp, none⟩) G.length lc (sl G vs) :: starL (rws G vs) :: L))
        case first =>
          have hX9 := hX.drew
          refine wp_region_ZP (fun W => W.cell? ⟨b, 6, none⟩ = some (.int .u64 T.next) ∧ W.cell? ⟨b, 4, none⟩ = some (.slice (some ⟨gb, gp, none⟩) G.length lc) ∧ W.cell? ⟨b, 3, none⟩ = some (.int .u64 F) ∧ W.cell? ⟨gb, gp + d, none⟩ = some (.slice u.1 x9.length u.2)) [3, 4, 9, 13, 17, 20] [24] [0, 1, 2, 6, 7, 8, 10, 11, 12, 14, 15, 16, 18, 19, 22] (.fork [0, 1, 2, 3, 4, 6, 7, 8, 9, 10, 11, 12, 13, 14, 15, 16, 17, 18, 19, 20] 5 (.fork [] 21 (.run [22, 23, 24]) 23 (.run [21, 22, 24])) 23 (.run [5, 21, 22, 24])) (by kernel_rfl) (by kernel_rfl) ?_
          generalize w2.drew = w9 at *
          obtain ⟨n9, hn9⟩ : ∃ n, w9.heap.size = n := ⟨_, rfl⟩
          simp only [wpZP]
          (repeat (first | (refine wpZ_st (v := ?_) _ (by rfl) (by rfl) (by rfl) (fun W hW => ?_) (by exact HFS.out _ _ hX9) ?_; (rotate_left; (focus ((try dsimp only at hW); go_simp; (try with_reducible rfl); done))); try simp only [Act.put, List.getElem_toArray, List.getElem_cons_zero, List.getElem_cons_succ, List.setIfInBounds_toArray, List.set_cons_zero, List.set_cons_succ]) | (refine wpZ_pu (v := ?_) _ (by rfl) (by rfl) (by rfl) (by rfl) (fun W => ?_) ?_; (rotate_left; (focus ((try dsimp only at hW); go_simp; (try with_reducible rfl); done))); try simp only [Act.put, List.getElem_toArray, List.getElem_cons_zero, List.getElem_cons_succ, List.setIfInBounds_toArray, List.set_cons_zero, List.set_cons_succ]) | (refine wpZ_no _ (by rfl) (by rfl) (by rfl) (by rfl) ?_; try simp only [Act.put, List.getElem_toArray, List.getElem_cons_zero, List.getElem_cons_succ, List.setIfInBounds_toArray, List.set_cons_zero, List.set_cons_succ]) | (refine wpZ_noS _ (by rfl) (by rfl) (by rfl) (by exact HFS.out _ _ hX9) ?_; try simp only [Act.put, List.getElem_toArray, List.getElem_cons_zero, List.getElem_cons_succ, List.setIfInBounds_toArray, List.set_cons_zero, List.set_cons_succ])))
          refine wpZ_fork ⟨?_, ?_⟩
          · have h5 := emptyRow hX9 5
            simp only [hn9] at h5
            obtain ⟨SR, r0⟩ := (h5.mv 3).reads (Reads.ofL HRW.out (Reads.row 5 1 u.1 x9.length u.2 (ub x9)))
            refine fork_eff _ (by rfl) (by rfl) (fun K hK => ?_)
            go_simp
            refine hK _ _ (fun hl => ?_) ?_
            · exact HFS.out _ _ (h5.arr [1, 2, 0])
            clear hK K
            try simp only [Act.put, List.getElem_toArray, List.getElem_cons_zero, List.getElem_cons_succ, List.setIfInBounds_toArray, List.set_cons_zero, List.set_cons_succ]
            refine wpZ_fork ⟨?_, ?_⟩
            · refine fork_eff _ (by rfl) (by rfl) (fun K hK => ?_)
              refine wp_append_empty_h _ _ 32 (by rfl) 5 i5 (.int .u8 0) 1 1 Try.underlying32 hi hz0 hz1 hz2 (by rfl) _ (by rfl) h5 _ (by rfl) x9.length (ub x9) SR r0 HU.out (by unfold maxLen; have := HLX.out.2; omega) (by have := HLX.out.2; omega) (fun ao1 cap1 w6 h6 hc1 => ?_)
              refine hK _ _ (fun hl => HFS.out _ _ (h6.arr [1, 2, 0])) ?_
              clear hK K
              try simp only [Act.put, List.getElem_toArray, List.getElem_cons_zero, List.getElem_cons_succ, List.setIfInBounds_toArray, List.set_cons_zero, List.set_cons_succ]
              (repeat (first | (refine wpZ_st (v := ?_) _ (by rfl) (by rfl) (by rfl) (fun W hW => ?_) (by exact HFS.out _ _ (h6.arr [1, 2, 0])) ?_; (rotate_left; (focus ((try dsimp only at hW); go_simp; (try with_reducible rfl); done))); try simp only [Act.put, List.getElem_toArray, List.getElem_cons_zero, List.getElem_cons_succ, List.setIfInBounds_toArray, List.set_cons_zero, List.set_cons_succ]) | (refine wpZ_pu (v := ?_) _ (by rfl) (by rfl) (by rfl) (by rfl) (fun W => ?_) ?_; (rotate_left; (focus ((try dsimp only at hW); go_simp; (try with_reducible rfl); done))); try simp only [Act.put, List.getElem_toArray, List.getElem_cons_zero, List.getElem_cons_succ, List.setIfInBounds_toArray, List.set_cons_zero, List.set_cons_succ]) | (refine wpZ_no _ (by rfl) (by rfl) (by rfl) (by rfl) ?_; try simp only [Act.put, List.getElem_toArray, List.getElem_cons_zero, List.getElem_cons_succ, List.setIfInBounds_toArray, List.set_cons_zero, List.set_cons_succ]) | (refine wpZ_noS _ (by rfl) (by rfl) (by rfl) (by exact HFS.out _ _ (h6.arr [1, 2, 0])) ?_; try simp only [Act.put, List.getElem_toArray, List.getElem_cons_zero, List.getElem_cons_succ, List.setIfInBounds_toArray, List.set_cons_zero, List.set_cons_succ])))
              obtain ⟨n6, hn6⟩ : ∃ n, w6.heap.size = n := ⟨_, rfl⟩
              have h7 := h6.box 39 [.int .i64 0, .int .u32 0, .int .u32 0, .slice none 0 0]
              simp only [hn6] at h7
              (refine wpZ_eff _ (by rfl) (by rfl) (by rfl) (by rfl) (fun K hK => ?_); go_simp; refine hK _ _ (fun hl => ?_) ?_; (first | (focus (cases hl; done)) | exact HFS.out _ _ (h7.arr [2, 3, 0, 1])); clear hK K; try simp only [Act.put, List.getElem_toArray, List.getElem_cons_zero, List.getElem_cons_succ, List.setIfInBounds_toArray, List.set_cons_zero, List.set_cons_succ])
              refine wpZ_eff _ (by rfl) (by rfl) (by rfl) (by rfl) (fun K hK => ?_)
              refine wp_storeAll_h 39 _ _ (by rfl) n6 (by rfl) [.int .i64 2, .int .u32 T.next, .int .u32 0, .slice ao1 x9.length cap1] (by rfl) h7 (by rfl) (by rw [i39]; rfl) (by simp [Value.oneCell']) (fun w8 h8 => ?_)
              (refine hK _ _ (fun hl => ?_) ?_; (first | (focus (cases hl; done)) | trivial); clear hK K; try simp only [Act.put, List.getElem_toArray, List.getElem_cons_zero, List.getElem_cons_succ, List.setIfInBounds_toArray, List.set_cons_zero, List.set_cons_succ])
              (simp only [wpZ])
              go_wp2
              go_meet
              exact ⟨n6, ao1, cap1, rfl, h8.arr [2, 0, 5, 1, 3, 4]⟩
            · have h7 := h5.box 39 [.int .i64 0, .int .u32 0, .int .u32 0, .slice none 0 0]
              simp only [World.size_alloc, hn9] at h7
              refine fork_eff _ (by rfl) (by rfl) (fun K hK => ?_)
              go_simp
              refine hK _ _ (fun hl => ?_) ?_
              · exact HFS.out _ _ (h7.arr [2, 3, 0, 1])
              clear hK K
              try simp only [Act.put, List.getElem_toArray, List.getElem_cons_zero, List.getElem_cons_succ, List.setIfInBounds_toArray, List.set_cons_zero, List.set_cons_succ]
              have h7' := h7.mv 1
              (try dsimp only [Go.Own.front, Go.Own.arrA, Go.Own.atA, Go.Own.dropA, List.length_cons, List.length_nil, Nat.zero_add, Nat.reduceAdd] at h7')
              obtain ⟨SR, r0⟩ := (h7'.mv 4).reads (Reads.ofL HRW.out (Reads.row 5 1 u.1 x9.length u.2 (ub x9)))
              refine wpZ_eff _ (by rfl) (by rfl) (by rfl) (by rfl) (fun K hK => ?_)
              refine wp_append_empty_h _ _ 32 (by rfl) 5 i5 (.int .u8 0) 1 1 Try.underlying32 hi hz0 hz1 hz2 (by rfl) _ (by rfl) h7' _ (by rfl) x9.length (ub x9) SR r0 HU.out (by unfold maxLen; have := HLX.out.2; omega) (by have := HLX.out.2; omega) (fun ao1 cap1 w6 h6 hc1 => ?_)
              (refine hK _ _ (fun hl => ?_) ?_; (first | (focus (cases hl; done)) | exact HFS.out _ _ (h6.arr [2, 3, 0, 1])); clear hK K; try simp only [Act.put, List.getElem_toArray, List.getElem_cons_zero, List.getElem_cons_succ, List.setIfInBounds_toArray, List.set_cons_zero, List.set_cons_succ])
              (repeat (first | (refine wpZ_st (v := ?_) _ (by rfl) (by rfl) (by rfl) (fun W hW => ?_) (by exact HFS.out _ _ (h6.arr [2, 3, 0, 1])) ?_; (rotate_left; (focus ((try dsimp only at hW); go_simp; (try with_reducible rfl); done))); try simp only [Act.put, List.getElem_toArray, List.getElem_cons_zero, List.getElem_cons_succ, List.setIfInBounds_toArray, List.set_cons_zero, List.set_cons_succ]) | (refine wpZ_pu (v := ?_) _ (by rfl) (by rfl) (by rfl) (by rfl) (fun W => ?_) ?_; (rotate_left; (focus ((try dsimp only at hW); go_simp; (try with_reducible rfl); done))); try simp only [Act.put, List.getElem_toArray, List.getElem_cons_zero, List.getElem_cons_succ, List.setIfInBounds_toArray, List.set_cons_zero, List.set_cons_succ]) | (refine wpZ_no _ (by rfl) (by rfl) (by rfl) (by rfl) ?_; try simp only [Act.put, List.getElem_toArray, List.getElem_cons_zero, List.getElem_cons_succ, List.setIfInBounds_toArray, List.set_cons_zero, List.set_cons_succ]) | (refine wpZ_noS _ (by rfl) (by rfl) (by rfl) (by exact HFS.out _ _ (h6.arr [2, 3, 0, 1])) ?_; try simp only [Act.put, List.getElem_toArray, List.getElem_cons_zero, List.getElem_cons_succ, List.setIfInBounds_toArray, List.set_cons_zero, List.set_cons_succ])))
              have h7'' := h6.mv 1
              (try dsimp only [Go.Own.front, Go.Own.arrA, Go.Own.atA, Go.Own.dropA, List.length_cons, List.length_nil, Nat.zero_add, Nat.reduceAdd] at h7'')
              refine wpZ_eff _ (by rfl) (by rfl) (by rfl) (by rfl) (fun K hK => ?_)
              refine wp_storeAll_h 39 _ _ (by rfl) (n9 + 1) (by rfl) [.int .i64 2, .int .u32 T.next, .int .u32 0, .slice ao1 x9.length cap1] (by rfl) h7'' (by rfl) (by rw [i39]; rfl) (by simp [Value.oneCell']) (fun w8 h8 => ?_)
              (refine hK _ _ (fun hl => ?_) ?_; (first | (focus (cases hl; done)) | trivial); clear hK K; try simp only [Act.put, List.getElem_toArray, List.getElem_cons_zero, List.getElem_cons_succ, List.setIfInBounds_toArray, List.set_cons_zero, List.set_cons_succ])
              (simp only [wpZ])
              go_wp2
              go_meet
              exact ⟨(n9 + 1), ao1, cap1, rfl, h8.arr [2, 0, 5, 1, 3, 4]⟩
          · have h5 := hX9.box 39 [.int .i64 0, .int .u32 0, .int .u32 0, .slice none 0 0]
            simp only [hn9] at h5
            refine fork_eff _ (by rfl) (by rfl) (fun K hK => ?_)
            go_simp
            refine hK _ _ (fun hl => ?_) ?_
            · exact HFS.out _ _ (h5.arr [1, 2, 0])
            clear hK K
            try simp only [Act.put, List.getElem_toArray, List.getElem_cons_zero, List.getElem_cons_succ, List.setIfInBounds_toArray, List.set_cons_zero, List.set_cons_succ]
            have h7 := emptyRow h5 5
            simp only [World.size_alloc, hn9] at h7
            obtain ⟨SR, r0⟩ := (h7.mv 4).reads (Reads.ofL HRW.out (Reads.row 5 1 u.1 x9.length u.2 (ub x9)))
            (refine wpZ_eff _ (by rfl) (by rfl) (by rfl) (by rfl) (fun K hK => ?_); go_simp; refine hK _ _ (fun hl => ?_) ?_; (first | (focus (cases hl; done)) | exact HFS.out _ _ (h7.arr [2, 3, 0, 1])); clear hK K; try simp only [Act.put, List.getElem_toArray, List.getElem_cons_zero, List.getElem_cons_succ, List.setIfInBounds_toArray, List.set_cons_zero, List.set_cons_succ])
            refine wpZ_eff _ (by rfl) (by rfl) (by rfl) (by rfl) (fun K hK => ?_)
            refine wp_append_empty_h _ _ 32 (by rfl) 5 i5 (.int .u8 0) 1 1 Try.underlying32 hi hz0 hz1 hz2 (by rfl) _ (by rfl) h7 _ (by rfl) x9.length (ub x9) SR r0 HU.out (by unfold maxLen; have := HLX.out.2; omega) (by have := HLX.out.2; omega) (fun ao1 cap1 w6 h6 hc1 => ?_)
            (refine hK _ _ (fun hl => ?_) ?_; (first | (focus (cases hl; done)) | exact HFS.out _ _ (h6.arr [2, 3, 0, 1])); clear hK K; try simp only [Act.put, List.getElem_toArray, List.getElem_cons_zero, List.getElem_cons_succ, List.setIfInBounds_toArray, List.set_cons_zero, List.set_cons_succ])
            (repeat (first | (refine wpZ_st (v := ?_) _ (by rfl) (by rfl) (by rfl) (fun W hW => ?_) (by exact HFS.out _ _ (h6.arr [2, 3, 0, 1])) ?_; (rotate_left; (focus ((try dsimp only at hW); go_simp; (try with_reducible rfl); done))); try simp only [Act.put, List.getElem_toArray, List.getElem_cons_zero, List.getElem_cons_succ, List.setIfInBounds_toArray, List.set_cons_zero, List.set_cons_succ]) | (refine wpZ_pu (v := ?_) _ (by rfl) (by rfl) (by rfl) (by rfl) (fun W => ?_) ?_; (rotate_left; (focus ((try dsimp only at hW); go_simp; (try with_reducible rfl); done))); try simp only [Act.put, List.getElem_toArray, List.getElem_cons_zero, List.getElem_cons_succ, List.setIfInBounds_toArray, List.set_cons_zero, List.set_cons_succ]) | (refine wpZ_no _ (by rfl) (by rfl) (by rfl) (by rfl) ?_; try simp only [Act.put, List.getElem_toArray, List.getElem_cons_zero, List.getElem_cons_succ, List.setIfInBounds_toArray, List.set_cons_zero, List.set_cons_succ]) | (refine wpZ_noS _ (by rfl) (by rfl) (by rfl) (by exact HFS.out _ _ (h6.arr [2, 3, 0, 1])) ?_; try simp only [Act.put, List.getElem_toArray, List.getElem_cons_zero, List.getElem_cons_succ, List.setIfInBounds_toArray, List.set_cons_zero, List.set_cons_succ])))
            have h7'' := h6.mv 1
            (try dsimp only [Go.Own.front, Go.Own.arrA, Go.Own.atA, Go.Own.dropA, List.length_cons, List.length_nil, Nat.zero_add, Nat.reduceAdd] at h7'')
            refine wpZ_eff _ (by rfl) (by rfl) (by rfl) (by rfl) (fun K hK => ?_)
            refine wp_storeAll_h 39 _ _ (by rfl) n9 (by rfl) [.int .i64 2, .int .u32 T.next, .int .u32 0, .slice ao1 x9.length cap1] (by rfl) h7'' (by rfl) (by rw [i39]; rfl) (by simp [Value.oneCell']) (fun w8 h8 => ?_)
            (refine hK _ _ (fun hl => ?_) ?_; (first | (focus (cases hl; done)) | trivial); clear hK K; try simp only [Act.put, List.getElem_toArray, List.getElem_cons_zero, List.getElem_cons_succ, List.setIfInBounds_toArray, List.set_cons_zero, List.set_cons_succ])
            (simp only [wpZ])
            go_wp2
            go_meet
            exact ⟨n9, ao1, cap1, rfl, h8.arr [2, 0, 5, 1, 3, 4]⟩
        case rest =>
          obtain ⟨qx, a2, c2, rfl, hX⟩ := hcut
          obtain ⟨-, -, -, -, -, -, k6, -, -⟩ := rfM hX
          have f6 := hX.frozen 6
          have HY := hX.st 6 (.int .u64 ((T.next : Int) + 1))
          go_upto_region 10 with (fail)
          refine gen_world HY (fun w5 HY => ?_)
          clear k6 f6 hX
          have hZ := HY.drew
          have k6 : w5.drew.cell? ⟨b, 6, none⟩ = some (.int .u64 ((T.next : Int) + 1)) := hZ.cell 6
          have k7 : w5.drew.cell? ⟨b, 7, none⟩ = some (.int .u64 T.top) := hZ.cell 7
          refine wp_region_Z (fun W => W.cell? ⟨b, 6, none⟩ = some (.int .u64 ((T.next : Int) + 1)) ∧ W.cell? ⟨b, 7, none⟩ = some (.int .u64 T.top)) [3, 7] [] [0, 1, 2, 4, 5, 6, 8] [0, 1, 2, 3, 4, 5, 6, 7, 8] (by kernel_rfl) (by kernel_rfl) ?_
          (repeat (first | (refine wpZ_st (v := ?_) _ (by rfl) (by rfl) (by rfl) (fun W hW => ?_) (by exact ⟨k6, k7⟩) ?_; (rotate_left; (focus ((try dsimp only at hW); go_simp; (try with_reducible rfl); done))); try simp only [Act.put, List.getElem_toArray, List.getElem_cons_zero, List.getElem_cons_succ, List.setIfInBounds_toArray, List.set_cons_zero, List.set_cons_succ]) | (refine wpZ_pu (v := ?_) _ (by rfl) (by rfl) (by rfl) (by rfl) (fun W => ?_) ?_; (rotate_left; (focus ((try dsimp only at hW); go_simp; (try with_reducible rfl); done))); try simp only [Act.put, List.getElem_toArray, List.getElem_cons_zero, List.getElem_cons_succ, List.setIfInBounds_toArray, List.set_cons_zero, List.set_cons_succ]) | (refine wpZ_no _ (by rfl) (by rfl) (by rfl) (by rfl) ?_; try simp only [Act.put, List.getElem_toArray, List.getElem_cons_zero, List.getElem_cons_succ, List.setIfInBounds_toArray, List.set_cons_zero, List.set_cons_succ]) | (refine wpZ_noS _ (by rfl) (by rfl) (by rfl) (by exact ⟨k6, k7⟩) ?_; try simp only [Act.put, List.getElem_toArray, List.getElem_cons_zero, List.getElem_cons_succ, List.setIfInBounds_toArray, List.set_cons_zero, List.set_cons_succ])))
          (simp only [wpZ])
          go_upto_if 103 with (fail)
          refine gen_world hZ (fun w6 hZ => ?_)
          clear k6 k7 HY
          go_cut [108] (fun _ wc => Hold wc (cellsA b 65 (rcells (goS T) F (.slice (some ⟨gb, gp, none⟩) G.length lc)) :: cellsA qx 39 [.int .i64 2, .int .u32 T.next, .int .u32 0, .slice a2 x9.length c2] :: cellsA qb 39 zeroF :: rowA 5 1 a2 x9.length c2 (ub x9) :: rowA 32 1 (some ⟨gb, gp, none⟩) G.length lc (sl G vs) :: starL (rws G vs) :: L))
          case first =>
            have k6 : w6.cell? ⟨b, 6, none⟩ = some (.int .u64 ((T.next : Int) + 1)) := hZ.cell 6
            have k7 : w6.cell? ⟨b, 7, none⟩ = some (.int .u64 T.top) := hZ.cell 7
            have f7 := hZ.frozen 7
            by_cases htp : T.top < T.next + 1
            · have q8 : decide (T.top < T.next + 1) = true := by simp; omega
              have q9 : decide ((T.top : Int) < (T.next : Int) + 1) = true := by simp; omega
              have q7 : (T.top : Int) < (T.next : Int) + 1 := by omega
              have hmx : max T.top (T.next + 1) = T.next + 1 := by omega
              have HV := hZ.st 7 (.int .u64 ((T.next : Int) + 1))
              have HM := Lib.hid hmx
              clear htp hmx
              go_wp2
              go_meet
              exact HV.as (by simp only [rcells, goS, List.set_cons_succ, List.set_cons_zero, HM.out]; rfl)
            · have q8 : decide (T.top < T.next + 1) = false := by simp; omega
              have q9 : decide ((T.top : Int) < (T.next : Int) + 1) = false := by simp; omega
              have q7 : (T.next : Int) + 1 ≤ (T.top : Int) := by omega
              have hmx : max T.top (T.next + 1) = T.top := by omega
              have HM := Lib.hid hmx
              clear htp hmx
              go_wp2
              go_meet
              exact hZ.as (by simp only [rcells, goS, List.set_cons_succ, List.set_cons_zero, HM.out]; rfl)
          case rest =>
            have h10 := hcut.arr [1, 2, 0]
            (try dsimp only [Go.Own.front, Go.Own.arrA, Go.Own.atA, Go.Own.dropA, List.length_cons, List.length_nil, Nat.zero_add, Nat.reduceAdd] at h10)
            clear hcut hZ
            go_wp2_with (first
              | (refine wpList_loadAll_h (by rfl) 39 _ (by rfl) qx (by rfl) h10 _ Try.underlying39 (by rfl) (by rw [i39]; rfl) ?_)
              | (refine wpList_storeAll_h (by rfl) 39 _ _ (by rfl) qb (by rfl) [.int .i64 2, .int .u32 T.next, .int .u32 0, .slice a2 x9.length c2] (by rfl) (h10.mv 1) (by rfl) (by rw [i39]; rfl) (by simp [Value.oneCell']) (fun w11 h11 => ?_)))
            refine bodyPost_ret (v := .tuple #[.agg #[.int .i64 2, .int .u32 T.next, .int .u32 0, .slice a2 x9.length c2], .bool true]) (res_cell_tmp (h11.loadVarAll 39 _ Try.underlying39 (by rfl) (by rw [i39]; rfl)) (by rfl) (by rfl) (by rfl)) rfl (.inl ⟨by rw [HTE.out]; exact HR.out, x9, a2, c2, ?_⟩)
            obtain ⟨-, e2, e1, e6⟩ := HH.out
            rw [HTE.out]
            refine ⟨HLX.out.1, HLX.out.2, rfl, ?_⟩
            rw [HES.out, HR.out, if_pos rfl]
            have h12 := h11.drop.drop.arr [2, 3, 0, 1]
            (try dsimp only [Go.Own.front, Go.Own.arrA, Go.Own.atA, Go.Own.dropA, List.length_cons, List.length_nil, Nat.zero_add, Nat.reduceAdd] at h12)
            have h13 := (rows_close HVL.out h12).arr [1, 0, 2]
            (try dsimp only [Go.Own.front, Go.Own.arrA, Go.Own.atA, Go.Own.dropA, List.length_cons, List.length_nil, Nat.zero_add, Nat.reduceAdd] at h13)
            have h14 := (rf_close h13).swap
            exact h14
      · have hre : ready T = false := by unfold ready; exact decide_eq_false (by omega)
        have hd1 : decide (T.fin ≤ T.next) = false := by simp; omega
        have hd2 : decide ((T.window : Int) ≤ (T.next : Int) - T.base) = true := by simp; omega
        have HR := Lib.hid hre
        clear hre hr1 hr2
        refine wp_region_Z (fun W => W.cell? ⟨b, 6, none⟩ = some (.int .u64 T.next) ∧ W.cell? ⟨b, 5, none⟩ = some (.int .u64 T.base) ∧ W.cell? ⟨b, 0, none⟩ = some (.int .i64 T.window)) [3, 11, 15, 20, 21] [] [0, 1, 2, 4, 6, 7, 8, 9, 10, 12, 13, 14, 16, 17, 18, 19, 22, 23] [0, 1, 2, 3, 4, 5, 6, 7, 8, 9, 10, 11, 12, 13, 14, 15, 16, 17, 18, 19, 20, 21, 22, 23] (by kernel_rfl) (by kernel_rfl) ?_
        (repeat (first | (refine wpZ_st (v := ?_) _ (by rfl) (by rfl) (by rfl) (fun W hW => ?_) (by exact ⟨g6, g5, g0⟩) ?_; (rotate_left; (focus ((try dsimp only at hW); go_simp; (try with_reducible rfl); done))); try simp only [Act.put, List.getElem_toArray, List.getElem_cons_zero, List.getElem_cons_succ, List.setIfInBounds_toArray, List.set_cons_zero, List.set_cons_succ]) | (refine wpZ_pu (v := ?_) _ (by rfl) (by rfl) (by rfl) (by rfl) (fun W => ?_) ?_; (rotate_left; (focus ((try dsimp only at hW); go_simp; (try with_reducible rfl); done))); try simp only [Act.put, List.getElem_toArray, List.getElem_cons_zero, List.getElem_cons_succ, List.setIfInBounds_toArray, List.set_cons_zero, List.set_cons_succ]) | (refine wpZ_no _ (by rfl) (by rfl) (by rfl) (by rfl) ?_; try simp only [Act.put, List.getElem_toArray, List.getElem_cons_zero, List.getElem_cons_succ, List.setIfInBounds_toArray, List.set_cons_zero, List.set_cons_succ]) | (refine wpZ_noS _ (by rfl) (by rfl) (by rfl) (by exact ⟨g6, g5, g0⟩) ?_; try simp only [Act.put, List.getElem_toArray, List.getElem_cons_zero, List.getElem_cons_succ, List.setIfInBounds_toArray, List.set_cons_zero, List.set_cons_succ])))
        refine wpZ_eff _ (by rfl) (by rfl) (by rfl) (by rfl) (fun K hK => ?_)
        go_simp
        refine (PR _ _ hS).mono ?_
        rintro e w5 ⟨rfl, rfl⟩
        dsimp only
        (refine hK _ _ (fun hl => ?_) ?_; (first | (focus (cases hl; done)) | exact ⟨k6, k5, k0⟩); clear hK K; try simp only [Act.put, List.getElem_toArray, List.getElem_cons_zero, List.getElem_cons_succ, List.setIfInBounds_toArray, List.set_cons_zero, List.set_cons_succ])
        (repeat (first | (refine wpZ_st (v := ?_) _ (by rfl) (by rfl) (by rfl) (fun W hW => ?_) (by exact ⟨k6, k5, k0⟩) ?_; (rotate_left; (focus ((try dsimp only at hW); go_simp; (try with_reducible rfl); done))); try simp only [Act.put, List.getElem_toArray, List.getElem_cons_zero, List.getElem_cons_succ, List.setIfInBounds_toArray, List.set_cons_zero, List.set_cons_succ]) | (refine wpZ_pu (v := ?_) _ (by rfl) (by rfl) (by rfl) (by rfl) (fun W => ?_) ?_; (rotate_left; (focus ((try dsimp only at hW); go_simp; (try with_reducible rfl); done))); try simp only [Act.put, List.getElem_toArray, List.getElem_cons_zero, List.getElem_cons_succ, List.setIfInBounds_toArray, List.set_cons_zero, List.set_cons_succ]) | (refine wpZ_no _ (by rfl) (by rfl) (by rfl) (by rfl) ?_; try simp only [Act.put, List.getElem_toArray, List.getElem_cons_zero, List.getElem_cons_succ, List.setIfInBounds_toArray, List.set_cons_zero, List.set_cons_succ]) | (refine wpZ_noS _ (by rfl) (by rfl) (by rfl) (by exact ⟨k6, k5, k0⟩) ?_; try simp only [Act.put, List.getElem_toArray, List.getElem_cons_zero, List.getElem_cons_succ, List.setIfInBounds_toArray, List.set_cons_zero, List.set_cons_succ])))
        (simp only [wpZ])
        have h3 := hS2.mv 1
        (try dsimp only [Go.Own.front, Go.Own.arrA, Go.Own.atA, Go.Own.dropA, List.length_cons, List.length_nil, Nat.zero_add, Nat.reduceAdd] at h3)
        go_wp2_with (refine wpList_storeAll_h (by rfl) 39 _ _ (by rfl) qb (by rfl) zeroF (by rfl) h3 (by rfl) (by rw [i39]; rfl) (by simp [zeroF, Value.oneCell']) (fun w4 h4 => ?_))
        refine bodyPost_ret (v := .tuple #[.agg zeroF.toArray, .bool false]) (res_cell_tmp (h4.loadVarAll 39 _ Try.underlying39 (by rfl) (by rw [i39]; rfl)) (by rfl) (by rfl) (by rfl)) rfl (.inr ⟨by rw [HTE.out]; exact HR.out, rfl, ?_⟩)
        rw [HES.out, HR.out]
        exact rf_close h4.drop
    · have hre : ready T = false := by unfold ready; exact decide_eq_false (by omega)
      have hd1 : decide (T.fin ≤ T.next) = true := by simp; omega
      have HR := Lib.hid hre
      clear hre hr1
      · skip
        refine wp_region_Z (fun W => W.cell? ⟨b, 6, none⟩ = some (.int .u64 T.next) ∧ W.cell? ⟨b, 5, none⟩ = some (.int .u64 T.base) ∧ W.cell? ⟨b, 0, none⟩ = some (.int .i64 T.window)) [3, 11, 15, 20, 21] [] [0, 1, 2, 4, 6, 7, 8, 9, 10, 12, 13, 14, 16, 17, 18, 19, 22, 23] [0, 1, 2, 3, 4, 5, 6, 7, 8, 9, 10, 11, 12, 13, 14, 15, 16, 17, 18, 19, 20, 21, 22, 23] (by kernel_rfl) (by kernel_rfl) ?_
        (repeat (first | (refine wpZ_st (v := ?_) _ (by rfl) (by rfl) (by rfl) (fun W hW => ?_) (by exact ⟨g6, g5, g0⟩) ?_; (rotate_left; (focus ((try dsimp only at hW); go_simp; (try with_reducible rfl); done))); try simp only [Act.put, List.getElem_toArray, List.getElem_cons_zero, List.getElem_cons_succ, List.setIfInBounds_toArray, List.set_cons_zero, List.set_cons_succ]) | (refine wpZ_pu (v := ?_) _ (by rfl) (by rfl) (by rfl) (by rfl) (fun W => ?_) ?_; (rotate_left; (focus ((try dsimp only at hW); go_simp; (try with_reducible rfl); done))); try simp only [Act.put, List.getElem_toArray, List.getElem_cons_zero, List.getElem_cons_succ, List.setIfInBounds_toArray, List.set_cons_zero, List.set_cons_succ]) | (refine wpZ_no _ (by rfl) (by rfl) (by rfl) (by rfl) ?_; try simp only [Act.put, List.getElem_toArray, List.getElem_cons_zero, List.getElem_cons_succ, List.setIfInBounds_toArray, List.set_cons_zero, List.set_cons_succ]) | (refine wpZ_noS _ (by rfl) (by rfl) (by rfl) (by exact ⟨g6, g5, g0⟩) ?_; try simp only [Act.put, List.getElem_toArray, List.getElem_cons_zero, List.getElem_cons_succ, List.setIfInBounds_toArray, List.set_cons_zero, List.set_cons_succ])))
        refine wpZ_eff _ (by rfl) (by rfl) (by rfl) (by rfl) (fun K hK => ?_)
        go_simp
        refine (PR _ _ hS).mono ?_
        rintro e w5 ⟨rfl, rfl⟩
        dsimp only
        (refine hK _ _ (fun hl => ?_) ?_; (first | (focus (cases hl; done)) | exact ⟨k6, k5, k0⟩); clear hK K; try simp only [Act.put, List.getElem_toArray, List.getElem_cons_zero, List.getElem_cons_succ, List.setIfInBounds_toArray, List.set_cons_zero, List.set_cons_succ])
        (repeat (first | (refine wpZ_st (v := ?_) _ (by rfl) (by rfl) (by rfl) (fun W hW => ?_) (by exact ⟨k6, k5, k0⟩) ?_; (rotate_left; (focus ((try dsimp only at hW); go_simp; (try with_reducible rfl); done))); try simp only [Act.put, List.getElem_toArray, List.getElem_cons_zero, List.getElem_cons_succ, List.setIfInBounds_toArray, List.set_cons_zero, List.set_cons_succ]) | (refine wpZ_pu (v := ?_) _ (by rfl) (by rfl) (by rfl) (by rfl) (fun W => ?_) ?_; (rotate_left; (focus ((try dsimp only at hW); go_simp; (try with_reducible rfl); done))); try simp only [Act.put, List.getElem_toArray, List.getElem_cons_zero, List.getElem_cons_succ, List.setIfInBounds_toArray, List.set_cons_zero, List.set_cons_succ]) | (refine wpZ_no _ (by rfl) (by rfl) (by rfl) (by rfl) ?_; try simp only [Act.put, List.getElem_toArray, List.getElem_cons_zero, List.getElem_cons_succ, List.setIfInBounds_toArray, List.set_cons_zero, List.set_cons_succ]) | (refine wpZ_noS _ (by rfl) (by rfl) (by rfl) (by exact ⟨k6, k5, k0⟩) ?_; try simp only [Act.put, List.getElem_toArray, List.getElem_cons_zero, List.getElem_cons_succ, List.setIfInBounds_toArray, List.set_cons_zero, List.set_cons_succ])))
        (simp only [wpZ])
        have h3 := hS2.mv 1
        (try dsimp only [Go.Own.front, Go.Own.arrA, Go.Own.atA, Go.Own.dropA, List.length_cons, List.length_nil, Nat.zero_add, Nat.reduceAdd] at h3)
        go_wp2_with (refine wpList_storeAll_h (by rfl) 39 _ _ (by rfl) qb (by rfl) zeroF (by rfl) h3 (by rfl) (by rw [i39]; rfl) (by simp [zeroF, Value.oneCell']) (fun w4 h4 => ?_))
        refine bodyPost_ret (v := .tuple #[.agg zeroF.toArray, .bool false]) (res_cell_tmp (h4.loadVarAll 39 _ Try.underlying39 (by rfl) (by rw [i39]; rfl)) (by rfl) (by rfl) (by rfl)) rfl (.inr ⟨by rw [HTE.out]; exact HR.out, rfl, ?_⟩)
        rw [HES.out, HR.out]
        exact rf_close h4.drop

end Go.Proofs.Ytjnjbmkkfkdhcaa
