/- Contracts: stands. -/
import Derived.Test.YtahhbbcgfhmmgaaKpC
import Derived.Test.YtahhbbcgfhmmgaaRegion4
open Go.RowKit Go.Own
namespace Go.Proofs.Ytahhbbcgfhmmgaa

/-- An empty row of one's own. -/
theorem emptyRow {w : World} {L : List Asn} (h : Hold w L) (E : TypeId) : Hold (w.alloc (.cells #[] E)) (rowA E 1 (some ⟨w.heap.size, 0, none⟩) 0 0 [] :: L) :=
  h.new ((Fr.refl _ _).alloc _) (B := [w.heap.size]) (Own.new w E 1 0 0 #[] (by omega) (by unfold maxLen; omega) (by simp)) (by simp) (by simp)
theorem wp_append_empty_h {P : Program} {w : World} {L : List Asn} {o : Oper} {a : Act} {K : Act → World → Prop} {Q : Exit → Act → World → Prop} (s x : Operand) (t : TypeId)
    (hop : o.op = Op.call { callee := Callee.builtin Builtin.append, args := #[s, x], argTypes := #[t, t] })
    (E : TypeId) (i : TypeInfo) (z : Value) (sz by_ : Nat) (ht : P.underlying t = some (.slice E)) (hi : P.info? E = some i) (hz : i.zero = some z) (hsz : i.size = sz) (hby : i.bytes = by_)
    (hzc : z.cells.size = sz) (ao : Option Addr) (hv : a.eval s = .slice ao 0 0) (h : Hold w (rowA E sz ao 0 0 [] :: L)) (sv : Value) (hx : a.eval x = sv) (m : Nat) (news : List Value) (S : List Nat)
    (hr : Rd w sz sv m news S) (h1 : ∀ u ∈ news, u.oneCell' = true) (h63 : m ≤ maxLen) (hfit : m * by_ ≤ 140737488355328)
    (hK : ∀ ao' cap' w', Hold w' (rowA E sz ao' m cap' news :: L) → m ≤ cap' → K (a.put o.dst (.slice ao' m cap')) w') : o.wp P a w K Q := by
  refine wp_append_src_h s x t hop E i z sz by_ ht hi hz hsz hby hzc ao 0 0 [] hv h sv hx m news S hr h1 (by omega) (by rw [Nat.zero_add]; exact hfit) (fun ao' cap' w' g1 g2 => ?_)
  rw [Nat.zero_add] at g1 g2 ⊢
  exact hK ao' cap' w' g1 g2
theorem ub_one (x : List UInt8) : ∀ v ∈ ub x, v.oneCell' = true := by
  intro v hv
  simp only [ub, List.mem_map] at hv
  obtain ⟨y, -, rfl⟩ := hv
  rfl

theorem ub_put {bs : List UInt8} {n : Nat} (h : n ≤ 255) : ub bs ++ [.int .u8 (n : Int)] = ub (bs ++ [UInt8.ofNat n]) := by
  simp only [ub, List.map_append, List.map_cons, List.map_nil]
  rw [bit_nat h]

def StaRel (B : List BE) (R : List Asn) (iv : Value) (wr : World) : Prop := ∃ i : Nat, i ≤ B.length ∧ iv = .int .i64 i ∧ Hold wr R

set_option maxHeartbeats 4000000 in
set_option maxRecDepth 20000 in
theorem stands_ok (b : Nat) (A : AR) (born : Nat → Nat) (hI : AI A born) (B : List BE) (hBk : Bk A B) (ao : Option Addr) (cap : Nat) (hB : B.length ≤ 65536) (w : World) (L : List Asn) (h : Hold w (arA b A :: rowA 45 7 ao B.length cap (bflat B) :: L)) :
    Calls Try.prog 18 #[.pointer (some ⟨b, 0, none⟩), .slice ao B.length cap] w fun e w' => e = .returned (.bool true) ∧ Hold w' (arA b A :: rowA 45 7 ao B.length cap (bflat B) :: L) := by
  obtain ⟨i5, hi5, hz0, hz1, hz2⟩ := info_parts info5
  have HI := Lib.hid hI
  have HBK := Lib.hid hBk
  clear hI hBk
  go_enter Try.func18, Try.ntmps18
  go_wp2
  go_loopw [5] (fun iv wr => StaRel B (arA b A :: rowA 45 7 ao B.length cap (bflat B) :: L) iv wr) (fun iv _ => B.length - (intOf iv).toNat)
  case atStart => exact ⟨0, Nat.zero_le _, rfl, h⟩
  case round =>
    clear h
    obtain ⟨i, hi, rfl, hr⟩ := hrel
    obtain ⟨N, hN⟩ : ∃ N, B.length = N := ⟨_, rfl⟩
    have HN := Lib.hid hN
    rw [hN] at hi hB hr ⊢
    clear hN
    by_cases hlt : i < N
    · have hii : (i : Int) < (N : Int) := by omega
      have hi0 : 0 ≤ (i : Int) := by omega
      have W1 : IntKind.i64.wrap ((i : Int) + 1) = (i : Int) + 1 := IntWalk.i64_in _ (by omega)
      obtain ⟨e, he⟩ : ∃ e, B[i]? = some e := ⟨B[i]'(by have := HN.out; omega), List.getElem?_eq_getElem _⟩
      obtain ⟨p, hp, hpc, hpt⟩ := HBK.out.at he
      have hbit := HBK.out.bit e (List.mem_of_getElem? he)
      have c1 : e.c.st = p.st := by rw [← hpc]; rfl
      have c2 : e.c.depth = p.depth := by rw [← hpc]; rfl
      have c3 : e.c.metric = p.metric := by rw [← hpc]; rfl
      have c4 : e.c.parent = p.parent := by rw [← hpc]; rfl
      have c5 : e.c.bit = p.bit := by rw [← hpc]; rfl
      obtain ⟨rb, rp, rfl, G⟩ := be_at he HN.out (hr.mv 1)
      have F : ∀ W L, Hold W (rowA 45 7 (some ⟨rb, rp, none⟩) N cap (bflat B) :: L) → W.cell? ⟨rb, rp + i * 7, none⟩ = some (.int .i64 e.id) ∧ W.rangeAt rb (rp + i * 7 + 1) [.int .u32 p.st, .int .i64 p.depth, .int .i64 p.metric] ∧ W.cell? ⟨rb, rp + i * 7 + 4, none⟩ = some (.int .i64 p.parent) ∧ W.cell? ⟨rb, rp + i * 7 + 5, none⟩ = some (.int .u8 e.bt) := fun W L hW => by
        refine ⟨(G W L hW 0 (by omega)).1, fun j v hj => ?_, by rw [(G W L hW 4 (by omega)).1, ← c4]; rfl, (G W L hW 5 (by omega)).1⟩
        have hj3 : j < 3 := (List.getElem?_eq_some_iff.1 hj).1
        rw [Nat.add_assoc, (G W L hW (1 + j) (by omega)).1, ← hj]
        rcases (by omega : j = 0 ∨ j = 1 ∨ j = 2) with rfl | rfl | rfl
        · rw [← c1]; rfl
        · rw [← c2]; rfl
        · rw [← c3]; rfl
      have hv : hasA A (e.id : Int) = true := by rw [has_in hp]; exact hpt
      have epl := plA_in hp
      have en : nodeR A (e.id : Int) = [.int .u32 p.st, .int .i64 p.depth, .int .i64 p.metric] := by unfold nodeR; rw [if_pos hv, epl]; rfl
      have P1 := fun w L h => node_ok b A HI.out.cap1 e.id w L h
      have P2 := fun w L h => parent_ok b A HI.out.cap1 e.id w L h
      obtain ⟨xs, hW, hxl⟩ := HI.out.way hp hpt
      have P3 := fun w L h => path_ok b A _ HI.out e.id hv xs hW w L h
      rw [en, hv] at P1
      have epr : parR A (e.id : Int) = if p.parent < 0 then 0 else p.parent := by unfold parR; rw [if_pos hv, epl]
      have epb : parB A (e.id : Int) = decide (0 ≤ p.parent) := by unfold parB; rw [hv, epl]; rfl
      rw [epr, epb] at P2
      have hx6 : xs.length ≤ 65536 := by have := HI.out.len; have := HI.out.cap2; omega
      have HB8 := Lib.hid (HI.out.nums e.id p hp).2
      have HF := Lib.hid F
      have HWX := Lib.hid hW
      have HUP := Lib.hid (HI.out.up e.id p hp hpt)
      have HVW := Lib.hid (way_view hW)
      have HPP := Lib.hid hp
      have HBT : Hid (0 ≤ p.parent → e.bt = p.bit) := Lib.hid (fun h => by rw [← c5]; exact hbit (by omega))
      clear G F hv epl en epr epb hxl hW hp hpc hpt hbit c1 c2 c3 c4 c5 he
      have g0 := (HF.out _ _ (hr.mv 1)).1
      go_upto_region 5 with (go_at_call 27; refine (P1 _ _ hr).mono ?_; rintro ee w1 ⟨rfl, h1⟩)
      clear P1 g0 hr
      obtain ⟨q, hq⟩ : ∃ q, w1.heap.size = q := ⟨_, rfl⟩
      have hb := h1.box 32 [.int .u32 p.st, .int .i64 p.depth, .int .i64 p.metric]
      simp only [hq] at hb ⊢
      refine gen_world hb (fun w2 hb => ?_)
      clear h1 hq
      have h2 := hb.mv 1
      (try dsimp only [Go.Own.front, Go.Own.arrA, Go.Own.atA, Go.Own.dropA, List.length_cons, List.length_nil, Nat.zero_add, Nat.reduceAdd] at h2)
      have g0 := (HF.out _ _ (h2.mv 2)).1
      clear hb
      go_upto_region 6 with (go_at_call 28; refine (P2 _ _ h2).mono ?_; rintro ee w3 ⟨rfl, h3⟩)
      clear P2 g0 h2
      have g0 := (HF.out _ _ (h3.mv 2)).1
      go_upto_region 7 with (go_at_call 22; refine (P3 _ _ h3).mono ?_; rintro ee w4 ⟨aw, rfl, h4⟩)
      clear P3 g0 h3
      have h5 := (h4.arr [2, 3, 1, 0]).drew
      (try dsimp only [Go.Own.front, Go.Own.arrA, Go.Own.atA, Go.Own.dropA, List.length_cons, List.length_nil, Nat.zero_add, Nat.reduceAdd] at h5)
      clear h4
      have r1 : w4.drew.rangeAt q 0 [.int .u32 p.st, .int .i64 p.depth, .int .i64 p.metric] := h5.range 0 _ (by rfl)
      obtain ⟨f0, f1, f4, f5⟩ := HF.out _ _ (h5.mv 1)
      rcases HUP.out with hpar | ⟨u, pu, hpar, hpu, hput, -⟩
      · have hneg : p.parent < 0 := by omega
        have hge : ¬ 0 ≤ p.parent := by omega
        have hged : decide (0 ≤ p.parent) = false := decide_eq_false hge
        have hx0 : xs.length = 0 := by
          obtain ⟨p', h1, h2⟩ := HVW.out
          rw [HPP.out] at h1; simp at h1; subst h1
          rcases h2 with ⟨-, h2⟩ | ⟨u, ys, h2, -⟩
          · rw [h2]; rfl
          · omega
        rw [hx0] at h5 ⊢
        rw [if_pos hneg, hged]
        have HPA := Lib.hid hpar
        clear hpar
        refine wp_region_Z (fun W => W.rangeAt q 0 [.int .u32 p.st, .int .i64 p.depth, .int .i64 p.metric] ∧ W.rangeAt rb (rp + i * 7 + 1) [.int .u32 p.st, .int .i64 p.depth, .int .i64 p.metric] ∧ W.cell? ⟨rb, rp + i * 7 + 4, none⟩ = some (.int .i64 p.parent)) [3, 8, 17, 29] [] [0, 1, 2, 4, 5, 6, 7, 9, 10, 11, 12, 13, 14, 15, 16, 18, 19, 20, 21, 22, 23, 24, 25, 26, 27, 28, 30, 31, 32, 33, 34, 36, 37] [0, 1, 2, 3, 4, 5, 6, 7, 8, 9, 10, 11, 12, 13, 14, 15, 16, 17, 18, 19, 20, 21, 22, 23, 24, 25, 26, 27, 28, 29, 30, 31, 32, 33, 34, 35, 36, 37] (by kernel_rfl) (by kernel_rfl) ?_
        (repeat (first | (refine wpZ_st (v := ?_) _ (by rfl) (by rfl) (by rfl) (fun W hW => ?_) (by exact ⟨r1, f1, f4⟩) ?_; (rotate_left; (focus ((try dsimp only at hW); go_simp; (try with_reducible rfl); done))); try simp only [Act.put, List.getElem_toArray, List.getElem_cons_zero, List.getElem_cons_succ, List.setIfInBounds_toArray, List.set_cons_zero, List.set_cons_succ]) | (refine wpZ_pu (v := ?_) _ (by rfl) (by rfl) (by rfl) (by rfl) (fun W => ?_) ?_; (rotate_left; (focus ((try dsimp only at hW); go_simp; (try with_reducible rfl); done))); try simp only [Act.put, List.getElem_toArray, List.getElem_cons_zero, List.getElem_cons_succ, List.setIfInBounds_toArray, List.set_cons_zero, List.set_cons_succ]) | (refine wpZ_no _ (by rfl) (by rfl) (by rfl) (by rfl) ?_; try simp only [Act.put, List.getElem_toArray, List.getElem_cons_zero, List.getElem_cons_succ, List.setIfInBounds_toArray, List.set_cons_zero, List.set_cons_succ]) | (refine wpZ_noS _ (by rfl) (by rfl) (by rfl) (by exact ⟨r1, f1, f4⟩) ?_; try simp only [Act.put, List.getElem_toArray, List.getElem_cons_zero, List.getElem_cons_succ, List.setIfInBounds_toArray, List.set_cons_zero, List.set_cons_succ])))
        refine wpZ_st (v := .agg #[.int .u32 p.st, .int .i64 p.depth, .int .i64 p.metric]) _ (by rfl) (by rfl) (by rfl) (fun W hW => exec_load32 (by rfl) (by rfl) hW.1) (by exact ⟨r1, f1, f4⟩) ?_
        try simp only [Act.put, List.getElem_toArray, List.getElem_cons_zero, List.getElem_cons_succ, List.setIfInBounds_toArray, List.set_cons_zero, List.set_cons_succ]
        (repeat (first | (refine wpZ_st (v := ?_) _ (by rfl) (by rfl) (by rfl) (fun W hW => ?_) (by exact ⟨r1, f1, f4⟩) ?_; (rotate_left; (focus ((try dsimp only at hW); go_simp; (try with_reducible rfl); done))); try simp only [Act.put, List.getElem_toArray, List.getElem_cons_zero, List.getElem_cons_succ, List.setIfInBounds_toArray, List.set_cons_zero, List.set_cons_succ]) | (refine wpZ_pu (v := ?_) _ (by rfl) (by rfl) (by rfl) (by rfl) (fun W => ?_) ?_; (rotate_left; (focus ((try dsimp only at hW); go_simp; (try with_reducible rfl); done))); try simp only [Act.put, List.getElem_toArray, List.getElem_cons_zero, List.getElem_cons_succ, List.setIfInBounds_toArray, List.set_cons_zero, List.set_cons_succ]) | (refine wpZ_no _ (by rfl) (by rfl) (by rfl) (by rfl) ?_; try simp only [Act.put, List.getElem_toArray, List.getElem_cons_zero, List.getElem_cons_succ, List.setIfInBounds_toArray, List.set_cons_zero, List.set_cons_succ]) | (refine wpZ_noS _ (by rfl) (by rfl) (by rfl) (by exact ⟨r1, f1, f4⟩) ?_; try simp only [Act.put, List.getElem_toArray, List.getElem_cons_zero, List.getElem_cons_succ, List.setIfInBounds_toArray, List.set_cons_zero, List.set_cons_succ])))
        refine wpZ_st (v := .agg #[.int .u32 p.st, .int .i64 p.depth, .int .i64 p.metric]) _ (by rfl) (by rfl) (by rfl) (fun W hW => exec_load32 (by rfl) (by rfl) hW.2.1) (by exact ⟨r1, f1, f4⟩) ?_
        try simp only [Act.put, List.getElem_toArray, List.getElem_cons_zero, List.getElem_cons_succ, List.setIfInBounds_toArray, List.set_cons_zero, List.set_cons_succ]
        (repeat (first | (refine wpZ_st (v := ?_) _ (by rfl) (by rfl) (by rfl) (fun W hW => ?_) (by exact ⟨r1, f1, f4⟩) ?_; (rotate_left; (focus ((try dsimp only at hW); go_simp; (try with_reducible rfl); done))); try simp only [Act.put, List.getElem_toArray, List.getElem_cons_zero, List.getElem_cons_succ, List.setIfInBounds_toArray, List.set_cons_zero, List.set_cons_succ]) | (refine wpZ_pu (v := ?_) _ (by rfl) (by rfl) (by rfl) (by rfl) (fun W => ?_) ?_; (rotate_left; (focus ((try dsimp only at hW); go_simp; (try with_reducible rfl); done))); try simp only [Act.put, List.getElem_toArray, List.getElem_cons_zero, List.getElem_cons_succ, List.setIfInBounds_toArray, List.set_cons_zero, List.set_cons_succ]) | (refine wpZ_no _ (by rfl) (by rfl) (by rfl) (by rfl) ?_; try simp only [Act.put, List.getElem_toArray, List.getElem_cons_zero, List.getElem_cons_succ, List.setIfInBounds_toArray, List.set_cons_zero, List.set_cons_succ]) | (refine wpZ_noS _ (by rfl) (by rfl) (by rfl) (by exact ⟨r1, f1, f4⟩) ?_; try simp only [Act.put, List.getElem_toArray, List.getElem_cons_zero, List.getElem_cons_succ, List.setIfInBounds_toArray, List.set_cons_zero, List.set_cons_succ])))
        refine wpZ_eff _ (by rfl) (by rfl) (by rfl) (by rfl) (fun K hK => ?_)
        go_simp
        refine (num_any _ _).mono ?_
        rintro ee w6 ⟨rfl, rfl⟩
        dsimp only
        (refine hK _ _ (fun hl => ?_) ?_; (first | (focus (cases hl; done)) | exact ⟨r1, f1, f4⟩); clear hK K; try simp only [Act.put, List.getElem_toArray, List.getElem_cons_zero, List.getElem_cons_succ, List.setIfInBounds_toArray, List.set_cons_zero, List.set_cons_succ])
        (repeat (first | (refine wpZ_st (v := ?_) _ (by rfl) (by rfl) (by rfl) (fun W hW => ?_) (by exact ⟨r1, f1, f4⟩) ?_; (rotate_left; (focus ((try dsimp only at hW); go_simp; (try with_reducible rfl); done))); try simp only [Act.put, List.getElem_toArray, List.getElem_cons_zero, List.getElem_cons_succ, List.setIfInBounds_toArray, List.set_cons_zero, List.set_cons_succ]) | (refine wpZ_pu (v := ?_) _ (by rfl) (by rfl) (by rfl) (by rfl) (fun W => ?_) ?_; (rotate_left; (focus ((try dsimp only at hW); go_simp; (try with_reducible rfl); done))); try simp only [Act.put, List.getElem_toArray, List.getElem_cons_zero, List.getElem_cons_succ, List.setIfInBounds_toArray, List.set_cons_zero, List.set_cons_succ]) | (refine wpZ_no _ (by rfl) (by rfl) (by rfl) (by rfl) ?_; try simp only [Act.put, List.getElem_toArray, List.getElem_cons_zero, List.getElem_cons_succ, List.setIfInBounds_toArray, List.set_cons_zero, List.set_cons_succ]) | (refine wpZ_noS _ (by rfl) (by rfl) (by rfl) (by exact ⟨r1, f1, f4⟩) ?_; try simp only [Act.put, List.getElem_toArray, List.getElem_cons_zero, List.getElem_cons_succ, List.setIfInBounds_toArray, List.set_cons_zero, List.set_cons_succ])))
        (simp only [wpZ])
        go_wp2
        go_roundw
        case rel =>
          have h6 := ((h5.drop.mv 2).drop).mv 1
          (try dsimp only [Go.Own.front, Go.Own.arrA, Go.Own.atA, Go.Own.dropA, List.length_cons, List.length_nil, Nat.zero_add, Nat.reduceAdd] at h6)
          exact ⟨i + 1, by rw [HN.out]; omega, by go_num, h6⟩
        case measure => simp [intOf]; have := HN.out; omega
      · have hge : 0 ≤ p.parent := by omega
        have hneg : ¬ p.parent < 0 := by omega
        have hged : decide (0 ≤ p.parent) = true := decide_eq_true hge
        rw [if_neg hneg, hged]
        obtain ⟨ys, hxy, hwy⟩ : ∃ ys, xs = ys ++ [UInt8.ofNat p.bit] ∧ Way A.all u ys := by
          obtain ⟨p', h1, h2⟩ := HVW.out
          rw [HPP.out] at h1; simp at h1; subst h1
          rcases h2 with ⟨h2, -⟩ | ⟨u', ys, h2, h3, h4⟩
          · omega
          · have : u' = u := by omega
            subst this
            exact ⟨ys, h3, h4⟩
        have P4 := fun w L h => path_ok b A _ HI.out u (by rw [has_in hpu]; exact hput) ys hwy w L h
        have hbt : e.bt = p.bit := HBT.out hge
        have HXY := Lib.hid hxy
        have HBTE := Lib.hid hbt
        have hy6 : ys.length ≤ 65536 := by rw [hxy] at hx6; simp at hx6; omega
        have hxl1 : Hid (xs.length = ys.length + 1) := Lib.hid (by rw [hxy]; simp)
        have HPA := Lib.hid hpar
        clear hxy hwy hpu hput hbt hpar
        refine wp_region_Z (fun W => W.rangeAt q 0 [.int .u32 p.st, .int .i64 p.depth, .int .i64 p.metric] ∧ W.rangeAt rb (rp + i * 7 + 1) [.int .u32 p.st, .int .i64 p.depth, .int .i64 p.metric] ∧ W.cell? ⟨rb, rp + i * 7 + 4, none⟩ = some (.int .i64 p.parent)) [3, 8, 17, 29] [] [0, 1, 2, 4, 5, 6, 7, 9, 10, 11, 12, 13, 14, 15, 16, 18, 19, 20, 21, 22, 23, 24, 25, 26, 27, 28, 30, 31, 32, 33, 34, 36, 37] [0, 1, 2, 3, 4, 5, 6, 7, 8, 9, 10, 11, 12, 13, 14, 15, 16, 17, 18, 19, 20, 21, 22, 23, 24, 25, 26, 27, 28, 29, 30, 31, 32, 33, 34, 35, 36, 37] (by kernel_rfl) (by kernel_rfl) ?_
        (repeat (first | (refine wpZ_st (v := ?_) _ (by rfl) (by rfl) (by rfl) (fun W hW => ?_) (by exact ⟨r1, f1, f4⟩) ?_; (rotate_left; (focus ((try dsimp only at hW); go_simp; (try with_reducible rfl); done))); try simp only [Act.put, List.getElem_toArray, List.getElem_cons_zero, List.getElem_cons_succ, List.setIfInBounds_toArray, List.set_cons_zero, List.set_cons_succ]) | (refine wpZ_pu (v := ?_) _ (by rfl) (by rfl) (by rfl) (by rfl) (fun W => ?_) ?_; (rotate_left; (focus ((try dsimp only at hW); go_simp; (try with_reducible rfl); done))); try simp only [Act.put, List.getElem_toArray, List.getElem_cons_zero, List.getElem_cons_succ, List.setIfInBounds_toArray, List.set_cons_zero, List.set_cons_succ]) | (refine wpZ_no _ (by rfl) (by rfl) (by rfl) (by rfl) ?_; try simp only [Act.put, List.getElem_toArray, List.getElem_cons_zero, List.getElem_cons_succ, List.setIfInBounds_toArray, List.set_cons_zero, List.set_cons_succ]) | (refine wpZ_noS _ (by rfl) (by rfl) (by rfl) (by exact ⟨r1, f1, f4⟩) ?_; try simp only [Act.put, List.getElem_toArray, List.getElem_cons_zero, List.getElem_cons_succ, List.setIfInBounds_toArray, List.set_cons_zero, List.set_cons_succ])))
        refine wpZ_st (v := .agg #[.int .u32 p.st, .int .i64 p.depth, .int .i64 p.metric]) _ (by rfl) (by rfl) (by rfl) (fun W hW => exec_load32 (by rfl) (by rfl) hW.1) (by exact ⟨r1, f1, f4⟩) ?_
        try simp only [Act.put, List.getElem_toArray, List.getElem_cons_zero, List.getElem_cons_succ, List.setIfInBounds_toArray, List.set_cons_zero, List.set_cons_succ]
        (repeat (first | (refine wpZ_st (v := ?_) _ (by rfl) (by rfl) (by rfl) (fun W hW => ?_) (by exact ⟨r1, f1, f4⟩) ?_; (rotate_left; (focus ((try dsimp only at hW); go_simp; (try with_reducible rfl); done))); try simp only [Act.put, List.getElem_toArray, List.getElem_cons_zero, List.getElem_cons_succ, List.setIfInBounds_toArray, List.set_cons_zero, List.set_cons_succ]) | (refine wpZ_pu (v := ?_) _ (by rfl) (by rfl) (by rfl) (by rfl) (fun W => ?_) ?_; (rotate_left; (focus ((try dsimp only at hW); go_simp; (try with_reducible rfl); done))); try simp only [Act.put, List.getElem_toArray, List.getElem_cons_zero, List.getElem_cons_succ, List.setIfInBounds_toArray, List.set_cons_zero, List.set_cons_succ]) | (refine wpZ_no _ (by rfl) (by rfl) (by rfl) (by rfl) ?_; try simp only [Act.put, List.getElem_toArray, List.getElem_cons_zero, List.getElem_cons_succ, List.setIfInBounds_toArray, List.set_cons_zero, List.set_cons_succ]) | (refine wpZ_noS _ (by rfl) (by rfl) (by rfl) (by exact ⟨r1, f1, f4⟩) ?_; try simp only [Act.put, List.getElem_toArray, List.getElem_cons_zero, List.getElem_cons_succ, List.setIfInBounds_toArray, List.set_cons_zero, List.set_cons_succ])))
        refine wpZ_st (v := .agg #[.int .u32 p.st, .int .i64 p.depth, .int .i64 p.metric]) _ (by rfl) (by rfl) (by rfl) (fun W hW => exec_load32 (by rfl) (by rfl) hW.2.1) (by exact ⟨r1, f1, f4⟩) ?_
        try simp only [Act.put, List.getElem_toArray, List.getElem_cons_zero, List.getElem_cons_succ, List.setIfInBounds_toArray, List.set_cons_zero, List.set_cons_succ]
        (repeat (first | (refine wpZ_st (v := ?_) _ (by rfl) (by rfl) (by rfl) (fun W hW => ?_) (by exact ⟨r1, f1, f4⟩) ?_; (rotate_left; (focus ((try dsimp only at hW); go_simp; (try with_reducible rfl); done))); try simp only [Act.put, List.getElem_toArray, List.getElem_cons_zero, List.getElem_cons_succ, List.setIfInBounds_toArray, List.set_cons_zero, List.set_cons_succ]) | (refine wpZ_pu (v := ?_) _ (by rfl) (by rfl) (by rfl) (by rfl) (fun W => ?_) ?_; (rotate_left; (focus ((try dsimp only at hW); go_simp; (try with_reducible rfl); done))); try simp only [Act.put, List.getElem_toArray, List.getElem_cons_zero, List.getElem_cons_succ, List.setIfInBounds_toArray, List.set_cons_zero, List.set_cons_succ]) | (refine wpZ_no _ (by rfl) (by rfl) (by rfl) (by rfl) ?_; try simp only [Act.put, List.getElem_toArray, List.getElem_cons_zero, List.getElem_cons_succ, List.setIfInBounds_toArray, List.set_cons_zero, List.set_cons_succ]) | (refine wpZ_noS _ (by rfl) (by rfl) (by rfl) (by exact ⟨r1, f1, f4⟩) ?_; try simp only [Act.put, List.getElem_toArray, List.getElem_cons_zero, List.getElem_cons_succ, List.setIfInBounds_toArray, List.set_cons_zero, List.set_cons_succ])))
        refine wpZ_eff _ (by rfl) (by rfl) (by rfl) (by rfl) (fun K hK => ?_)
        go_simp
        refine (num_any _ _).mono ?_
        rintro ee w6 ⟨rfl, rfl⟩
        dsimp only
        (refine hK _ _ (fun hl => ?_) ?_; (first | (focus (cases hl; done)) | exact ⟨r1, f1, f4⟩); clear hK K; try simp only [Act.put, List.getElem_toArray, List.getElem_cons_zero, List.getElem_cons_succ, List.setIfInBounds_toArray, List.set_cons_zero, List.set_cons_succ])
        (repeat (first | (refine wpZ_st (v := ?_) _ (by rfl) (by rfl) (by rfl) (fun W hW => ?_) (by exact ⟨r1, f1, f4⟩) ?_; (rotate_left; (focus ((try dsimp only at hW); go_simp; (try with_reducible rfl); done))); try simp only [Act.put, List.getElem_toArray, List.getElem_cons_zero, List.getElem_cons_succ, List.setIfInBounds_toArray, List.set_cons_zero, List.set_cons_succ]) | (refine wpZ_pu (v := ?_) _ (by rfl) (by rfl) (by rfl) (by rfl) (fun W => ?_) ?_; (rotate_left; (focus ((try dsimp only at hW); go_simp; (try with_reducible rfl); done))); try simp only [Act.put, List.getElem_toArray, List.getElem_cons_zero, List.getElem_cons_succ, List.setIfInBounds_toArray, List.set_cons_zero, List.set_cons_succ]) | (refine wpZ_no _ (by rfl) (by rfl) (by rfl) (by rfl) ?_; try simp only [Act.put, List.getElem_toArray, List.getElem_cons_zero, List.getElem_cons_succ, List.setIfInBounds_toArray, List.set_cons_zero, List.set_cons_succ]) | (refine wpZ_noS _ (by rfl) (by rfl) (by rfl) (by exact ⟨r1, f1, f4⟩) ?_; try simp only [Act.put, List.getElem_toArray, List.getElem_cons_zero, List.getElem_cons_succ, List.setIfInBounds_toArray, List.set_cons_zero, List.set_cons_succ])))
        (simp only [wpZ])
        clear r1 f0 f1 f4 f5
        have hpar := HPA.out
        have h6 := h5.mv 2
        (try dsimp only [Go.Own.front, Go.Own.arrA, Go.Own.atA, Go.Own.dropA, List.length_cons, List.length_nil, Nat.zero_add, Nat.reduceAdd] at h6)
        go_upto_region 13 with (go_at_call 22; refine (P4 _ _ h6).mono ?_; rintro ee w7 ⟨ay, rfl, h7⟩)
        clear P4 h6 h5 hpar
        obtain ⟨Y, hY⟩ : ∃ Y, ys.length = Y := ⟨_, rfl⟩
        rw [hY] at h7 hy6 ⊢
        have HY := Lib.hid hY
        have h8 := (h7.arr [3, 0, 1, 2, 4]).drew
        (try dsimp only [Go.Own.front, Go.Own.arrA, Go.Own.atA, Go.Own.dropA, List.length_cons, List.length_nil, Nat.zero_add, Nat.reduceAdd] at h8)
        clear hY h7
        have FS : ∀ W L, Hold W (rowA 45 7 (some ⟨rb, rp, none⟩) N cap (bflat B) :: L) → W.cell? ⟨rb, rp + i * 7 + 5, none⟩ = some (.int .u8 p.bit) := fun W L hW => by rw [(HF.out W L hW).2.2.2, HBTE.out]
        have HFS := Lib.hid FS
        have HYO := Lib.hid (ub_one ys)
        have f5 := FS _ _ h8
        clear FS
        refine wp_region_ZP (fun W => W.cell? ⟨rb, rp + i * 7 + 5, none⟩ = some (.int .u8 p.bit)) [11] [12] [0, 2, 3, 5, 7, 8, 9, 10, 14, 16, 17] (.fork [0, 1, 2, 3, 5, 7, 8, 9, 10, 11, 14] 4 (.fork [] 6 (.run [12, 13, 15, 16, 17]) 12 (.run [6, 13, 15, 16, 17])) 12 (.run [4, 6, 13, 15, 16, 17])) (by kernel_rfl) (by kernel_rfl) ?_
        generalize w7.drew = w9 at *
        obtain ⟨n9, hn9⟩ : ∃ n, w9.heap.size = n := ⟨_, rfl⟩
        simp only [wpZP]
        (repeat (first | (refine wpZ_st (v := ?_) _ (by rfl) (by rfl) (by rfl) (fun W hW => ?_) (by exact f5) ?_; (rotate_left; (focus ((try dsimp only at hW); go_simp; (try with_reducible rfl); done))); try simp only [Act.put, List.getElem_toArray, List.getElem_cons_zero, List.getElem_cons_succ, List.setIfInBounds_toArray, List.set_cons_zero, List.set_cons_succ]) | (refine wpZ_pu (v := ?_) _ (by rfl) (by rfl) (by rfl) (by rfl) (fun W => ?_) ?_; (rotate_left; (focus ((try dsimp only at hW); go_simp; (try with_reducible rfl); done))); try simp only [Act.put, List.getElem_toArray, List.getElem_cons_zero, List.getElem_cons_succ, List.setIfInBounds_toArray, List.set_cons_zero, List.set_cons_succ]) | (refine wpZ_no _ (by rfl) (by rfl) (by rfl) (by rfl) ?_; try simp only [Act.put, List.getElem_toArray, List.getElem_cons_zero, List.getElem_cons_succ, List.setIfInBounds_toArray, List.set_cons_zero, List.set_cons_succ]) | (refine wpZ_noS _ (by rfl) (by rfl) (by rfl) (by exact f5) ?_; try simp only [Act.put, List.getElem_toArray, List.getElem_cons_zero, List.getElem_cons_succ, List.setIfInBounds_toArray, List.set_cons_zero, List.set_cons_succ])))
        refine wpZ_eff _ (by rfl) (by rfl) (by rfl) (by rfl) (fun K hK => ?_)
        go_simp
        refine (num_any _ _).mono ?_
        rintro ee w10 ⟨rfl, rfl⟩
        dsimp only
        (refine hK _ _ (fun hl => ?_) ?_; (first | (focus (cases hl; done)) | exact f5); clear hK K; try simp only [Act.put, List.getElem_toArray, List.getElem_cons_zero, List.getElem_cons_succ, List.setIfInBounds_toArray, List.set_cons_zero, List.set_cons_succ])
        (repeat (first | (refine wpZ_st (v := ?_) _ (by rfl) (by rfl) (by rfl) (fun W hW => ?_) (by exact f5) ?_; (rotate_left; (focus ((try dsimp only at hW); go_simp; (try with_reducible rfl); done))); try simp only [Act.put, List.getElem_toArray, List.getElem_cons_zero, List.getElem_cons_succ, List.setIfInBounds_toArray, List.set_cons_zero, List.set_cons_succ]) | (refine wpZ_pu (v := ?_) _ (by rfl) (by rfl) (by rfl) (by rfl) (fun W => ?_) ?_; (rotate_left; (focus ((try dsimp only at hW); go_simp; (try with_reducible rfl); done))); try simp only [Act.put, List.getElem_toArray, List.getElem_cons_zero, List.getElem_cons_succ, List.setIfInBounds_toArray, List.set_cons_zero, List.set_cons_succ]) | (refine wpZ_no _ (by rfl) (by rfl) (by rfl) (by rfl) ?_; try simp only [Act.put, List.getElem_toArray, List.getElem_cons_zero, List.getElem_cons_succ, List.setIfInBounds_toArray, List.set_cons_zero, List.set_cons_succ]) | (refine wpZ_noS _ (by rfl) (by rfl) (by rfl) (by exact f5) ?_; try simp only [Act.put, List.getElem_toArray, List.getElem_cons_zero, List.getElem_cons_succ, List.setIfInBounds_toArray, List.set_cons_zero, List.set_cons_succ])))
        refine wpZ_fork ⟨?_, ?_⟩
        · have h9 := emptyRow h8 5
          simp only [hn9] at h9
          refine fork_eff _ (by rfl) (by rfl) (fun K hK => ?_)
          go_simp
          refine hK _ _ (fun hl => HFS.out _ _ (h9.mv 1)) ?_
          clear hK K
          try simp only [Act.put, List.getElem_toArray, List.getElem_cons_zero, List.getElem_cons_succ, List.setIfInBounds_toArray, List.set_cons_zero, List.set_cons_succ]
          refine wpZ_fork ⟨?_, ?_⟩
          · obtain ⟨SR, r0⟩ := (h9.mv 2).rd
            refine fork_eff _ (by rfl) (by rfl) (fun K hK => ?_)
            refine wp_append_empty_h _ _ 58 (by rfl) 5 i5 (.int .u8 0) 1 1 Try.underlying58 hi5 hz0 hz1 hz2 (by rfl) _ (by rfl) h9 _ (by rfl) Y (ub ys) SR r0 HYO.out (by unfold maxLen; omega) (by omega) (fun a1 c1 w11 h10 hc1 => ?_)
            refine hK _ _ (fun hl => HFS.out _ _ (h10.mv 1)) ?_
            clear hK K
            try simp only [Act.put, List.getElem_toArray, List.getElem_cons_zero, List.getElem_cons_succ, List.setIfInBounds_toArray, List.set_cons_zero, List.set_cons_succ]
            obtain ⟨n6, hn6⟩ : ∃ n, w11.heap.size = n := ⟨_, rfl⟩
            have h11 := h10.box 5 [.int .u8 (p.bit : Int)]
            simp only [hn6] at h11
            (refine wpZ_eff _ (by rfl) (by rfl) (by rfl) (by rfl) (fun K hK => ?_); go_simp; refine hK _ _ (fun hl => ?_) ?_; (first | (focus (cases hl; done)) | exact HFS.out _ _ (h11.mv 2)); clear hK K; try simp only [Act.put, List.getElem_toArray, List.getElem_cons_zero, List.getElem_cons_succ, List.setIfInBounds_toArray, List.set_cons_zero, List.set_cons_succ])
            have h12 := h11.mv 1
            (try dsimp only [Go.Own.front, Go.Own.arrA, Go.Own.atA, Go.Own.dropA, List.length_cons, List.length_nil, Nat.zero_add, Nat.reduceAdd] at h12)
            obtain ⟨SB, rB⟩ := (h12.mv 1).reads (cells_reads 5 n6 1 1 _ (by rfl) (by unfold maxLen; omega))
            refine wpZ_eff _ (by rfl) (by rfl) (by rfl) (by rfl) (fun K hK => ?_)
            refine wp_append_src_h _ _ 58 (by rfl) 5 i5 (.int .u8 0) 1 1 Try.underlying58 hi5 hz0 hz1 hz2 (by rfl) a1 Y c1 _ (by rfl) h12 _ (by rfl) 1 [.int .u8 p.bit] SB rB (by simp [Value.oneCell']) (by unfold maxLen; omega) (by omega) (fun a9 c9 w13 h13 hc9 => ?_)
            have f6 := HFS.out _ _ (h13.mv 2)
            (refine hK _ _ (fun hl => ?_) ?_; (first | (focus (cases hl; done)) | exact f6); clear hK K; try simp only [Act.put, List.getElem_toArray, List.getElem_cons_zero, List.getElem_cons_succ, List.setIfInBounds_toArray, List.set_cons_zero, List.set_cons_succ])
            have e9 : ub ys ++ [.int .u8 (p.bit : Int)] = ub xs := by rw [HXY.out, ub_put HB8.out]
            rw [e9] at h13
            have S1 := same_eq xs a9 aw (Y + 1) c9 xs.length xs.length w13 h13.rd (h13.mv 6).rd
            refine wpZ_eff _ (by rfl) (by rfl) (by rfl) (by rfl) (fun K hK => ?_)
            go_simp
            refine S1.mono ?_
            rintro ee w14 ⟨rfl, rfl⟩
            dsimp only
            (refine hK _ _ (fun hl => ?_) ?_; (first | (focus (cases hl; done)) | exact f6); clear hK K; try simp only [Act.put, List.getElem_toArray, List.getElem_cons_zero, List.getElem_cons_succ, List.setIfInBounds_toArray, List.set_cons_zero, List.set_cons_succ])
            (repeat (first | (refine wpZ_st (v := ?_) _ (by rfl) (by rfl) (by rfl) (fun W hW => ?_) (by exact f6) ?_; (rotate_left; (focus ((try dsimp only at hW); go_simp; (try with_reducible rfl); done))); try simp only [Act.put, List.getElem_toArray, List.getElem_cons_zero, List.getElem_cons_succ, List.setIfInBounds_toArray, List.set_cons_zero, List.set_cons_succ]) | (refine wpZ_pu (v := ?_) _ (by rfl) (by rfl) (by rfl) (by rfl) (fun W => ?_) ?_; (rotate_left; (focus ((try dsimp only at hW); go_simp; (try with_reducible rfl); done))); try simp only [Act.put, List.getElem_toArray, List.getElem_cons_zero, List.getElem_cons_succ, List.setIfInBounds_toArray, List.set_cons_zero, List.set_cons_succ]) | (refine wpZ_no _ (by rfl) (by rfl) (by rfl) (by rfl) ?_; try simp only [Act.put, List.getElem_toArray, List.getElem_cons_zero, List.getElem_cons_succ, List.setIfInBounds_toArray, List.set_cons_zero, List.set_cons_succ]) | (refine wpZ_noS _ (by rfl) (by rfl) (by rfl) (by exact f6) ?_; try simp only [Act.put, List.getElem_toArray, List.getElem_cons_zero, List.getElem_cons_succ, List.setIfInBounds_toArray, List.set_cons_zero, List.set_cons_succ])))
            (simp only [wpZ])
            clear S1 f6
            have h14 := (((((h13.drop).drop.mv 1).drop).mv 2).drop.mv 2).drop
            (try dsimp only [Go.Own.front, Go.Own.arrA, Go.Own.atA, Go.Own.dropA, List.length_cons, List.length_nil, Nat.zero_add, Nat.reduceAdd] at h14)
            have h15 := h14.mv 1
            (try dsimp only [Go.Own.front, Go.Own.arrA, Go.Own.atA, Go.Own.dropA, List.length_cons, List.length_nil, Nat.zero_add, Nat.reduceAdd] at h15)
            go_wp2
            go_roundw
            case rel => exact ⟨i + 1, by rw [HN.out]; omega, by go_num, h15⟩
            case measure => simp [intOf]; have := HN.out; omega
          · have h10 := h9.box 5 [.int .u8 (p.bit : Int)]
            simp only [World.size_alloc, hn9] at h10
            refine fork_eff _ (by rfl) (by rfl) (fun K hK => ?_)
            go_simp
            refine hK _ _ (fun hl => HFS.out _ _ (h10.mv 2)) ?_
            clear hK K
            try simp only [Act.put, List.getElem_toArray, List.getElem_cons_zero, List.getElem_cons_succ, List.setIfInBounds_toArray, List.set_cons_zero, List.set_cons_succ]
            have h11 := h10.mv 1
            (try dsimp only [Go.Own.front, Go.Own.arrA, Go.Own.atA, Go.Own.dropA, List.length_cons, List.length_nil, Nat.zero_add, Nat.reduceAdd] at h11)
            obtain ⟨SR, r0⟩ := (h11.mv 3).rd
            refine wpZ_eff _ (by rfl) (by rfl) (by rfl) (by rfl) (fun K hK => ?_)
            refine wp_append_empty_h _ _ 58 (by rfl) 5 i5 (.int .u8 0) 1 1 Try.underlying58 hi5 hz0 hz1 hz2 (by rfl) _ (by rfl) h11 _ (by rfl) Y (ub ys) SR r0 HYO.out (by unfold maxLen; omega) (by omega) (fun a1 c1 w11 h12 hc1 => ?_)
            (refine hK _ _ (fun hl => ?_) ?_; (first | (focus (cases hl; done)) | exact HFS.out _ _ (h12.mv 2)); clear hK K; try simp only [Act.put, List.getElem_toArray, List.getElem_cons_zero, List.getElem_cons_succ, List.setIfInBounds_toArray, List.set_cons_zero, List.set_cons_succ])
            obtain ⟨SB, rB⟩ := (h12.mv 1).reads (cells_reads 5 (n9 + 1) 1 1 _ (by rfl) (by unfold maxLen; omega))
            refine wpZ_eff _ (by rfl) (by rfl) (by rfl) (by rfl) (fun K hK => ?_)
            refine wp_append_src_h _ _ 58 (by rfl) 5 i5 (.int .u8 0) 1 1 Try.underlying58 hi5 hz0 hz1 hz2 (by rfl) a1 Y c1 _ (by rfl) h12 _ (by rfl) 1 [.int .u8 p.bit] SB rB (by simp [Value.oneCell']) (by unfold maxLen; omega) (by omega) (fun a9 c9 w13 h13 hc9 => ?_)
            have f6 := HFS.out _ _ (h13.mv 2)
            (refine hK _ _ (fun hl => ?_) ?_; (first | (focus (cases hl; done)) | exact f6); clear hK K; try simp only [Act.put, List.getElem_toArray, List.getElem_cons_zero, List.getElem_cons_succ, List.setIfInBounds_toArray, List.set_cons_zero, List.set_cons_succ])
            have e9 : ub ys ++ [.int .u8 (p.bit : Int)] = ub xs := by rw [HXY.out, ub_put HB8.out]
            rw [e9] at h13
            have S1 := same_eq xs a9 aw (Y + 1) c9 xs.length xs.length w13 h13.rd (h13.mv 6).rd
            refine wpZ_eff _ (by rfl) (by rfl) (by rfl) (by rfl) (fun K hK => ?_)
            go_simp
            refine S1.mono ?_
            rintro ee w14 ⟨rfl, rfl⟩
            dsimp only
            (refine hK _ _ (fun hl => ?_) ?_; (first | (focus (cases hl; done)) | exact f6); clear hK K; try simp only [Act.put, List.getElem_toArray, List.getElem_cons_zero, List.getElem_cons_succ, List.setIfInBounds_toArray, List.set_cons_zero, List.set_cons_succ])
            (repeat (first | (refine wpZ_st (v := ?_) _ (by rfl) (by rfl) (by rfl) (fun W hW => ?_) (by exact f6) ?_; (rotate_left; (focus ((try dsimp only at hW); go_simp; (try with_reducible rfl); done))); try simp only [Act.put, List.getElem_toArray, List.getElem_cons_zero, List.getElem_cons_succ, List.setIfInBounds_toArray, List.set_cons_zero, List.set_cons_succ]) | (refine wpZ_pu (v := ?_) _ (by rfl) (by rfl) (by rfl) (by rfl) (fun W => ?_) ?_; (rotate_left; (focus ((try dsimp only at hW); go_simp; (try with_reducible rfl); done))); try simp only [Act.put, List.getElem_toArray, List.getElem_cons_zero, List.getElem_cons_succ, List.setIfInBounds_toArray, List.set_cons_zero, List.set_cons_succ]) | (refine wpZ_no _ (by rfl) (by rfl) (by rfl) (by rfl) ?_; try simp only [Act.put, List.getElem_toArray, List.getElem_cons_zero, List.getElem_cons_succ, List.setIfInBounds_toArray, List.set_cons_zero, List.set_cons_succ]) | (refine wpZ_noS _ (by rfl) (by rfl) (by rfl) (by exact f6) ?_; try simp only [Act.put, List.getElem_toArray, List.getElem_cons_zero, List.getElem_cons_succ, List.setIfInBounds_toArray, List.set_cons_zero, List.set_cons_succ])))
            (simp only [wpZ])
            clear S1 f6
            have h14 := (((((h13.drop).drop.mv 1).drop).mv 2).drop.mv 2).drop
            (try dsimp only [Go.Own.front, Go.Own.arrA, Go.Own.atA, Go.Own.dropA, List.length_cons, List.length_nil, Nat.zero_add, Nat.reduceAdd] at h14)
            have h15 := h14.mv 1
            (try dsimp only [Go.Own.front, Go.Own.arrA, Go.Own.atA, Go.Own.dropA, List.length_cons, List.length_nil, Nat.zero_add, Nat.reduceAdd] at h15)
            go_wp2
            go_roundw
            case rel => exact ⟨i + 1, by rw [HN.out]; omega, by go_num, h15⟩
            case measure => simp [intOf]; have := HN.out; omega
        · have h9 := h8.box 5 [.int .u8 (p.bit : Int)]
          simp only [hn9] at h9
          refine fork_eff _ (by rfl) (by rfl) (fun K hK => ?_)
          go_simp
          refine hK _ _ (fun hl => HFS.out _ _ (h9.mv 1)) ?_
          clear hK K
          try simp only [Act.put, List.getElem_toArray, List.getElem_cons_zero, List.getElem_cons_succ, List.setIfInBounds_toArray, List.set_cons_zero, List.set_cons_succ]
          have h11 := emptyRow h9 5
          simp only [World.size_alloc, hn9] at h11
          (refine wpZ_eff _ (by rfl) (by rfl) (by rfl) (by rfl) (fun K hK => ?_); go_simp; refine hK _ _ (fun hl => ?_) ?_; (first | (focus (cases hl; done)) | exact HFS.out _ _ (h11.mv 2)); clear hK K; try simp only [Act.put, List.getElem_toArray, List.getElem_cons_zero, List.getElem_cons_succ, List.setIfInBounds_toArray, List.set_cons_zero, List.set_cons_succ])
          obtain ⟨SR, r0⟩ := (h11.mv 3).rd
          refine wpZ_eff _ (by rfl) (by rfl) (by rfl) (by rfl) (fun K hK => ?_)
          refine wp_append_empty_h _ _ 58 (by rfl) 5 i5 (.int .u8 0) 1 1 Try.underlying58 hi5 hz0 hz1 hz2 (by rfl) _ (by rfl) h11 _ (by rfl) Y (ub ys) SR r0 HYO.out (by unfold maxLen; omega) (by omega) (fun a1 c1 w11 h12 hc1 => ?_)
          (refine hK _ _ (fun hl => ?_) ?_; (first | (focus (cases hl; done)) | exact HFS.out _ _ (h12.mv 2)); clear hK K; try simp only [Act.put, List.getElem_toArray, List.getElem_cons_zero, List.getElem_cons_succ, List.setIfInBounds_toArray, List.set_cons_zero, List.set_cons_succ])
          obtain ⟨SB, rB⟩ := (h12.mv 1).reads (cells_reads 5 n9 1 1 _ (by rfl) (by unfold maxLen; omega))
          refine wpZ_eff _ (by rfl) (by rfl) (by rfl) (by rfl) (fun K hK => ?_)
          refine wp_append_src_h _ _ 58 (by rfl) 5 i5 (.int .u8 0) 1 1 Try.underlying58 hi5 hz0 hz1 hz2 (by rfl) a1 Y c1 _ (by rfl) h12 _ (by rfl) 1 [.int .u8 p.bit] SB rB (by simp [Value.oneCell']) (by unfold maxLen; omega) (by omega) (fun a9 c9 w13 h13 hc9 => ?_)
          have f6 := HFS.out _ _ (h13.mv 2)
          (refine hK _ _ (fun hl => ?_) ?_; (first | (focus (cases hl; done)) | exact f6); clear hK K; try simp only [Act.put, List.getElem_toArray, List.getElem_cons_zero, List.getElem_cons_succ, List.setIfInBounds_toArray, List.set_cons_zero, List.set_cons_succ])
          have e9 : ub ys ++ [.int .u8 (p.bit : Int)] = ub xs := by rw [HXY.out, ub_put HB8.out]
          rw [e9] at h13
          have S1 := same_eq xs a9 aw (Y + 1) c9 xs.length xs.length w13 h13.rd (h13.mv 6).rd
          refine wpZ_eff _ (by rfl) (by rfl) (by rfl) (by rfl) (fun K hK => ?_)
          go_simp
          refine S1.mono ?_
          rintro ee w14 ⟨rfl, rfl⟩
          dsimp only
          (refine hK _ _ (fun hl => ?_) ?_; (first | (focus (cases hl; done)) | exact f6); clear hK K; try simp only [Act.put, List.getElem_toArray, List.getElem_cons_zero, List.getElem_cons_succ, List.setIfInBounds_toArray, List.set_cons_zero, List.set_cons_succ])
          (repeat (first | (refine wpZ_st (v := ?_) _ (by rfl) (by rfl) (by rfl) (fun W hW => ?_) (by exact f6) ?_; (rotate_left; (focus ((try dsimp only at hW); go_simp; (try with_reducible rfl); done))); try simp only [Act.put, List.getElem_toArray, List.getElem_cons_zero, List.getElem_cons_succ, List.setIfInBounds_toArray, List.set_cons_zero, List.set_cons_succ]) | (refine wpZ_pu (v := ?_) _ (by rfl) (by rfl) (by rfl) (by rfl) (fun W => ?_) ?_; (rotate_left; (focus ((try dsimp only at hW); go_simp; (try with_reducible rfl); done))); try simp only [Act.put, List.getElem_toArray, List.getElem_cons_zero, List.getElem_cons_succ, List.setIfInBounds_toArray, List.set_cons_zero, List.set_cons_succ]) | (refine wpZ_no _ (by rfl) (by rfl) (by rfl) (by rfl) ?_; try simp only [Act.put, List.getElem_toArray, List.getElem_cons_zero, List.getElem_cons_succ, List.setIfInBounds_toArray, List.set_cons_zero, List.set_cons_succ]) | (refine wpZ_noS _ (by rfl) (by rfl) (by rfl) (by exact f6) ?_; try simp only [Act.put, List.getElem_toArray, List.getElem_cons_zero, List.getElem_cons_succ, List.setIfInBounds_toArray, List.set_cons_zero, List.set_cons_succ])))
          (simp only [wpZ])
          clear S1 f6
          have h14 := (((((h13.drop).drop.mv 1).drop).mv 2).drop.mv 2).drop
          (try dsimp only [Go.Own.front, Go.Own.arrA, Go.Own.atA, Go.Own.dropA, List.length_cons, List.length_nil, Nat.zero_add, Nat.reduceAdd] at h14)
          have h15 := h14.mv 1
          (try dsimp only [Go.Own.front, Go.Own.arrA, Go.Own.atA, Go.Own.dropA, List.length_cons, List.length_nil, Nat.zero_add, Nat.reduceAdd] at h15)
          go_wp2
          go_roundw
          case rel => exact ⟨i + 1, by rw [HN.out]; omega, by go_num, h15⟩
          case measure => simp [intOf]; have := HN.out; omega
    · obtain rfl : i = N := by omega
      go_wp2
      go_ret
      exact ⟨rfl, by rw [HN.out]; exact hr⟩

end Go.Proofs.Ytahhbbcgfhmmgaa
