/- Contracts: the ring's push. -/
import Derived.Test.YtjnjbmkkfkdhcaaSeD
open Go.RowKit Go.Own
namespace Go.Proofs.Ytjnjbmkkfkdhcaa

theorem info5 : (Try.prog.info? 5).map (fun i => (i.zero, i.size, i.bytes)) = some (some (.int .u8 0), 1, 1) := by kernel_rfl
theorem info32 : (Try.prog.info? 32).map (fun i => (i.zero, i.size, i.bytes)) = some (some (.slice none 0 0), 1, 24) := by kernel_rfl
theorem size5 : (Try.prog.info? 5).map (·.size) = some 1 := by kernel_rfl

theorem copied {xs ys : List Value} {k : Nat} (hx : xs.length = k) (hy : ys.length = k) : xs.take 0 ++ ys.take (Nat.min k k) ++ xs.drop (0 + Nat.min k k) = ys := by
  have e : Nat.min k k = k := Nat.min_self k
  rw [e, List.take_zero, List.nil_append, List.take_of_length_le (by omega), List.drop_eq_nil_of_le (by omega), List.append_nil]

set_option maxHeartbeats 1000000 in
set_option maxRecDepth 20000 in
theorem push_ok (b : Nat) (S : SS) (f n m rc j : Nat) (ro : Option Addr) (rows : List (List UInt8)) (vs : List (Option Addr × Nat)) (hl : vs.length = rows.length) (hm : rows.length = m) (hm6 : m ≤ 256) (hf : f < m) (hn : n < m) (hj : (f + n) % m = j) (x : List UInt8) (C : Asn) (ao : Option Addr) (k cap : Nat)
    (hR : Reads C 1 (.slice ao k cap) k (ub x)) (hk : k ≤ 64) (w : World) (L : List Asn) (h : Hold w (cellsA b 60 (S.cells (.slice ro m rc) f n) :: rowA 32 1 ro m rc (sl rows vs) :: starL (rws rows vs) :: C :: L)) :
    Calls Try.prog 27 #[.pointer (some ⟨b, 0, none⟩), .slice ao k cap] w fun e w' => e = .returned (.tuple #[]) ∧ ∃ vs' : List (Option Addr × Nat), vs'.length = rows.length ∧ Hold w' (cellsA b 60 (S.cells (.slice ro m rc) f (n + 1)) :: rowA 32 1 ro m rc (sl (rows.set j x) vs') :: starL (rws (rows.set j x) vs') :: C :: L) := by
  obtain ⟨i5, hi, hz0, hz1, hz2⟩ := info_parts info5
  have hjm : j < m := by rw [← hj]; exact Nat.mod_lt _ (by omega)
  have hr := rem_nat (f + n) m
  rw [hj] at hr
  have W1 : IntKind.i64.wrap ((f : Int) + n) = (f : Int) + n := IntWalk.i64_in _ (by omega)
  have W2 : ((f : Int) + n).tmod m = j := by rw [show (f : Int) + n = ((f + n : Nat) : Int) by omega]; exact hr
  have W3 : IntKind.i64.wrap (j : Int) = j := IntWalk.i64_in _ (by omega)
  have W4 : IntKind.i64.wrap ((n : Int) + 1) = (n : Int) + 1 := IntWalk.i64_in _ (by omega)
  have hm0 : ((m : Int) == 0) = false := by rw [beq_eq_false_iff_ne]; omega
  have hm1 : ¬ m = 0 := by omega
  have hjm2 : (j : Int) < m := by omega
  have hj0 : 0 ≤ (j : Int) := by omega
  have hC := h.arr [3, 0, 1, 2]
  (try dsimp only [Go.Own.front, Go.Own.arrA, Go.Own.atA, Go.Own.dropA, List.length_cons, List.length_nil, Nat.zero_add, Nat.reduceAdd] at hC)
  obtain ⟨S0, r0⟩ := hC.reads hR
  have hxl : (ub x).length = k := by have := r0.bounds.1; omega
  have hxl2 : x.length = k := by simpa using hxl
  have HU := Lib.hid (ub_one x)
  have HXL := Lib.hid (And.intro hxl hxl2)
  have HM := Lib.hid hm
  have HL := Lib.hid hl
  clear hj hr hm hl hxl hxl2 h r0
  go_enter Try.func27, Try.ntmps27
  go_upto_region 2 with (first
    | ((with_reducible refine wpList_plain (o := ⟨some 7, _, _, _, _, _⟩) rfl (fun K hK => ?_)); refine wp_make_h _ _ 32 (by rfl) 5 i5 (.int .u8 0) 1 1 Try.underlying32 hi hz0 hz1 hz2 .i64 .i64 k k (by rfl) (by rfl) (by omega) (by omega) (by omega) (by omega) hC (fun a2 w4 h4 => ?_); refine hK _ _ ?_; clear hK K; rw [Int.toNat_natCast] at h4; obtain ⟨S1, r1⟩ := (h4.mv 1).reads hR; have hzl := h4.bounds.1)
    | ((with_reducible refine wpList_plain (o := ⟨some 10, _, _, _, _, _⟩) rfl (fun K hK => ?_)); refine wp_copy_h _ _ 32 32 (by rfl) 5 Try.underlying32 size5 _ k k _ h4 0 _ k k (by rfl) (.inr (by cases a2 <;> rfl)) (by omega) _ k (ub x) S1 (by rfl) r1 HU.out (fun w5 h5 => ?_); refine hK _ _ ?_; clear hK K; rw [copied (by omega) HXL.out.1] at h5; clear h4 r1))
  try simp only [Act.put, List.getElem_toArray, List.getElem_cons_zero, List.getElem_cons_succ, List.setIfInBounds_toArray, List.set_cons_zero, List.set_cons_succ]
  clear hC hz0 hz1 hz2 hi
  have h6 := h5.arr [2, 3, 4, 0, 1]
  (try dsimp only [Go.Own.front, Go.Own.arrA, Go.Own.atA, Go.Own.dropA, List.length_cons, List.length_nil, Nat.zero_add, Nat.reduceAdd] at h6)
  clear h5
  obtain ⟨g0, g1, g2, -⟩ := snM h6
  obtain ⟨rb, rp, rfl, xs, v, -, -, hrw, G⟩ := row_at HL.out HM.out hjm (h6.mv 1)
  have hS := h6.drew
  obtain ⟨gj, fj⟩ := G _ _ (hS.mv 1)
  have HRW := Lib.hid hrw
  have HS := (hS.mv 1).put j (by omega) (.slice a2 k k)
  (try dsimp only [Go.Own.front, Go.Own.arrA, Go.Own.atA, Go.Own.dropA, List.length_cons, List.length_nil, Nat.zero_add, Nat.reduceAdd] at HS)
  clear G hrw h6
  refine wp_region_Z (fun W => W.cell? ⟨b, 0, none⟩ = some (.slice (some ⟨rb, rp, none⟩) m rc) ∧ W.cell? ⟨b, 1, none⟩ = some (.int .i64 f) ∧ W.cell? ⟨b, 2, none⟩ = some (.int .i64 n)) [3, 7, 11, 16] [21] [0, 1, 2, 4, 5, 6, 8, 9, 10, 12, 13, 14, 15, 17, 18, 19, 20] [0, 1, 2, 3, 4, 5, 6, 7, 8, 9, 10, 11, 12, 13, 14, 15, 16, 17, 18, 19, 20, 21] (by kernel_rfl) (by kernel_rfl) ?_
  (repeat (first | (refine wpZ_st (v := ?_) _ (by rfl) (by rfl) (by rfl) (fun W hW => ?_) (by exact ⟨hS.cell 0, hS.cell 1, hS.cell 2⟩) ?_; (rotate_left; (focus ((try dsimp only at hW); go_simp; (try with_reducible rfl); done))); try simp only [Act.put, List.getElem_toArray, List.getElem_cons_zero, List.getElem_cons_succ, List.setIfInBounds_toArray, List.set_cons_zero, List.set_cons_succ]) | (refine wpZ_pu (v := ?_) _ (by rfl) (by rfl) (by rfl) (by rfl) (fun W => ?_) ?_; (rotate_left; (focus ((try dsimp only at hW); go_simp; (try with_reducible rfl); done))); try simp only [Act.put, List.getElem_toArray, List.getElem_cons_zero, List.getElem_cons_succ, List.setIfInBounds_toArray, List.set_cons_zero, List.set_cons_succ]) | (refine wpZ_no _ (by rfl) (by rfl) (by rfl) (by rfl) ?_; try simp only [Act.put, List.getElem_toArray, List.getElem_cons_zero, List.getElem_cons_succ, List.setIfInBounds_toArray, List.set_cons_zero, List.set_cons_succ]) | (refine wpZ_noS _ (by rfl) (by rfl) (by rfl) (by exact ⟨hS.cell 0, hS.cell 1, hS.cell 2⟩) ?_; try simp only [Act.put, List.getElem_toArray, List.getElem_cons_zero, List.getElem_cons_succ, List.setIfInBounds_toArray, List.set_cons_zero, List.set_cons_succ])))
  (refine wpZ_eff _ (by rfl) (by rfl) (by rfl) (by rfl) (fun K hK => ?_); go_simp; refine hK _ _ (fun hl => ?_) ?_; (first | (focus (cases hl; done)) | trivial); clear hK K; try simp only [Act.put, List.getElem_toArray, List.getElem_cons_zero, List.getElem_cons_succ, List.setIfInBounds_toArray, List.set_cons_zero, List.set_cons_succ])
  (simp only [wpZ])
  go_upto_region 3 with (fail)
  refine gen_world HS (fun w7 HS => ?_)
  clear gj fj hS g0 g1 g2
  have HT := HS.arr [1, 0, 2, 3, 4]
  (try dsimp only [Go.Own.front, Go.Own.arrA, Go.Own.atA, Go.Own.dropA, List.length_cons, List.length_nil, Nat.zero_add, Nat.reduceAdd] at HT)
  obtain ⟨-, -, g2, -⟩ := snM HT
  have f2 := HT.frozen 2
  have HV := HT.st 2 (.int .i64 ((n : Int) + 1))
  go_wp2
  go_end0
  have hrl := rws_length HL.out
  have hrj : j < (rws rows vs).length := by have := HM.out; omega
  have e1 := rws_set rows vs j x (a2, k)
  have e2 := sl_set rows vs j x (a2, k)
  simp only [HXL.out.2] at e1 e2
  refine ⟨rfl, vs.set j (a2, k), by simpa using HL.out, ?_⟩
  have h8 := ((HV.mv 2).out HRW.out).drop
  (try dsimp only [Go.Own.front, Go.Own.arrA, Go.Own.atA, Go.Own.dropA, List.length_cons, List.length_nil, Nat.zero_add, Nat.reduceAdd] at h8)
  have h9 := h8.arr [3, 0, 1, 2, 4]
  (try dsimp only [Go.Own.front, Go.Own.arrA, Go.Own.atA, Go.Own.dropA, List.length_cons, List.length_nil, Nat.zero_add, Nat.reduceAdd] at h9)
  have h10 := h9.back hrj
  rw [← e1, ← e2] at h10
  have h11 := h10.arr [1, 2, 0, 3]
  (try dsimp only [Go.Own.front, Go.Own.arrA, Go.Own.atA, Go.Own.dropA, List.length_cons, List.length_nil, Nat.zero_add, Nat.reduceAdd] at h11)
  exact h11.as (by simp only [SS.cells, List.set_cons_succ, List.set_cons_zero]; rfl)

end Go.Proofs.Ytjnjbmkkfkdhcaa
