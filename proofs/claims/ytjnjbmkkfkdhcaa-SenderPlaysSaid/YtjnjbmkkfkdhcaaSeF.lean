/- Contracts: the ring's cut. -/
import Derived.Test.YtjnjbmkkfkdhcaaSeE
open Go.RowKit Go.Own
namespace Go.Proofs.Ytjnjbmkkfkdhcaa

def CutRel (b : Nat) (S : SS) (m rc k : Nat) (ro : Option Addr) (Ls : List (List UInt8)) (R : List Asn) (t : Value) (wr : World) : Prop :=
  ∃ (i f : Nat) (rows : List (List UInt8)) (vs : List (Option Addr × Nat)), i ≤ k ∧ t = .int .i64 i ∧ Ring rows f (Ls.drop i) ∧ rows.length = m ∧ vs.length = rows.length ∧ Hold wr (cellsA b 60 (S.cells (.slice ro m rc) f (Ls.drop i).length) :: rowA 32 1 ro m rc (sl rows vs) :: starL (rws rows vs) :: R)

set_option maxHeartbeats 1000000 in
set_option maxRecDepth 20000 in
theorem cut_ok (b : Nat) (S : SS) (f m rc k : Nat) (ro : Option Addr) (rows : List (List UInt8)) (vs : List (Option Addr × Nat)) (hRg : Ring rows f S.L) (hm : rows.length = m) (hl : vs.length = rows.length) (hm6 : m ≤ 256) (hk : k ≤ S.L.length) (w : World) (L : List Asn)
    (h : Hold w (cellsA b 60 (S.cells (.slice ro m rc) f S.L.length) :: rowA 32 1 ro m rc (sl rows vs) :: starL (rws rows vs) :: L)) :
    Calls Try.prog 29 #[.pointer (some ⟨b, 0, none⟩), .int .i64 k] w fun e w' => e = .returned (.tuple #[]) ∧ ∃ (f' : Nat) (rows' : List (List UInt8)) (vs' : List (Option Addr × Nat)), Ring rows' f' (S.L.drop k) ∧ rows'.length = m ∧ vs'.length = rows'.length ∧
      Hold w' (cellsA b 60 (S.cells (.slice ro m rc) f' (S.L.drop k).length) :: rowA 32 1 ro m rc (sl rows' vs') :: starL (rws rows' vs') :: L) := by
  have hkm : (k : Int) ≤ 9223372036854775807 := by have := hRg.ll; omega
  have H0 := Lib.hid (And.intro hRg (And.intro hm hl))
  have HK := Lib.hid hk
  clear hRg hm hl hk
  go_enter Try.func29, Try.ntmps29
  go_wp2
  go_loopw [5] (fun t wr => CutRel b S m rc k ro S.L L t wr) (fun t _ => k - (intOf t).toNat)
  case atStart => exact ⟨0, f, rows, vs, by omega, rfl, H0.out.1, H0.out.2.1, H0.out.2.2, h⟩
  case round =>
    clear h H0
    obtain ⟨i, f', rows', vs', hik, rfl, hRg, hm, hl, hr⟩ := hrel
    by_cases hlt : i < k
    · have hki : (i : Int) < k := by omega
      have hq1 : 1 ≤ (S.L.drop i).length := by have := HK.out; simp; omega
      have hqm : (S.L.drop i).length ≤ m := by have := hRg.ll; omega
      have hfm : f' < m := by have := hRg.fl; omega
      have hcut := hRg.cut1 (by omega)
      rw [List.drop_drop, hm] at hcut
      have hq2 : (S.L.drop (i + 1)).length + 1 = (S.L.drop i).length := by simp; have := HK.out; omega
      obtain ⟨f2, hf2⟩ : ∃ f2, (f' + 1) % m = f2 := ⟨_, rfl⟩
      have hf2m : f2 < m := by rw [← hf2]; exact Nat.mod_lt _ (by omega)
      rw [hf2] at hcut
      have hrm := rem_nat (f' + 1) m
      rw [hf2] at hrm
      have W1 : IntKind.i64.wrap ((f' : Int) + 1) = (f' : Int) + 1 := IntWalk.i64_in _ (by omega)
      have W2 : ((f' : Int) + 1).tmod m = f2 := by rw [show (f' : Int) + 1 = ((f' + 1 : Nat) : Int) by omega]; exact hrm
      have W3 : IntKind.i64.wrap (f2 : Int) = f2 := IntWalk.i64_in _ (by omega)
      have hm1 : ¬ m = 0 := by omega
      have hfi : (f' : Int) < m := by omega
      have hf0 : 0 ≤ (f' : Int) := by omega
      obtain ⟨rb, rp, rfl, xs, v, -, -, hrw, G⟩ := row_at hl hm hfm (hr.mv 1)
      have hS := hr.drew
      obtain ⟨gj, fj⟩ := G _ _ (hS.mv 1)
      obtain ⟨g0, g1, g2, -⟩ := snM hS
      have HRW := Lib.hid hrw
      have HM := Lib.hid (And.intro hm (And.intro hl hcut))
      have HS := (hS.mv 1).put f' (by omega) (.slice none 0 0)
      (try dsimp only [Go.Own.front, Go.Own.arrA, Go.Own.atA, Go.Own.dropA, List.length_cons, List.length_nil, Nat.zero_add, Nat.reduceAdd] at HS)
      generalize hq : (S.L.drop i).length = q at *
      have HQ := Lib.hid hq
      have HQ2 := Lib.hid hq2
      clear G hrw hr hm hl hcut hRg hrm hf2 hq hq2
      go_upto_region 2 with (fail)
      refine wp_region_Z (fun W => W.cell? ⟨b, 0, none⟩ = some (.slice (some ⟨rb, rp, none⟩) m rc) ∧ W.cell? ⟨b, 1, none⟩ = some (.int .i64 f')) [3, 7] [9] [0, 1, 2, 4, 5, 6, 8] [0, 1, 2, 3, 4, 5, 6, 7, 8, 9] (by kernel_rfl) (by kernel_rfl) ?_
      (repeat (first | (refine wpZ_st (v := ?_) _ (by rfl) (by rfl) (by rfl) (fun W hW => ?_) (by exact ⟨g0, g1⟩) ?_; (rotate_left; (focus ((try dsimp only at hW); go_simp; (try with_reducible rfl); done))); try simp only [Act.put, List.getElem_toArray, List.getElem_cons_zero, List.getElem_cons_succ, List.setIfInBounds_toArray, List.set_cons_zero, List.set_cons_succ]) | (refine wpZ_pu (v := ?_) _ (by rfl) (by rfl) (by rfl) (by rfl) (fun W => ?_) ?_; (rotate_left; (focus ((try dsimp only at hW); go_simp; (try with_reducible rfl); done))); try simp only [Act.put, List.getElem_toArray, List.getElem_cons_zero, List.getElem_cons_succ, List.setIfInBounds_toArray, List.set_cons_zero, List.set_cons_succ]) | (refine wpZ_no _ (by rfl) (by rfl) (by rfl) (by rfl) ?_; try simp only [Act.put, List.getElem_toArray, List.getElem_cons_zero, List.getElem_cons_succ, List.setIfInBounds_toArray, List.set_cons_zero, List.set_cons_succ]) | (refine wpZ_noS _ (by rfl) (by rfl) (by rfl) (by exact ⟨g0, g1⟩) ?_; try simp only [Act.put, List.getElem_toArray, List.getElem_cons_zero, List.getElem_cons_succ, List.setIfInBounds_toArray, List.set_cons_zero, List.set_cons_succ])))
      (refine wpZ_eff _ (by rfl) (by rfl) (by rfl) (by rfl) (fun K hK => ?_); go_simp; refine hK _ _ (fun hl => ?_) ?_; (first | (focus (cases hl; done)) | trivial); clear hK K; try simp only [Act.put, List.getElem_toArray, List.getElem_cons_zero, List.getElem_cons_succ, List.setIfInBounds_toArray, List.set_cons_zero, List.set_cons_succ])
      (simp only [wpZ])
      go_upto_region 3 with (fail)
      refine gen_world HS (fun w7 HS => ?_)
      clear gj fj hS g0 g1 g2
      have HT := (HS.arr [1, 0, 2]).drew
      (try dsimp only [Go.Own.front, Go.Own.arrA, Go.Own.atA, Go.Own.dropA, List.length_cons, List.length_nil, Nat.zero_add, Nat.reduceAdd] at HT)
      obtain ⟨g0, g1, g2, -⟩ := snM HT
      have f1 := HT.frozen 1
      have HV := HT.st 1 (.int .i64 f2)
      refine wp_region_Z (fun W => W.cell? ⟨b, 0, none⟩ = some (.slice (some ⟨rb, rp, none⟩) m rc) ∧ W.cell? ⟨b, 1, none⟩ = some (.int .i64 f')) [4, 9] [14] [0, 1, 2, 3, 5, 6, 7, 8, 10, 11, 12, 13] [0, 1, 2, 3, 4, 5, 6, 7, 8, 9, 10, 11, 12, 13, 14] (by kernel_rfl) (by kernel_rfl) ?_
      (repeat (first | (refine wpZ_st (v := ?_) _ (by rfl) (by rfl) (by rfl) (fun W hW => ?_) (by exact ⟨g0, g1⟩) ?_; (rotate_left; (focus ((try dsimp only at hW); go_simp; (try with_reducible rfl); done))); try simp only [Act.put, List.getElem_toArray, List.getElem_cons_zero, List.getElem_cons_succ, List.setIfInBounds_toArray, List.set_cons_zero, List.set_cons_succ]) | (refine wpZ_pu (v := ?_) _ (by rfl) (by rfl) (by rfl) (by rfl) (fun W => ?_) ?_; (rotate_left; (focus ((try dsimp only at hW); go_simp; (try with_reducible rfl); done))); try simp only [Act.put, List.getElem_toArray, List.getElem_cons_zero, List.getElem_cons_succ, List.setIfInBounds_toArray, List.set_cons_zero, List.set_cons_succ]) | (refine wpZ_no _ (by rfl) (by rfl) (by rfl) (by rfl) ?_; try simp only [Act.put, List.getElem_toArray, List.getElem_cons_zero, List.getElem_cons_succ, List.setIfInBounds_toArray, List.set_cons_zero, List.set_cons_succ]) | (refine wpZ_noS _ (by rfl) (by rfl) (by rfl) (by exact ⟨g0, g1⟩) ?_; try simp only [Act.put, List.getElem_toArray, List.getElem_cons_zero, List.getElem_cons_succ, List.setIfInBounds_toArray, List.set_cons_zero, List.set_cons_succ])))
      (refine wpZ_eff _ (by rfl) (by rfl) (by rfl) (by rfl) (fun K hK => ?_); go_simp; refine hK _ _ (fun hl => ?_) ?_; (first | (focus (cases hl; done)) | trivial); clear hK K; try simp only [Act.put, List.getElem_toArray, List.getElem_cons_zero, List.getElem_cons_succ, List.setIfInBounds_toArray, List.set_cons_zero, List.set_cons_succ])
      (simp only [wpZ])
      go_upto_region 4 with (fail)
      refine gen_world HV (fun w8 HV => ?_)
      clear g0 g1 g2 HT f1 HS
      have g2 : w8.cell? ⟨b, 2, none⟩ = some (.int .i64 q) := HV.cell 2
      have f2' := HV.frozen 2
      have HX := HV.st 2 (.int .i64 ((q : Int) - 1))
      have hq1' : 1 ≤ (q : Int) := by omega
      go_wp2
      go_roundw
      case rel =>
        obtain ⟨hm, hl, hcut⟩ := HM.out
        have e1 := rws_set rows' vs' f' [] (none, 0)
        have e2 := sl_set rows' vs' f' [] (none, 0)
        simp only [List.length_nil] at e1 e2
        have h8 := (((HX.mv 2).out HRW.out).drop).nilRow 5 1
        (try dsimp only [Go.Own.front, Go.Own.arrA, Go.Own.atA, Go.Own.dropA, List.length_cons, List.length_nil, Nat.zero_add, Nat.reduceAdd] at h8)
        have h9 := h8.arr [0, 1, 2, 3]
        (try dsimp only [Go.Own.front, Go.Own.arrA, Go.Own.atA, Go.Own.dropA, List.length_cons, List.length_nil, Nat.zero_add, Nat.reduceAdd] at h9)
        have h10 := h9.back (by rw [rws_length hl]; omega)
        have e0 : rowA 5 1 none 0 0 [] = rowA 5 1 none 0 0 (ub []) := rfl
        rw [e0, ← e1, ← e2] at h10
        have h11 := h10.arr [1, 2, 0]
        (try dsimp only [Go.Own.front, Go.Own.arrA, Go.Own.atA, Go.Own.dropA, List.length_cons, List.length_nil, Nat.zero_add, Nat.reduceAdd] at h11)
        refine ⟨i + 1, f2, rows'.set f' [], vs'.set f' (none, 0), by omega, by go_num, hcut, by simpa using hm, by simpa using hl, h11.as ?_⟩
        have hqq := HQ2.out
        simp only [SS.cells, List.set_cons_succ, List.set_cons_zero]
        rw [show ((S.L.drop (i + 1)).length : Int) = (q : Int) - 1 by omega]
      case measure => simp [intOf]; omega
    · obtain rfl : i = k := by omega
      have HM := Lib.hid (And.intro hRg (And.intro hm hl))
      clear hRg hm hl
      go_wp2
      go_end0
      exact ⟨rfl, f', rows', vs', HM.out.1, HM.out.2.1, HM.out.2.2, hr⟩

end Go.Proofs.Ytjnjbmkkfkdhcaa
