/- The walk of MarkerClear. -/
import Derived.Test.YtibmokkalloabaaMkCl
open Go.RowKit Go.Own
namespace Go.Proofs.Ytibmokkalloabaa

def ClrRel (N : Int) (B m : Nat) (fb ob : Option Addr) (R : List Asn) (i : Value) (wr : World) : Prop := ∃ k : Nat, k ≤ m ∧ i = .int .i64 k ∧ Hold wr (rowA 5 1 ob m m (lay (oth N B m) m k) :: rowA 5 1 fb m m (lay (ful N B m) m k) :: R)
def MainRel (N : Int) (B m : Nat) (fb ob al : Option Addr) (q : Nat) (C : Asn) (L : List Asn) (w : World) : Prop := Hold w (rowA 5 1 ob m m (ub (layU (oth N B m) m)) :: rowA 5 1 fb m m (ub (layU (ful N B m) m)) :: rowA 5 1 al m m (ub (rowU B m)) :: cellsA q 24 [.int .u64 B, .int .i64 m] :: C :: L)

theorem rowU_bit (B m k : Nat) (hk : k < m) : (ub (rowU B m))[k]? = some (.int .u8 (bitOf B m k : Int)) := by
  have h1 : bitOf B m k < 2 := by unfold bitOf; omega
  rw [ub, rowU]
  simp only [List.map_map, List.getElem?_map, List.getElem?_range hk, Option.map_some, Function.comp]
  congr 2
  simp; omega

theorem corr_good {B m : Nat} {N : Int} {ys : List UInt8} {k : Nat} (h : chkE B m N = 0) (hk : k + m ≤ ys.length) (ha : allB N ((ys.drop k).take m) = true) : corrE B m N ys k = 0 ∧ corrV B m N ys k = valAt N B m ys k := by
  rcases corr_view B m N ys k with ⟨h1, _⟩ | ⟨h1, _⟩ | ⟨_, _, _, _, m', hm', _, _, h⟩
  · omega
  · omega
  · obtain rfl : m = m' := by omega
    rcases h with ⟨h, _⟩ | ⟨k', hk', hk2, h⟩
    · omega
    · obtain rfl : k = k' := by omega
      rcases h with ⟨h1, h2, h3⟩ | ⟨h1, h2, h3⟩
      · rw [ha] at h1; cases h1
      · exact ⟨h2, h3⟩
theorem corr_bad {B m : Nat} {N : Int} {ys : List UInt8} {k : Nat} (h : chkE B m N = 0) (hk : k + m ≤ ys.length) (ha : allB N ((ys.drop k).take m) = false) : corrE B m N ys k = 91 ∧ corrV B m N ys k = 0 := by
  rcases corr_view B m N ys k with ⟨h1, _⟩ | ⟨h1, _⟩ | ⟨_, _, _, _, m', hm', _, _, h⟩
  · omega
  · omega
  · obtain rfl : m = m' := by omega
    rcases h with ⟨h, _⟩ | ⟨k', hk', hk2, h⟩
    · omega
    · obtain rfl : k = k' := by omega
      rcases h with ⟨h1, h2, h3⟩ | ⟨h1, h2, h3⟩
      · exact ⟨h2, h3⟩
      · rw [ha] at h1; cases h1

set_option maxHeartbeats 4000000 in
set_option maxRecDepth 20000 in
theorem clear_walk (B : Nat) (n N : Int) (hB : B < 18446744073709551616) (ys : List UInt8) (C : Asn) (ao : Option Addr) (M cap : Nat) (hR : Reads C 1 (.slice ao M cap) M (ub ys)) (hM : M ≤ 140737488351232) (w : World) (L : List Asn) (h : Hold w (C :: L)) :
    Calls Try.prog 5 #[.agg #[.int .u64 B, .int .i64 n], .int .i64 N, .slice ao M cap] w fun e w' => e = .returned (.bool true) ∧ Hold w' (C :: L) := by
  obtain ⟨i5, hi, hz0, hz1, hz2⟩ := info_parts info5
  obtain ⟨S0, r0⟩ := h.reads hR
  have hyn : ys.length = M := by simpa using r0.bounds.1
  have hMc : M ≤ cap := r0.bounds.2.1
  clear r0
  have hb := h.box 24 [.int .u64 B, .int .i64 n]
  have PR := fun w L h => right_ok B n N hB w L h
  by_cases hc : chkE B n N = 0
  · rw [right_yes hc] at PR
    obtain ⟨h1, h2, h3, h4, m, rfl, h5, h6⟩ : chkE B n N = 0 ∧ markE B n = 0 ∧ 2 ≤ N ∧ N ≤ 16 ∧ ∃ k : Nat, n = k ∧ 1 ≤ k ∧ k ≤ 64 := by
      rcases chk_view B n N with ⟨h1, _⟩ | ⟨h1, _⟩ | h
      · omega
      · omega
      · exact h
    clear h1
    have hm64 : (m : Int) ≤ 64 := by omega
    have hm1 : 1 ≤ (m : Int) := by omega
    have hMi : (M : Int) ≤ 140737488351232 := by omega
    have P3 := fun w L h => frow_ok B m hB w L h
    have hrn : rn B m = m := by unfold rn; rw [if_pos h2]; simp
    rw [hrn, h2] at P3
    have HZ := Lib.hid (fun f => lay_zero f m)
    have HM := Lib.hid h2
    have HC := Lib.hid hc
    have HY := Lib.hid hyn
    have nn1 : 0 ≤ N - 1 := by omega
    have nn2 : N - 1 ≤ 15 := by omega
    clear hc hyn hrn h2
    go_enter Try.func5, Try.ntmps5
    go_upto_region 1 with (fail)
    refine gen_world hb (fun w1 hb => ?_)
    generalize w.heap.size = q at *
    obtain ⟨g0, g1⟩ := loadM hb
    go_upto_region 3 with (go_at_call 17; refine (PR _ _ hb).mono ?_; rintro e w2 ⟨rfl, h2⟩)
    clear g0 g1
    obtain ⟨g0, g1⟩ := loadM h2
    go_upto_region 4 with (go_at_call 18; refine (P3 _ _ h2).mono ?_; rintro e w3 ⟨al, rfl, h3'⟩)
    clear g0 g1
    obtain ⟨g0, g1⟩ := loadM (h3'.mv 1)
    go_upto_region 7 with (first
      | (go_at_call 13; refine (num_any _ _ _ (Hold.start _)).mono ?_; rintro e w9 ⟨rfl, rfl⟩)
      | ((with_reducible refine wpList_plain (o := ⟨some 41, _, _, _, _, _⟩) rfl (fun K hK => ?_)); refine wp_make_h _ _ 38 (by rfl) 5 i5 (.int .u8 0) 1 1 Try.underlying38 hi hz0 hz1 hz2 .i64 .i64 m m (by rfl) (by rfl) (by omega) (by omega) (by omega) (by omega) h3' (fun fb w4 h4' => ?_); refine hK _ _ ?_; clear hK K))
    simp only [Int.toNat_natCast] at h4'
    rw [HZ.out (ful N B m)] at h4'
    clear g0 g1
    obtain ⟨g0, g1⟩ := loadM (h4'.mv 2)
    go_upto_region 8 with ((with_reducible refine wpList_plain (o := ⟨some 44, _, _, _, _, _⟩) rfl (fun K hK => ?_)); refine wp_make_h _ _ 38 (by rfl) 5 i5 (.int .u8 0) 1 1 Try.underlying38 hi hz0 hz1 hz2 .i64 .i64 m m (by rfl) (by rfl) (by omega) (by omega) (by omega) (by omega) h4' (fun ob w5 h5' => ?_); refine hK _ _ ?_; clear hK K)
    simp only [Int.toNat_natCast] at h5'
    rw [HZ.out (oth N B m)] at h5'
    clear g0 g1 hb h2 h3' h4' P3 PR h
    obtain ⟨k0, k1⟩ := loadM (h5'.mv 3)
    go_wp2
    clear k0 k1
    go_loopw [11] (fun i wr => ClrRel N B m fb ob (rowA 5 1 al m m (ub (rowU B m)) :: cellsA q 24 [.int .u64 B, .int .i64 m] :: C :: L) i wr) (fun i _ => m - (intOf i).toNat)
    case atStart => exact ⟨0, by omega, rfl, h5'⟩
    case round =>
      clear h5'
      obtain ⟨k, hk, rfl, hr⟩ := hrel
      obtain ⟨k0, k1⟩ := loadM (hr.mv 3)
      by_cases hlt : k < m
      · have hki : (k : Int) < m := by omega
        obtain ⟨lb, lo, rfl, hct, -⟩ := (hr.mv 2).at (by omega)
        have c0 : wr.cell? ⟨lb, lo + k, none⟩ = some (.int .u8 (bitOf B m k : Int)) := (hct k (by omega)).trans (rowU_bit B m k hlt)
        obtain ⟨fb1, fo, rfl, hcf, hff⟩ := (hr.mv 1).at (by omega)
        have c1 : wr.cell? ⟨fb1, fo + k, none⟩ = some (.int .u8 0) := by rw [hcf k (by omega), lay_get _ _ _ _ hlt, if_neg (by omega)]
        have f1 := hff (fo + k)
        clear hct hcf hff
        have hbb : bitOf B m k < 2 := by unfold bitOf; omega
        rcases (show bitOf B m k = 0 ∨ bitOf B m k = 1 by omega) with h0 | h0
        · have e0 : bitOf B m k = 0 := by omega
          have e1 : ful N B m k = 0 := by unfold ful; rw [e0]; rfl
          have e2 : oth N B m k = N - 1 := by unfold oth; rw [e0]; rfl
          rw [e0] at c0
          have HX := (hr.mv 1).put k (by omega) (.int .u8 (ful N B m k))
          rw [lay_set, e1] at HX
          have E1 := Lib.hid e1
          have E2 := Lib.hid e2
          clear e0 e1 e2 hbb
          go_upto_region 12 with (fail)
          refine gen_world HX (fun w7 HX => ?_)
          clear c0 c1 f1 k0 k1
          obtain ⟨k0, k1⟩ := loadM (HX.mv 3)
          obtain ⟨ob1, oo, rfl, hco, hfo⟩ := (HX.mv 1).at (by omega)
          have c2 := (hco k (by omega)).trans (lay_get _ _ _ _ hlt)
          rw [if_neg (by omega)] at c2
          obtain ⟨fb2, fo2, he2, hcf2, -⟩ := HX.at (by omega)
          simp only [Option.some.injEq, Addr.mk.injEq, and_true] at he2
          obtain ⟨rfl, rfl⟩ := he2
          have c3 := (hcf2 k (by omega)).trans (lay_get _ _ _ _ hlt)
          rw [if_pos (by omega), E1.out] at c3
          have f2 := hfo (oo + k)
          have HX2 := (HX.mv 1).put k (by omega) (.int .u8 (oth N B m k))
          rw [lay_set, E2.out] at HX2
          clear hco hfo hcf2
          go_wp2
          go_roundw
          case rel => exact ⟨k + 1, by omega, by go_num, HX2⟩
          case measure => simp [intOf]; omega
        · have e0 : bitOf B m k = 1 := by omega
          have e1 : ful N B m k = N - 1 := by unfold ful; rw [e0]; rfl
          have e2 : oth N B m k = 0 := by unfold oth; rw [e0]; rfl
          rw [e0] at c0
          have HX := (hr.mv 1).put k (by omega) (.int .u8 (ful N B m k))
          rw [lay_set, e1] at HX
          have E1 := Lib.hid e1
          have E2 := Lib.hid e2
          clear e0 e1 e2 hbb
          go_upto_region 12 with (fail)
          refine gen_world HX (fun w7 HX => ?_)
          clear c0 c1 f1 k0 k1
          obtain ⟨k0, k1⟩ := loadM (HX.mv 3)
          obtain ⟨ob1, oo, rfl, hco, hfo⟩ := (HX.mv 1).at (by omega)
          have c2 := (hco k (by omega)).trans (lay_get _ _ _ _ hlt)
          rw [if_neg (by omega)] at c2
          obtain ⟨fb2, fo2, he2, hcf2, -⟩ := HX.at (by omega)
          simp only [Option.some.injEq, Addr.mk.injEq, and_true] at he2
          obtain ⟨rfl, rfl⟩ := he2
          have c3 := (hcf2 k (by omega)).trans (lay_get _ _ _ _ hlt)
          rw [if_pos (by omega), E1.out] at c3
          have f2 := hfo (oo + k)
          have HX2 := (HX.mv 1).put k (by omega) (.int .u8 (oth N B m k))
          rw [lay_set, E2.out] at HX2
          clear hco hfo hcf2
          go_wp2
          go_roundw
          case rel => exact ⟨k + 1, by omega, by go_num, HX2⟩
          case measure => simp [intOf]; omega
      · obtain rfl : m = k := by omega
        rw [lay_ub _ _ (fun i _ => ful_bd h3 h4 B m i), lay_ub _ _ (fun i _ => oth_bd h3 h4 B m i)] at hr
        have cf := corr_good (k := 0) HC.out (ys := layU (ful N B m) m) (by simp) (allB_lay _ m (fun i _ => ⟨(ful_bd h3 h4 B m i).1, (ful_bd h3 h4 B m i).2, by unfold ful; split <;> omega⟩))
        have co := corr_good (k := 0) HC.out (ys := layU (oth N B m) m) (by simp) (allB_lay _ m (fun i _ => ⟨(oth_bd h3 h4 B m i).1, (oth_bd h3 h4 B m i).2, by unfold oth; split <;> omega⟩))
        rw [val_full h3 h4] at cf
        rw [val_other h3 h4] at co
        have PF := fun w L h => corr_ok B m N hB (layU (ful N B m) m) (rowA 5 1 fb m m (ub (layU (ful N B m) m))) fb m m (Reads.row 5 1 fb m m _) (by omega) (0 : Nat) w L h
        have PO := fun w L h => corr_ok B m N hB (layU (oth N B m) m) (rowA 5 1 ob m m (ub (layU (oth N B m) m))) ob m m (Reads.row 5 1 ob m m _) (by omega) (0 : Nat) w L h
        rw [cf.1, cf.2] at PF
        rw [co.1, co.2] at PO
        have hm0 : 0 ≤ (m : Int) * (N - 1) := Int.mul_nonneg (by omega) nn1
        have hm9 : (m : Int) * (N - 1) ≤ 64 * 15 := Int.mul_le_mul hm64 nn2 nn1 (by omega)
        have W1 : wrap64 ((m : Int) * (N - 1)) = (m : Int) * (N - 1) := IntWalk.wrap64_in _ (by omega)
        have VF := Lib.hid (fun h ha => val_first h3 h4 B m ys h ha)
        clear cf co hlt
        have P0 := fun w L h => own_ok ys C ao M cap hR hM w L h
        go_upto_region 14 with (fail)
        clear W1
        generalize (m : Int) * (N - 1) = most at *
        go_upto_region 15 with (go_at_call 19; refine (PF _ _ (hr.mv 1)).mono ?_; rintro e w6 ⟨rfl, h7⟩)
        clear k0 k1
        obtain ⟨k0, k1⟩ := loadM (h7.mv 3)
        go_upto_region 16 with (go_at_call 19; refine (PO _ _ (h7.mv 1)).mono ?_; rintro e w8 ⟨rfl, h8⟩)
        clear k0 k1 h7 hr PF PO
        obtain ⟨k0, k1⟩ := loadM (h8.mv 3)
        by_cases hMm : M < m
        · have hMi2 : (M : Int) < m := by omega
          go_wp2_with (first
            | (go_at_call 13; refine (num_any _ _ _ (Hold.start _)).mono ?_; rintro e w9 ⟨rfl, rfl⟩)
            | (go_at_call 14; refine (live_ok _ _ h8).mono ?_; rintro e w3 ⟨rfl, h9⟩))
          go_ret
          exact ⟨rfl, h9.drop.drop.drop.drop⟩
        · have hMi2 : (m : Int) ≤ M := by omega
          go_upto_region 20 with (go_at_call 13; refine (num_any _ _ _ (Hold.start _)).mono ?_; rintro e w9 ⟨rfl, rfl⟩)
          have hS := h8.drew
          (try dsimp only [Go.Own.front, Go.Own.arrA, Go.Own.atA, Go.Own.dropA, List.length_cons, List.length_nil, Nat.zero_add, Nat.reduceAdd] at hS)
          have P1 := fun oa oc w L h => corr_ok B m N hB ys (ownA oa M oc ys) oa M oc (ownA_reads HY.out) (by omega) (0 : Nat) w L h
          have hMy : 0 + m ≤ ys.length := by have := HY.out; omega
          have VF2 := VF.out (by omega)
          have cb := fun h => corr_bad (B := B) (k := 0) HC.out hMy h
          have cg := fun h => corr_good (B := B) (k := 0) HC.out hMy h
          cases hall : allB N ((ys.drop 0).take m) with
          | false =>
            rw [(cb hall).1, (cb hall).2] at P1
            clear VF2 cb cg hall
            obtain ⟨g0, g1⟩ := loadM (hS.arr [3, 0, 1, 2])
            refine wp_region_Z (fun W => W.cell? ⟨q, 0, none⟩ = some (.int .u64 B) ∧ W.cell? ⟨q, 1, none⟩ = some (.int .i64 m)) [0] [4] [1, 2, 5, 6, 7, 8, 9] [0, 1, 2, 3, 4, 5, 6, 7, 8, 9] (by kernel_rfl) (by kernel_rfl) ?_
            (repeat (first | (refine wpZ_st (v := ?_) _ (by rfl) (by rfl) (by rfl) (fun W hW => ?_) ⟨g0, g1⟩ ?_; (rotate_left; (focus ((try dsimp only at hW); go_simp; (try with_reducible rfl); done))); try simp only [Act.put, List.getElem_toArray, List.getElem_cons_zero, List.getElem_cons_succ, List.setIfInBounds_toArray, List.set_cons_zero, List.set_cons_succ]) | (refine wpZ_pu (v := ?_) _ (by rfl) (by rfl) (by rfl) (by rfl) (fun W => ?_) ?_; (rotate_left; (focus ((try dsimp only at hW); go_simp; (try with_reducible rfl); done))); try simp only [Act.put, List.getElem_toArray, List.getElem_cons_zero, List.getElem_cons_succ, List.setIfInBounds_toArray, List.set_cons_zero, List.set_cons_succ]) | (refine wpZ_no _ (by rfl) (by rfl) (by rfl) (by rfl) ?_; try simp only [Act.put, List.getElem_toArray, List.getElem_cons_zero, List.getElem_cons_succ, List.setIfInBounds_toArray, List.set_cons_zero, List.set_cons_succ]) | (refine wpZ_noS _ (by rfl) (by rfl) (by rfl) ⟨g0, g1⟩ ?_; try simp only [Act.put, List.getElem_toArray, List.getElem_cons_zero, List.getElem_cons_succ, List.setIfInBounds_toArray, List.set_cons_zero, List.set_cons_succ])))
            refine wpZ_eff _ (by rfl) (by rfl) (by rfl) (by rfl) (fun K hK => ?_)
            go_simp
            refine (P0 _ _ (hS.arr [4, 0, 1, 2, 3])).mono ?_
            rintro e w5 ⟨oa, oc, rfl, h5⟩
            (try dsimp only [Go.Own.front, Go.Own.arrA, Go.Own.atA, Go.Own.dropA, List.length_cons, List.length_nil, Nat.zero_add, Nat.reduceAdd] at h5)
            dsimp only
            (refine hK _ _ (fun hl => ?_) ?_; (first | (focus (cases hl; done)) | exact (loadM (h5.arr [5, 0, 1, 2, 3, 4]))); clear hK K; try simp only [Act.put, List.getElem_toArray, List.getElem_cons_zero, List.getElem_cons_succ, List.setIfInBounds_toArray, List.set_cons_zero, List.set_cons_succ])
            (repeat (first | (refine wpZ_st (v := ?_) _ (by rfl) (by rfl) (by rfl) (fun W hW => ?_) (loadM (h5.arr [5, 0, 1, 2, 3, 4])) ?_; (rotate_left; (focus ((try dsimp only at hW); go_simp; (try with_reducible rfl); done))); try simp only [Act.put, List.getElem_toArray, List.getElem_cons_zero, List.getElem_cons_succ, List.setIfInBounds_toArray, List.set_cons_zero, List.set_cons_succ]) | (refine wpZ_pu (v := ?_) _ (by rfl) (by rfl) (by rfl) (by rfl) (fun W => ?_) ?_; (rotate_left; (focus ((try dsimp only at hW); go_simp; (try with_reducible rfl); done))); try simp only [Act.put, List.getElem_toArray, List.getElem_cons_zero, List.getElem_cons_succ, List.setIfInBounds_toArray, List.set_cons_zero, List.set_cons_succ]) | (refine wpZ_no _ (by rfl) (by rfl) (by rfl) (by rfl) ?_; try simp only [Act.put, List.getElem_toArray, List.getElem_cons_zero, List.getElem_cons_succ, List.setIfInBounds_toArray, List.set_cons_zero, List.set_cons_succ]) | (refine wpZ_noS _ (by rfl) (by rfl) (by rfl) (loadM (h5.arr [5, 0, 1, 2, 3, 4])) ?_; try simp only [Act.put, List.getElem_toArray, List.getElem_cons_zero, List.getElem_cons_succ, List.setIfInBounds_toArray, List.set_cons_zero, List.set_cons_succ])))
            refine wpZ_eff _ (by rfl) (by rfl) (by rfl) (by rfl) (fun K hK => ?_)
            go_simp
            refine (P1 oa oc _ _ h5).mono ?_
            rintro e w6 ⟨rfl, h6⟩
            dsimp only
            (refine hK _ _ (fun hl => ?_) ?_; (first | (focus (cases hl; done)) | exact (loadM (h6.arr [5, 0, 1, 2, 3, 4]))); clear hK K; try simp only [Act.put, List.getElem_toArray, List.getElem_cons_zero, List.getElem_cons_succ, List.setIfInBounds_toArray, List.set_cons_zero, List.set_cons_succ])
            (repeat (first | (refine wpZ_st (v := ?_) _ (by rfl) (by rfl) (by rfl) (fun W hW => ?_) (loadM (h6.arr [5, 0, 1, 2, 3, 4])) ?_; (rotate_left; (focus ((try dsimp only at hW); go_simp; (try with_reducible rfl); done))); try simp only [Act.put, List.getElem_toArray, List.getElem_cons_zero, List.getElem_cons_succ, List.setIfInBounds_toArray, List.set_cons_zero, List.set_cons_succ]) | (refine wpZ_pu (v := ?_) _ (by rfl) (by rfl) (by rfl) (by rfl) (fun W => ?_) ?_; (rotate_left; (focus ((try dsimp only at hW); go_simp; (try with_reducible rfl); done))); try simp only [Act.put, List.getElem_toArray, List.getElem_cons_zero, List.getElem_cons_succ, List.setIfInBounds_toArray, List.set_cons_zero, List.set_cons_succ]) | (refine wpZ_no _ (by rfl) (by rfl) (by rfl) (by rfl) ?_; try simp only [Act.put, List.getElem_toArray, List.getElem_cons_zero, List.getElem_cons_succ, List.setIfInBounds_toArray, List.set_cons_zero, List.set_cons_succ]) | (refine wpZ_noS _ (by rfl) (by rfl) (by rfl) (loadM (h6.arr [5, 0, 1, 2, 3, 4])) ?_; try simp only [Act.put, List.getElem_toArray, List.getElem_cons_zero, List.getElem_cons_succ, List.setIfInBounds_toArray, List.set_cons_zero, List.set_cons_succ])))
            (simp only [wpZ])
            clear g0 g1 h5 hS h8
            go_wp2_with (first
              | (go_at_call 13; refine (num_any _ _ _ (Hold.start _)).mono ?_; rintro e w9 ⟨rfl, rfl⟩)
              | (go_at_call 14; refine (live_ok _ _ h6).mono ?_; rintro e w3 ⟨rfl, h9⟩))
            go_ret
            exact ⟨rfl, (h9.arr [0, 2, 3, 4, 5, 1]).drop.drop.drop.drop.drop⟩
          | true =>
            obtain ⟨v1, v2, v3⟩ := VF2 hall
            rw [(cg hall).1, (cg hall).2] at P1
            generalize valAt N B m ys 0 = va at *
            clear VF2 cb cg hall
            obtain ⟨g0, g1⟩ := loadM (hS.arr [3, 0, 1, 2])
            refine wp_region_Z (fun W => W.cell? ⟨q, 0, none⟩ = some (.int .u64 B) ∧ W.cell? ⟨q, 1, none⟩ = some (.int .i64 m)) [0] [4] [1, 2, 5, 6, 7, 8, 9] [0, 1, 2, 3, 4, 5, 6, 7, 8, 9] (by kernel_rfl) (by kernel_rfl) ?_
            (repeat (first | (refine wpZ_st (v := ?_) _ (by rfl) (by rfl) (by rfl) (fun W hW => ?_) ⟨g0, g1⟩ ?_; (rotate_left; (focus ((try dsimp only at hW); go_simp; (try with_reducible rfl); done))); try simp only [Act.put, List.getElem_toArray, List.getElem_cons_zero, List.getElem_cons_succ, List.setIfInBounds_toArray, List.set_cons_zero, List.set_cons_succ]) | (refine wpZ_pu (v := ?_) _ (by rfl) (by rfl) (by rfl) (by rfl) (fun W => ?_) ?_; (rotate_left; (focus ((try dsimp only at hW); go_simp; (try with_reducible rfl); done))); try simp only [Act.put, List.getElem_toArray, List.getElem_cons_zero, List.getElem_cons_succ, List.setIfInBounds_toArray, List.set_cons_zero, List.set_cons_succ]) | (refine wpZ_no _ (by rfl) (by rfl) (by rfl) (by rfl) ?_; try simp only [Act.put, List.getElem_toArray, List.getElem_cons_zero, List.getElem_cons_succ, List.setIfInBounds_toArray, List.set_cons_zero, List.set_cons_succ]) | (refine wpZ_noS _ (by rfl) (by rfl) (by rfl) ⟨g0, g1⟩ ?_; try simp only [Act.put, List.getElem_toArray, List.getElem_cons_zero, List.getElem_cons_succ, List.setIfInBounds_toArray, List.set_cons_zero, List.set_cons_succ])))
            refine wpZ_eff _ (by rfl) (by rfl) (by rfl) (by rfl) (fun K hK => ?_)
            go_simp
            refine (P0 _ _ (hS.arr [4, 0, 1, 2, 3])).mono ?_
            rintro e w5 ⟨oa, oc, rfl, h5⟩
            (try dsimp only [Go.Own.front, Go.Own.arrA, Go.Own.atA, Go.Own.dropA, List.length_cons, List.length_nil, Nat.zero_add, Nat.reduceAdd] at h5)
            dsimp only
            (refine hK _ _ (fun hl => ?_) ?_; (first | (focus (cases hl; done)) | exact (loadM (h5.arr [5, 0, 1, 2, 3, 4]))); clear hK K; try simp only [Act.put, List.getElem_toArray, List.getElem_cons_zero, List.getElem_cons_succ, List.setIfInBounds_toArray, List.set_cons_zero, List.set_cons_succ])
            (repeat (first | (refine wpZ_st (v := ?_) _ (by rfl) (by rfl) (by rfl) (fun W hW => ?_) (loadM (h5.arr [5, 0, 1, 2, 3, 4])) ?_; (rotate_left; (focus ((try dsimp only at hW); go_simp; (try with_reducible rfl); done))); try simp only [Act.put, List.getElem_toArray, List.getElem_cons_zero, List.getElem_cons_succ, List.setIfInBounds_toArray, List.set_cons_zero, List.set_cons_succ]) | (refine wpZ_pu (v := ?_) _ (by rfl) (by rfl) (by rfl) (by rfl) (fun W => ?_) ?_; (rotate_left; (focus ((try dsimp only at hW); go_simp; (try with_reducible rfl); done))); try simp only [Act.put, List.getElem_toArray, List.getElem_cons_zero, List.getElem_cons_succ, List.setIfInBounds_toArray, List.set_cons_zero, List.set_cons_succ]) | (refine wpZ_no _ (by rfl) (by rfl) (by rfl) (by rfl) ?_; try simp only [Act.put, List.getElem_toArray, List.getElem_cons_zero, List.getElem_cons_succ, List.setIfInBounds_toArray, List.set_cons_zero, List.set_cons_succ]) | (refine wpZ_noS _ (by rfl) (by rfl) (by rfl) (loadM (h5.arr [5, 0, 1, 2, 3, 4])) ?_; try simp only [Act.put, List.getElem_toArray, List.getElem_cons_zero, List.getElem_cons_succ, List.setIfInBounds_toArray, List.set_cons_zero, List.set_cons_succ])))
            refine wpZ_eff _ (by rfl) (by rfl) (by rfl) (by rfl) (fun K hK => ?_)
            go_simp
            refine (P1 oa oc _ _ h5).mono ?_
            rintro e w6 ⟨rfl, h6⟩
            dsimp only
            (refine hK _ _ (fun hl => ?_) ?_; (first | (focus (cases hl; done)) | exact (loadM (h6.arr [5, 0, 1, 2, 3, 4]))); clear hK K; try simp only [Act.put, List.getElem_toArray, List.getElem_cons_zero, List.getElem_cons_succ, List.setIfInBounds_toArray, List.set_cons_zero, List.set_cons_succ])
            (repeat (first | (refine wpZ_st (v := ?_) _ (by rfl) (by rfl) (by rfl) (fun W hW => ?_) (loadM (h6.arr [5, 0, 1, 2, 3, 4])) ?_; (rotate_left; (focus ((try dsimp only at hW); go_simp; (try with_reducible rfl); done))); try simp only [Act.put, List.getElem_toArray, List.getElem_cons_zero, List.getElem_cons_succ, List.setIfInBounds_toArray, List.set_cons_zero, List.set_cons_succ]) | (refine wpZ_pu (v := ?_) _ (by rfl) (by rfl) (by rfl) (by rfl) (fun W => ?_) ?_; (rotate_left; (focus ((try dsimp only at hW); go_simp; (try with_reducible rfl); done))); try simp only [Act.put, List.getElem_toArray, List.getElem_cons_zero, List.getElem_cons_succ, List.setIfInBounds_toArray, List.set_cons_zero, List.set_cons_succ]) | (refine wpZ_no _ (by rfl) (by rfl) (by rfl) (by rfl) ?_; try simp only [Act.put, List.getElem_toArray, List.getElem_cons_zero, List.getElem_cons_succ, List.setIfInBounds_toArray, List.set_cons_zero, List.set_cons_succ]) | (refine wpZ_noS _ (by rfl) (by rfl) (by rfl) (loadM (h6.arr [5, 0, 1, 2, 3, 4])) ?_; try simp only [Act.put, List.getElem_toArray, List.getElem_cons_zero, List.getElem_cons_succ, List.setIfInBounds_toArray, List.set_cons_zero, List.set_cons_succ])))
            (simp only [wpZ])
            clear g0 g1 h5 hS h8
            obtain ⟨g0, g1⟩ := loadM (h6.arr [5, 0, 1, 2, 3, 4])
            have hmc : m ≤ cap := by omega
            have rw1 : ∃ S, Rd w6 1 (.slice ao m cap) m (ub (ys.take m)) S := by
              obtain ⟨S, hS⟩ := (h6.arr [1, 0]).reads hR
              exact ⟨S, rd_take hS m (by omega)⟩
            have PS := same_any (ys.take m) (layU (ful N B m) m) ao fb m cap m m w6 rw1 (h6.arr [3, 0, 1, 2]).rd
            rw [← v3] at PS
            have hd : (va == most) = decide (va = most) := by rw [Bool.eq_iff_iff]; simp
            generalize decide (va = most) = t at *
            have HV3 := Lib.hid v3
            clear v3 rw1
            go_wp2_with (first
              | (go_at_call 13; refine (num_any _ _ _ (Hold.start _)).mono ?_; rintro e w9 ⟨rfl, rfl⟩)
              | (go_at_call 21; refine PS.mono ?_; rintro e w9 ⟨rfl, rfl⟩)
              | (go_at_call 14; refine (live_ok _ _ h6).mono ?_; rintro e w3 ⟨rfl, h9⟩))
            go_ret
            exact ⟨rfl, (h9.arr [0, 2, 3, 4, 5, 1]).drop.drop.drop.drop.drop⟩
  · rw [right_no hc] at PR
    clear hc hyn
    go_enter Try.func5, Try.ntmps5
    go_upto_region 1 with (fail)
    refine gen_world hb (fun w1 hb => ?_)
    generalize w.heap.size = q at *
    obtain ⟨g0, g1⟩ := loadM hb
    go_wp2_with (first
      | (go_at_call 17; refine (PR _ _ hb).mono ?_; rintro e w2 ⟨rfl, h2⟩)
      | (go_at_call 14; refine (live_ok _ _ h2).mono ?_; rintro e w3 ⟨rfl, h3⟩))
    go_ret
    exact ⟨rfl, h3.drop⟩

end Go.Proofs.Ytibmokkalloabaa
