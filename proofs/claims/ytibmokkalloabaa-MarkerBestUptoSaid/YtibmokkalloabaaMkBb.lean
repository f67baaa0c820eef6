/- The walk of MarkerBest. -/
import Derived.Test.YtibmokkalloabaaMkBa
open Go.RowKit Go.Own
namespace Go.Proofs.Ytibmokkalloabaa

def BsjRel (fr tu : Int) (R : List Asn) (i : Value) (wr : World) : Prop := ∃ k : Nat, fr + k ≤ tu + 1 ∧ i = .int .i64 (fr + k) ∧ Hold wr R

set_option maxHeartbeats 8000000 in
set_option maxRecDepth 20000 in
theorem bestl_walk (B : Nat) (n N : Int) (hB : B < 18446744073709551616) (ys : List UInt8) (C : Asn) (ao : Option Addr) (M cap : Nat) (hR : Reads C 1 (.slice ao M cap) M (ub ys)) (hM : M ≤ 1048576) (fr tu th mo : Int) (hth : -9223372036854775808 ≤ th ∧ th ≤ 9223372036854775807) (hmo : -9223372036854775808 ≤ mo ∧ mo ≤ 9223372036854775807) (w : World) (L : List Asn) (h : Hold w (C :: L)) :
    Calls Try.prog 9 #[.agg (lookX B n N (.slice ao M cap) fr tu th).toArray, .int .i64 mo] w fun e w' => e = .returned (.bool true) ∧ Hold w' (C :: L) := by
  obtain ⟨S0, r0⟩ := h.reads hR
  have hyn : ys.length = M := by simpa using r0.bounds.1
  clear r0
  have hb := h.box 47 (lookX B n N (.slice ao M cap) fr tu th)
  have PR := fun w L h => right_ok B n N hB w L h
  by_cases hc : chkE B n N = 0
  · rw [right_yes hc] at PR
    obtain ⟨h1, h2, h3, h4, m, rfl, h5, h6⟩ : chkE B n N = 0 ∧ markE B n = 0 ∧ 2 ≤ N ∧ N ≤ 16 ∧ ∃ k : Nat, n = k ∧ 1 ≤ k ∧ k ≤ 64 := by
      rcases chk_view B n N with ⟨h1, _⟩ | ⟨h1, _⟩ | h
      · omega
      · omega
      · exact h
    clear h1 h2
    have hm64 : (m : Int) ≤ 64 := by omega
    have hm1 : 1 ≤ (m : Int) := by omega
    have hMi : (M : Int) ≤ 1048576 := by omega
    by_cases hg : 0 ≤ mo ∧ th + mo ≤ 9223372036854775807
    · obtain ⟨m0, m9⟩ := hg
      have ht2 : th ≤ th + mo := by omega
      have W1 : IntKind.i64.wrap (th + mo) = th + mo := IntWalk.i64_in _ (by omega)
      have P0 := fun w L h => own_ok ys C ao M cap hR (by omega) w L h
      have PB := fun oa oc w L h => fbest_ok B m N hB ys (ownA oa M oc ys) oa M oc (ownA_reads hyn) (by omega) fr tu w L h
      have PF := fun oa oc w L h => find_ok B m N hB ys (ownA oa M oc ys) oa M oc (ownA_reads hyn) (by omega) th w L h
      have PG := fun oa oc w L h => find_ok B m N hB ys (ownA oa M oc ys) oa M oc (ownA_reads hyn) (by omega) (th + mo) w L h
      have PC := fun p oa oc w L h => corr_ok B m N hB ys (ownA oa M oc ys) oa M oc (ownA_reads hyn) (by omega) p w L h
      have HP := Lib.hid PC
      have HC := Lib.hid hc
      have HY := Lib.hid hyn
      obtain ⟨be, hbe⟩ : ∃ be, be = bestE B m N ys fr tu := ⟨_, rfl⟩
      obtain ⟨br, hbr⟩ : ∃ br, br = bestR B m N ys fr tu := ⟨_, rfl⟩
      rw [← hbe, ← hbr] at PB
      have HE := Lib.hid hbe
      have HR := Lib.hid hbr
      clear PC hc hyn hbe hbr
      go_enter Try.func9, Try.ntmps9
      go_upto_region 1 with (fail)
      refine gen_world hb (fun w1 hb => ?_)
      generalize w.heap.size = q at *
      obtain ⟨g0, g1, g2, g3, g4, g5, g6⟩ := lookM hb
      go_upto_region 3 with (go_at_call 17; refine (PR _ _ hb).mono ?_; rintro e w2 ⟨rfl, h2⟩; obtain ⟨g0, g1, g2, g3, g4, g5, g6⟩ := lookM h2)
      have hS := h2.drew
      clear g0 g1 g2 g3 g4 g5 g6 hb h2 PR
      refine wp_region_Z (fun W => W.cell? ⟨q, 0, none⟩ = some (.int .u64 B) ∧ W.cell? ⟨q, 1, none⟩ = some (.int .i64 m) ∧ W.cell? ⟨q, 2, none⟩ = some (.int .i64 N) ∧ W.cell? ⟨q, 3, none⟩ = some (.slice ao M cap) ∧ W.cell? ⟨q, 4, none⟩ = some (.int .i64 fr) ∧ W.cell? ⟨q, 5, none⟩ = some (.int .i64 tu) ∧ W.cell? ⟨q, 6, none⟩ = some (.int .i64 th)) [1, 3, 5, 8, 10] [] [0, 2, 4, 7, 9, 12, 13, 14, 15, 16, 17, 18] [0, 1, 2, 3, 4, 5, 7, 8, 9, 10, 6, 11, 12, 13, 14, 15, 16, 17, 18] (by kernel_rfl) (by kernel_rfl) ?_
      (repeat (first | (refine wpZ_st (v := ?_) _ (by rfl) (by rfl) (by rfl) (fun W hW => ?_) (lookM hS) ?_; (rotate_left; (focus ((try dsimp only at hW); go_simp; (try with_reducible rfl); done))); try simp only [Act.put, List.getElem_toArray, List.getElem_cons_zero, List.getElem_cons_succ, List.setIfInBounds_toArray, List.set_cons_zero, List.set_cons_succ]) | (refine wpZ_pu (v := ?_) _ (by rfl) (by rfl) (by rfl) (by rfl) (fun W => ?_) ?_; (rotate_left; (focus ((try dsimp only at hW); go_simp; (try with_reducible rfl); done))); try simp only [Act.put, List.getElem_toArray, List.getElem_cons_zero, List.getElem_cons_succ, List.setIfInBounds_toArray, List.set_cons_zero, List.set_cons_succ]) | (refine wpZ_no _ (by rfl) (by rfl) (by rfl) (by rfl) ?_; try simp only [Act.put, List.getElem_toArray, List.getElem_cons_zero, List.getElem_cons_succ, List.setIfInBounds_toArray, List.set_cons_zero, List.set_cons_succ]) | (refine wpZ_noS _ (by rfl) (by rfl) (by rfl) (lookM hS) ?_; try simp only [Act.put, List.getElem_toArray, List.getElem_cons_zero, List.getElem_cons_succ, List.setIfInBounds_toArray, List.set_cons_zero, List.set_cons_succ])))
      refine wpZ_eff _ (by rfl) (by rfl) (by rfl) (by rfl) (fun K hK => ?_)
      go_simp
      refine (P0 _ _ (hS.arr [1, 0])).mono ?_
      rintro e w4 ⟨oa, oc, rfl, h4⟩
      (try dsimp only [Go.Own.front, Go.Own.arrA, Go.Own.atA, Go.Own.dropA, List.length_cons, List.length_nil, Nat.zero_add, Nat.reduceAdd] at h4)
      dsimp only
      (refine hK _ _ (fun hl => ?_) ?_; (first | (focus (cases hl; done)) | exact (lookM (h4.arr [2, 0, 1]))); clear hK K; try simp only [Act.put, List.getElem_toArray, List.getElem_cons_zero, List.getElem_cons_succ, List.setIfInBounds_toArray, List.set_cons_zero, List.set_cons_succ])
      (repeat (first | (refine wpZ_st (v := ?_) _ (by rfl) (by rfl) (by rfl) (fun W hW => ?_) (lookM (h4.arr [2, 0, 1])) ?_; (rotate_left; (focus ((try dsimp only at hW); go_simp; (try with_reducible rfl); done))); try simp only [Act.put, List.getElem_toArray, List.getElem_cons_zero, List.getElem_cons_succ, List.setIfInBounds_toArray, List.set_cons_zero, List.set_cons_succ]) | (refine wpZ_pu (v := ?_) _ (by rfl) (by rfl) (by rfl) (by rfl) (fun W => ?_) ?_; (rotate_left; (focus ((try dsimp only at hW); go_simp; (try with_reducible rfl); done))); try simp only [Act.put, List.getElem_toArray, List.getElem_cons_zero, List.getElem_cons_succ, List.setIfInBounds_toArray, List.set_cons_zero, List.set_cons_succ]) | (refine wpZ_no _ (by rfl) (by rfl) (by rfl) (by rfl) ?_; try simp only [Act.put, List.getElem_toArray, List.getElem_cons_zero, List.getElem_cons_succ, List.setIfInBounds_toArray, List.set_cons_zero, List.set_cons_succ]) | (refine wpZ_noS _ (by rfl) (by rfl) (by rfl) (lookM (h4.arr [2, 0, 1])) ?_; try simp only [Act.put, List.getElem_toArray, List.getElem_cons_zero, List.getElem_cons_succ, List.setIfInBounds_toArray, List.set_cons_zero, List.set_cons_succ])))
      refine wpZ_eff _ (by rfl) (by rfl) (by rfl) (by rfl) (fun K hK => ?_)
      go_simp
      refine (PB oa oc _ _ h4).mono ?_
      rintro e w5 ⟨rfl, h5⟩
      dsimp only
      (refine hK _ _ (fun hl => ?_) ?_; (first | (focus (cases hl; done)) | exact (lookM (h5.arr [2, 0, 1]))); clear hK K; try simp only [Act.put, List.getElem_toArray, List.getElem_cons_zero, List.getElem_cons_succ, List.setIfInBounds_toArray, List.set_cons_zero, List.set_cons_succ])
      (repeat (first | (refine wpZ_st (v := ?_) _ (by rfl) (by rfl) (by rfl) (fun W hW => ?_) (lookM (h5.arr [2, 0, 1])) ?_; (rotate_left; (focus ((try dsimp only at hW); go_simp; (try with_reducible rfl); done))); try simp only [Act.put, List.getElem_toArray, List.getElem_cons_zero, List.getElem_cons_succ, List.setIfInBounds_toArray, List.set_cons_zero, List.set_cons_succ]) | (refine wpZ_pu (v := ?_) _ (by rfl) (by rfl) (by rfl) (by rfl) (fun W => ?_) ?_; (rotate_left; (focus ((try dsimp only at hW); go_simp; (try with_reducible rfl); done))); try simp only [Act.put, List.getElem_toArray, List.getElem_cons_zero, List.getElem_cons_succ, List.setIfInBounds_toArray, List.set_cons_zero, List.set_cons_succ]) | (refine wpZ_no _ (by rfl) (by rfl) (by rfl) (by rfl) ?_; try simp only [Act.put, List.getElem_toArray, List.getElem_cons_zero, List.getElem_cons_succ, List.setIfInBounds_toArray, List.set_cons_zero, List.set_cons_succ]) | (refine wpZ_noS _ (by rfl) (by rfl) (by rfl) (lookM (h5.arr [2, 0, 1])) ?_; try simp only [Act.put, List.getElem_toArray, List.getElem_cons_zero, List.getElem_cons_succ, List.setIfInBounds_toArray, List.set_cons_zero, List.set_cons_succ])))
      (simp only [wpZ])
      have hx := (h5.arr [2, 1, 0]).arr [0, 1]
      (try dsimp only [Go.Own.front, Go.Own.arrA, Go.Own.atA, Go.Own.dropA, List.length_cons, List.length_nil, Nat.zero_add, Nat.reduceAdd] at hx)
      have hx := (h5.arr [0, 2, 1]).drop
      (try dsimp only [Go.Own.front, Go.Own.arrA, Go.Own.atA, Go.Own.dropA, List.length_cons, List.length_nil, Nat.zero_add, Nat.reduceAdd] at hx)
      clear hS h4 h5 PB
      obtain ⟨g0, g1, g2, g3, g4, g5, g6⟩ := lookM hx
      go_upto_if 58 with (go_at_call 13; refine (num_any _ _ _ (Hold.start _)).mono ?_; rintro e w9 ⟨rfl, rfl⟩)
      go_cut [8] (fun v wc => Hold wc (cellsA q 47 (lookX B m N (.slice ao M cap) fr tu th) :: C :: L))
      case first =>
        have hcase : be ≠ 0 ∨ (be = 0 ∧ fr ≤ (br.1 : Int) ∧ (br.1 : Int) ≤ tu ∧ 0 ≤ fr ∧ fr ≤ tu ∧ tu ≤ 1048576 ∧ ∀ k : Nat, fr + k ≤ tu → corrE B m N ys (fr + k) = 0 ∧ corrV B m N ys (fr + k) ≤ br.2 ∧ (fr + k < (br.1 : Int) → corrV B m N ys (fr + k) < br.2) ∧ (fr + k = (br.1 : Int) → corrV B m N ys (fr + k) = br.2)) := by
          rcases best_view B m N ys fr tu with ⟨_, _, e1, _⟩ | ⟨_, _, _, e1, _⟩ | ⟨_, _, _, _, m', hm', _, _, hv⟩
          · exact .inl (by rw [HE.out, e1]; omega)
          · exact .inl (by rw [HE.out, e1]; omega)
          · obtain rfl : m = m' := by omega
            rcases hv with ⟨_, e1, _⟩ | ⟨lo, hi, rfl, rfl, hlh, hhi, hv⟩
            · exact .inl (by rw [HE.out, e1]; omega)
            · rcases hv with ⟨_, e1, _⟩ | ⟨ha, e1, e2⟩
              · exact .inl (by rw [HE.out, e1]; omega)
              · refine .inr ⟨by rw [HE.out, e1], ?_⟩
                have eb : br = best lo (fun j => valAt N B m ys (lo + j)) (hi - lo + 1) := by rw [HR.out, e2]
                have bv := best_val lo (fun j => valAt N B m ys (lo + j)) (hi - lo)
                have bm := best_max lo (fun j => valAt N B m ys (lo + j)) (hi - lo + 1)
                rw [← eb] at bv bm
                have hyM := HY.out
                refine ⟨by omega, by omega, by omega, by omega, by omega, fun k hk => ?_⟩
                have cg := corr_good (B := B) (k := lo + k) HC.out (ys := ys) (by omega) (allB_sub ha (by omega) (by omega))
                rw [show (lo : Int) + k = ((lo + k : Nat) : Int) by omega, cg.1, cg.2]
                have b1 := bm k (by omega)
                refine ⟨rfl, b1.1, fun h => b1.2 (by omega), fun h => ?_⟩
                rw [bv.1]
                first | (congr 1; omega) | (have e : k = br.1 - lo := by omega; rw [e])
        rcases hcase with hbe | ⟨hbe, a1, a2, a3, a4, a5, hall⟩
        · have hbe2 : ((be : Int) == 0) = false := by rw [beq_eq_false_iff_ne]; omega
          clear hbe
          go_wp2
          go_meet
          exact hx
        · have HA := Lib.hid hall
          clear hall
          obtain ⟨bp, bv⟩ := br
          simp only at a1 a2 HA
          have hbe2 : ((be : Int) == 0) = true := by rw [hbe]; rfl
          clear hbe
          go_wp2
          clear g0 g1 g2 g3 g4 g5 g6
          go_loopw [8] (fun i wr => BsjRel fr tu (cellsA q 47 (lookX B m N (.slice ao M cap) fr tu th) :: C :: L) i wr) (fun i _ => (tu + 1 - intOf i).toNat)
          case atStart => exact ⟨0, by omega, by go_num, hx⟩
          case round =>
            clear hx
            obtain ⟨k, hk, rfl, hr⟩ := hrel
            obtain ⟨g0, g1, g2, g3, g4, g5, g6⟩ := lookM hr
            by_cases hlt : fr + k ≤ tu
            · obtain ⟨c1, c2, c3, c4⟩ := HA.out k hlt
              have PK := HP.out (fr + k)
              rw [c1] at PK
              clear c1
              have hS := hr.drew
              generalize corrV B m N ys (fr + k) = cv at *
              go_upto_region 10 with (fail)
              clear g0 g1 g2 g3 g4 g5 g6
              refine wp_region_Z (fun W => W.cell? ⟨q, 0, none⟩ = some (.int .u64 B) ∧ W.cell? ⟨q, 1, none⟩ = some (.int .i64 m) ∧ W.cell? ⟨q, 2, none⟩ = some (.int .i64 N) ∧ W.cell? ⟨q, 3, none⟩ = some (.slice ao M cap) ∧ W.cell? ⟨q, 4, none⟩ = some (.int .i64 fr) ∧ W.cell? ⟨q, 5, none⟩ = some (.int .i64 tu) ∧ W.cell? ⟨q, 6, none⟩ = some (.int .i64 th)) [1, 3, 5] [] [0, 2, 4, 7, 9, 10, 11, 12, 13] [0, 1, 2, 3, 4, 5, 7, 6, 8, 9, 10, 11, 12, 13] (by kernel_rfl) (by kernel_rfl) ?_
              (repeat (first | (refine wpZ_st (v := ?_) _ (by rfl) (by rfl) (by rfl) (fun W hW => ?_) (lookM hS) ?_; (rotate_left; (focus ((try dsimp only at hW); go_simp; (try with_reducible rfl); done))); try simp only [Act.put, List.getElem_toArray, List.getElem_cons_zero, List.getElem_cons_succ, List.setIfInBounds_toArray, List.set_cons_zero, List.set_cons_succ]) | (refine wpZ_pu (v := ?_) _ (by rfl) (by rfl) (by rfl) (by rfl) (fun W => ?_) ?_; (rotate_left; (focus ((try dsimp only at hW); go_simp; (try with_reducible rfl); done))); try simp only [Act.put, List.getElem_toArray, List.getElem_cons_zero, List.getElem_cons_succ, List.setIfInBounds_toArray, List.set_cons_zero, List.set_cons_succ]) | (refine wpZ_no _ (by rfl) (by rfl) (by rfl) (by rfl) ?_; try simp only [Act.put, List.getElem_toArray, List.getElem_cons_zero, List.getElem_cons_succ, List.setIfInBounds_toArray, List.set_cons_zero, List.set_cons_succ]) | (refine wpZ_noS _ (by rfl) (by rfl) (by rfl) (lookM hS) ?_; try simp only [Act.put, List.getElem_toArray, List.getElem_cons_zero, List.getElem_cons_succ, List.setIfInBounds_toArray, List.set_cons_zero, List.set_cons_succ])))
              refine wpZ_eff _ (by rfl) (by rfl) (by rfl) (by rfl) (fun K hK => ?_)
              go_simp
              refine (P0 _ _ (hS.arr [1, 0])).mono ?_
              rintro e w4 ⟨oa, oc, rfl, h4⟩
              (try dsimp only [Go.Own.front, Go.Own.arrA, Go.Own.atA, Go.Own.dropA, List.length_cons, List.length_nil, Nat.zero_add, Nat.reduceAdd] at h4)
              dsimp only
              (refine hK _ _ (fun hl => ?_) ?_; (first | (focus (cases hl; done)) | exact (lookM (h4.arr [2, 0, 1]))); clear hK K; try simp only [Act.put, List.getElem_toArray, List.getElem_cons_zero, List.getElem_cons_succ, List.setIfInBounds_toArray, List.set_cons_zero, List.set_cons_succ])
              (repeat (first | (refine wpZ_st (v := ?_) _ (by rfl) (by rfl) (by rfl) (fun W hW => ?_) (lookM (h4.arr [2, 0, 1])) ?_; (rotate_left; (focus ((try dsimp only at hW); go_simp; (try with_reducible rfl); done))); try simp only [Act.put, List.getElem_toArray, List.getElem_cons_zero, List.getElem_cons_succ, List.setIfInBounds_toArray, List.set_cons_zero, List.set_cons_succ]) | (refine wpZ_pu (v := ?_) _ (by rfl) (by rfl) (by rfl) (by rfl) (fun W => ?_) ?_; (rotate_left; (focus ((try dsimp only at hW); go_simp; (try with_reducible rfl); done))); try simp only [Act.put, List.getElem_toArray, List.getElem_cons_zero, List.getElem_cons_succ, List.setIfInBounds_toArray, List.set_cons_zero, List.set_cons_succ]) | (refine wpZ_no _ (by rfl) (by rfl) (by rfl) (by rfl) ?_; try simp only [Act.put, List.getElem_toArray, List.getElem_cons_zero, List.getElem_cons_succ, List.setIfInBounds_toArray, List.set_cons_zero, List.set_cons_succ]) | (refine wpZ_noS _ (by rfl) (by rfl) (by rfl) (lookM (h4.arr [2, 0, 1])) ?_; try simp only [Act.put, List.getElem_toArray, List.getElem_cons_zero, List.getElem_cons_succ, List.setIfInBounds_toArray, List.set_cons_zero, List.set_cons_succ])))
              refine wpZ_eff _ (by rfl) (by rfl) (by rfl) (by rfl) (fun K hK => ?_)
              go_simp
              refine (PK oa oc _ _ h4).mono ?_
              rintro e w5 ⟨rfl, h5⟩
              dsimp only
              (refine hK _ _ (fun hl => ?_) ?_; (first | (focus (cases hl; done)) | exact (lookM (h5.arr [2, 0, 1]))); clear hK K; try simp only [Act.put, List.getElem_toArray, List.getElem_cons_zero, List.getElem_cons_succ, List.setIfInBounds_toArray, List.set_cons_zero, List.set_cons_succ])
              (repeat (first | (refine wpZ_st (v := ?_) _ (by rfl) (by rfl) (by rfl) (fun W hW => ?_) (lookM (h5.arr [2, 0, 1])) ?_; (rotate_left; (focus ((try dsimp only at hW); go_simp; (try with_reducible rfl); done))); try simp only [Act.put, List.getElem_toArray, List.getElem_cons_zero, List.getElem_cons_succ, List.setIfInBounds_toArray, List.set_cons_zero, List.set_cons_succ]) | (refine wpZ_pu (v := ?_) _ (by rfl) (by rfl) (by rfl) (by rfl) (fun W => ?_) ?_; (rotate_left; (focus ((try dsimp only at hW); go_simp; (try with_reducible rfl); done))); try simp only [Act.put, List.getElem_toArray, List.getElem_cons_zero, List.getElem_cons_succ, List.setIfInBounds_toArray, List.set_cons_zero, List.set_cons_succ]) | (refine wpZ_no _ (by rfl) (by rfl) (by rfl) (by rfl) ?_; try simp only [Act.put, List.getElem_toArray, List.getElem_cons_zero, List.getElem_cons_succ, List.setIfInBounds_toArray, List.set_cons_zero, List.set_cons_succ]) | (refine wpZ_noS _ (by rfl) (by rfl) (by rfl) (lookM (h5.arr [2, 0, 1])) ?_; try simp only [Act.put, List.getElem_toArray, List.getElem_cons_zero, List.getElem_cons_succ, List.setIfInBounds_toArray, List.set_cons_zero, List.set_cons_succ])))
              (simp only [wpZ])
              have h7 := (h5.arr [0, 2, 1]).drop
              (try dsimp only [Go.Own.front, Go.Own.arrA, Go.Own.atA, Go.Own.dropA, List.length_cons, List.length_nil, Nat.zero_add, Nat.reduceAdd] at h7)
              clear hS h4 h5 PK
              rcases (show fr + k < (bp : Int) ∨ fr + k = (bp : Int) ∨ (bp : Int) < fr + k by omega) with hcmp | hcmp | hcmp
              · have e1 := c3 hcmp
                have e2 : (cv == bv) = false := by rw [beq_eq_false_iff_ne]; omega
                have e3 : ((fr + (k : Int)) == (bp : Int)) = false := by rw [beq_eq_false_iff_ne]; omega
                clear c3 c4
                go_wp2_with (go_at_call 13; refine (num_any _ _ _ (Hold.start _)).mono ?_; rintro e w9 ⟨rfl, rfl⟩; dsimp only)
                go_roundw
                case rel => exact ⟨k + 1, by omega, by go_num, h7⟩
                case measure => simp [intOf]; omega
              · have e1 := c4 hcmp
                have e2 : (cv == bv) = true := by rw [beq_iff_eq]; omega
                have e4 : (cv != bv) = false := by rw [bne, e2]; rfl
                have e3 : ((fr + (k : Int)) == (bp : Int)) = true := by rw [beq_iff_eq]; omega
                have e5 : decide (fr + (k : Int) < (bp : Int)) = false := by simp; omega
                have HH := Lib.hid hcmp
                have HH2 := Lib.hid e1
                clear c3 c4 hcmp e1
                go_wp2_with (go_at_call 13; refine (num_any _ _ _ (Hold.start _)).mono ?_; rintro e w9 ⟨rfl, rfl⟩; dsimp only)
                go_roundw
                case rel => exact ⟨k + 1, by omega, by go_num, h7⟩
                case measure => simp [intOf]; omega
              · have e3 : ((fr + (k : Int)) == (bp : Int)) = false := by rw [beq_eq_false_iff_ne]; omega
                have e5 : decide (fr + (k : Int) < (bp : Int)) = false := by simp; omega
                clear c3 c4
                go_wp2_with (go_at_call 13; refine (num_any _ _ _ (Hold.start _)).mono ?_; rintro e w9 ⟨rfl, rfl⟩; dsimp only)
                go_roundw
                case rel => exact ⟨k + 1, by omega, by go_num, h7⟩
                case measure => simp [intOf]; omega
            · have hlt2 : tu < fr + k := by omega
              clear hlt
              go_wp2
              go_meet
              exact hr
      case rest =>
        have hfc : findE B m N ys = 91 ∨ (findE B m N ys = 0 ∧ allB N ys = true ∧ findR B m N ys th = places (fun p => valAt N B m ys p) th (M + 1 - m) ∧ findR B m N ys (th + mo) = places (fun p => valAt N B m ys p) (th + mo) (M + 1 - m)) := by
          have hyM := HY.out
          rcases find_view B m N ys th with ⟨h, _⟩ | ⟨h, _⟩ | ⟨_, _, _, _, m', hm', _, _, hv⟩
          · have := HC.out; omega
          · have := HC.out; omega
          · obtain rfl : m = m' := by omega
            rcases hv with ⟨_, e1, _⟩ | ⟨ha, e1, e2⟩
            · exact .inl e1
            · refine .inr ⟨e1, ha, by rw [e2, hyM], ?_⟩
              unfold findR
              rw [if_pos e1, hyM, Int.toNat_natCast]
        obtain ⟨f, hf⟩ : ∃ f : Nat → Int, f = fun p => valAt N B m ys p := ⟨_, rfl⟩
        rw [← hf] at hfc
        generalize findE B m N ys = fe at *
        generalize findR B m N ys th = fl at *
        generalize findR B m N ys (th + mo) = fk at *
        have HFC := Lib.hid hfc
        have HF := Lib.hid hf
        clear hfc hf hx g0 g1 g2 g3 g4 g5 g6
        have hS := hcut.drew
        go_upto_region 13 with (fail)
        refine wp_region_Z (fun W => W.cell? ⟨q, 0, none⟩ = some (.int .u64 B) ∧ W.cell? ⟨q, 1, none⟩ = some (.int .i64 m) ∧ W.cell? ⟨q, 2, none⟩ = some (.int .i64 N) ∧ W.cell? ⟨q, 3, none⟩ = some (.slice ao M cap) ∧ W.cell? ⟨q, 4, none⟩ = some (.int .i64 fr) ∧ W.cell? ⟨q, 5, none⟩ = some (.int .i64 tu) ∧ W.cell? ⟨q, 6, none⟩ = some (.int .i64 th)) [1, 3, 5, 8] [] [0, 2, 4, 7, 10, 11, 12, 13, 14] [0, 1, 2, 3, 4, 5, 7, 8, 6, 9, 10, 11, 12, 13, 14] (by kernel_rfl) (by kernel_rfl) ?_
        (repeat (first | (refine wpZ_st (v := ?_) _ (by rfl) (by rfl) (by rfl) (fun W hW => ?_) (lookM hS) ?_; (rotate_left; (focus ((try dsimp only at hW); go_simp; (try with_reducible rfl); done))); try simp only [Act.put, List.getElem_toArray, List.getElem_cons_zero, List.getElem_cons_succ, List.setIfInBounds_toArray, List.set_cons_zero, List.set_cons_succ]) | (refine wpZ_pu (v := ?_) _ (by rfl) (by rfl) (by rfl) (by rfl) (fun W => ?_) ?_; (rotate_left; (focus ((try dsimp only at hW); go_simp; (try with_reducible rfl); done))); try simp only [Act.put, List.getElem_toArray, List.getElem_cons_zero, List.getElem_cons_succ, List.setIfInBounds_toArray, List.set_cons_zero, List.set_cons_succ]) | (refine wpZ_no _ (by rfl) (by rfl) (by rfl) (by rfl) ?_; try simp only [Act.put, List.getElem_toArray, List.getElem_cons_zero, List.getElem_cons_succ, List.setIfInBounds_toArray, List.set_cons_zero, List.set_cons_succ]) | (refine wpZ_noS _ (by rfl) (by rfl) (by rfl) (lookM hS) ?_; try simp only [Act.put, List.getElem_toArray, List.getElem_cons_zero, List.getElem_cons_succ, List.setIfInBounds_toArray, List.set_cons_zero, List.set_cons_succ])))
        refine wpZ_eff _ (by rfl) (by rfl) (by rfl) (by rfl) (fun K hK => ?_)
        go_simp
        refine (P0 _ _ (hS.arr [1, 0])).mono ?_
        rintro e w4 ⟨oa, oc, rfl, h4⟩
        (try dsimp only [Go.Own.front, Go.Own.arrA, Go.Own.atA, Go.Own.dropA, List.length_cons, List.length_nil, Nat.zero_add, Nat.reduceAdd] at h4)
        dsimp only
        (refine hK _ _ (fun hl => ?_) ?_; (first | (focus (cases hl; done)) | exact (lookM (h4.arr [2, 0, 1]))); clear hK K; try simp only [Act.put, List.getElem_toArray, List.getElem_cons_zero, List.getElem_cons_succ, List.setIfInBounds_toArray, List.set_cons_zero, List.set_cons_succ])
        (repeat (first | (refine wpZ_st (v := ?_) _ (by rfl) (by rfl) (by rfl) (fun W hW => ?_) (lookM (h4.arr [2, 0, 1])) ?_; (rotate_left; (focus ((try dsimp only at hW); go_simp; (try with_reducible rfl); done))); try simp only [Act.put, List.getElem_toArray, List.getElem_cons_zero, List.getElem_cons_succ, List.setIfInBounds_toArray, List.set_cons_zero, List.set_cons_succ]) | (refine wpZ_pu (v := ?_) _ (by rfl) (by rfl) (by rfl) (by rfl) (fun W => ?_) ?_; (rotate_left; (focus ((try dsimp only at hW); go_simp; (try with_reducible rfl); done))); try simp only [Act.put, List.getElem_toArray, List.getElem_cons_zero, List.getElem_cons_succ, List.setIfInBounds_toArray, List.set_cons_zero, List.set_cons_succ]) | (refine wpZ_no _ (by rfl) (by rfl) (by rfl) (by rfl) ?_; try simp only [Act.put, List.getElem_toArray, List.getElem_cons_zero, List.getElem_cons_succ, List.setIfInBounds_toArray, List.set_cons_zero, List.set_cons_succ]) | (refine wpZ_noS _ (by rfl) (by rfl) (by rfl) (lookM (h4.arr [2, 0, 1])) ?_; try simp only [Act.put, List.getElem_toArray, List.getElem_cons_zero, List.getElem_cons_succ, List.setIfInBounds_toArray, List.set_cons_zero, List.set_cons_succ])))
        refine wpZ_eff _ (by rfl) (by rfl) (by rfl) (by rfl) (fun K hK => ?_)
        go_simp
        refine (PF oa oc _ _ h4).mono ?_
        rintro e w5 ⟨la, lc, rfl, h5⟩
        dsimp only
        (refine hK _ _ (fun hl => ?_) ?_; (first | (focus (cases hl; done)) | exact (lookM (h5.arr [3, 0, 1, 2]))); clear hK K; try simp only [Act.put, List.getElem_toArray, List.getElem_cons_zero, List.getElem_cons_succ, List.setIfInBounds_toArray, List.set_cons_zero, List.set_cons_succ])
        (repeat (first | (refine wpZ_st (v := ?_) _ (by rfl) (by rfl) (by rfl) (fun W hW => ?_) (lookM (h5.arr [3, 0, 1, 2])) ?_; (rotate_left; (focus ((try dsimp only at hW); go_simp; (try with_reducible rfl); done))); try simp only [Act.put, List.getElem_toArray, List.getElem_cons_zero, List.getElem_cons_succ, List.setIfInBounds_toArray, List.set_cons_zero, List.set_cons_succ]) | (refine wpZ_pu (v := ?_) _ (by rfl) (by rfl) (by rfl) (by rfl) (fun W => ?_) ?_; (rotate_left; (focus ((try dsimp only at hW); go_simp; (try with_reducible rfl); done))); try simp only [Act.put, List.getElem_toArray, List.getElem_cons_zero, List.getElem_cons_succ, List.setIfInBounds_toArray, List.set_cons_zero, List.set_cons_succ]) | (refine wpZ_no _ (by rfl) (by rfl) (by rfl) (by rfl) ?_; try simp only [Act.put, List.getElem_toArray, List.getElem_cons_zero, List.getElem_cons_succ, List.setIfInBounds_toArray, List.set_cons_zero, List.set_cons_succ]) | (refine wpZ_noS _ (by rfl) (by rfl) (by rfl) (lookM (h5.arr [3, 0, 1, 2])) ?_; try simp only [Act.put, List.getElem_toArray, List.getElem_cons_zero, List.getElem_cons_succ, List.setIfInBounds_toArray, List.set_cons_zero, List.set_cons_succ])))
        (simp only [wpZ])
        have h7 := (h5.arr [3, 2, 0, 1])
        (try dsimp only [Go.Own.front, Go.Own.arrA, Go.Own.atA, Go.Own.dropA, List.length_cons, List.length_nil, Nat.zero_add, Nat.reduceAdd] at h7)
        have hS' := ((h5.arr [1, 3, 2, 0]).drop).drew
        (try dsimp only [Go.Own.front, Go.Own.arrA, Go.Own.atA, Go.Own.dropA, List.length_cons, List.length_nil, Nat.zero_add, Nat.reduceAdd] at hS')
        clear hS h4 h5 h7 hcut PF
        have hS := hS'
        clear hS'
        go_upto_region 14 with (fail)
        refine wp_region_Z (fun W => W.cell? ⟨q, 0, none⟩ = some (.int .u64 B) ∧ W.cell? ⟨q, 1, none⟩ = some (.int .i64 m) ∧ W.cell? ⟨q, 2, none⟩ = some (.int .i64 N) ∧ W.cell? ⟨q, 3, none⟩ = some (.slice ao M cap) ∧ W.cell? ⟨q, 4, none⟩ = some (.int .i64 fr) ∧ W.cell? ⟨q, 5, none⟩ = some (.int .i64 tu) ∧ W.cell? ⟨q, 6, none⟩ = some (.int .i64 th)) [1, 3, 5, 8] [] [0, 2, 4, 7, 9, 10, 12, 13, 14, 15, 16] [0, 1, 2, 3, 4, 5, 7, 8, 9, 10, 6, 11, 12, 13, 14, 15, 16] (by kernel_rfl) (by kernel_rfl) ?_
        (repeat (first | (refine wpZ_st (v := ?_) _ (by rfl) (by rfl) (by rfl) (fun W hW => ?_) (lookM hS) ?_; (rotate_left; (focus ((try dsimp only at hW); go_simp; (try with_reducible rfl); done))); try simp only [Act.put, List.getElem_toArray, List.getElem_cons_zero, List.getElem_cons_succ, List.setIfInBounds_toArray, List.set_cons_zero, List.set_cons_succ]) | (refine wpZ_pu (v := ?_) _ (by rfl) (by rfl) (by rfl) (by rfl) (fun W => ?_) ?_; (rotate_left; (focus ((try dsimp only at hW); go_simp; (try with_reducible rfl); done))); try simp only [Act.put, List.getElem_toArray, List.getElem_cons_zero, List.getElem_cons_succ, List.setIfInBounds_toArray, List.set_cons_zero, List.set_cons_succ]) | (refine wpZ_no _ (by rfl) (by rfl) (by rfl) (by rfl) ?_; try simp only [Act.put, List.getElem_toArray, List.getElem_cons_zero, List.getElem_cons_succ, List.setIfInBounds_toArray, List.set_cons_zero, List.set_cons_succ]) | (refine wpZ_noS _ (by rfl) (by rfl) (by rfl) (lookM hS) ?_; try simp only [Act.put, List.getElem_toArray, List.getElem_cons_zero, List.getElem_cons_succ, List.setIfInBounds_toArray, List.set_cons_zero, List.set_cons_succ])))
        refine wpZ_eff _ (by rfl) (by rfl) (by rfl) (by rfl) (fun K hK => ?_)
        go_simp
        refine (P0 _ _ (hS.arr [1, 0])).mono ?_
        rintro e w4 ⟨oa, oc, rfl, h4⟩
        (try dsimp only [Go.Own.front, Go.Own.arrA, Go.Own.atA, Go.Own.dropA, List.length_cons, List.length_nil, Nat.zero_add, Nat.reduceAdd] at h4)
        dsimp only
        (refine hK _ _ (fun hl => ?_) ?_; (first | (focus (cases hl; done)) | exact (lookM (h4.arr [2, 0, 1, 3]))); clear hK K; try simp only [Act.put, List.getElem_toArray, List.getElem_cons_zero, List.getElem_cons_succ, List.setIfInBounds_toArray, List.set_cons_zero, List.set_cons_succ])
        (repeat (first | (refine wpZ_st (v := ?_) _ (by rfl) (by rfl) (by rfl) (fun W hW => ?_) (lookM (h4.arr [2, 0, 1, 3])) ?_; (rotate_left; (focus ((try dsimp only at hW); go_simp; (try with_reducible rfl); done))); try simp only [Act.put, List.getElem_toArray, List.getElem_cons_zero, List.getElem_cons_succ, List.setIfInBounds_toArray, List.set_cons_zero, List.set_cons_succ]) | (refine wpZ_pu (v := ?_) _ (by rfl) (by rfl) (by rfl) (by rfl) (fun W => ?_) ?_; (rotate_left; (focus ((try dsimp only at hW); go_simp; (try with_reducible rfl); done))); try simp only [Act.put, List.getElem_toArray, List.getElem_cons_zero, List.getElem_cons_succ, List.setIfInBounds_toArray, List.set_cons_zero, List.set_cons_succ]) | (refine wpZ_no _ (by rfl) (by rfl) (by rfl) (by rfl) ?_; try simp only [Act.put, List.getElem_toArray, List.getElem_cons_zero, List.getElem_cons_succ, List.setIfInBounds_toArray, List.set_cons_zero, List.set_cons_succ]) | (refine wpZ_noS _ (by rfl) (by rfl) (by rfl) (lookM (h4.arr [2, 0, 1, 3])) ?_; try simp only [Act.put, List.getElem_toArray, List.getElem_cons_zero, List.getElem_cons_succ, List.setIfInBounds_toArray, List.set_cons_zero, List.set_cons_succ])))
        refine wpZ_eff _ (by rfl) (by rfl) (by rfl) (by rfl) (fun K hK => ?_)
        go_simp
        refine (PG oa oc _ _ h4).mono ?_
        rintro e w5 ⟨ka, kc, rfl, h5⟩
        dsimp only
        (refine hK _ _ (fun hl => ?_) ?_; (first | (focus (cases hl; done)) | exact (lookM (h5.arr [3, 0, 1, 2, 4]))); clear hK K; try simp only [Act.put, List.getElem_toArray, List.getElem_cons_zero, List.getElem_cons_succ, List.setIfInBounds_toArray, List.set_cons_zero, List.set_cons_succ])
        (repeat (first | (refine wpZ_st (v := ?_) _ (by rfl) (by rfl) (by rfl) (fun W hW => ?_) (lookM (h5.arr [3, 0, 1, 2, 4])) ?_; (rotate_left; (focus ((try dsimp only at hW); go_simp; (try with_reducible rfl); done))); try simp only [Act.put, List.getElem_toArray, List.getElem_cons_zero, List.getElem_cons_succ, List.setIfInBounds_toArray, List.set_cons_zero, List.set_cons_succ]) | (refine wpZ_pu (v := ?_) _ (by rfl) (by rfl) (by rfl) (by rfl) (fun W => ?_) ?_; (rotate_left; (focus ((try dsimp only at hW); go_simp; (try with_reducible rfl); done))); try simp only [Act.put, List.getElem_toArray, List.getElem_cons_zero, List.getElem_cons_succ, List.setIfInBounds_toArray, List.set_cons_zero, List.set_cons_succ]) | (refine wpZ_no _ (by rfl) (by rfl) (by rfl) (by rfl) ?_; try simp only [Act.put, List.getElem_toArray, List.getElem_cons_zero, List.getElem_cons_succ, List.setIfInBounds_toArray, List.set_cons_zero, List.set_cons_succ]) | (refine wpZ_noS _ (by rfl) (by rfl) (by rfl) (lookM (h5.arr [3, 0, 1, 2, 4])) ?_; try simp only [Act.put, List.getElem_toArray, List.getElem_cons_zero, List.getElem_cons_succ, List.setIfInBounds_toArray, List.set_cons_zero, List.set_cons_succ])))
        (simp only [wpZ])
        have h7 := (h5.arr [1, 3, 2, 4, 0]).drop
        (try dsimp only [Go.Own.front, Go.Own.arrA, Go.Own.atA, Go.Own.dropA, List.length_cons, List.length_nil, Nat.zero_add, Nat.reduceAdd] at h7)
        clear hS h4 h5 PG
        go_upto_if 149 with (go_at_call 13; refine (num_any _ _ _ (Hold.start _)).mono ?_; rintro e w9 ⟨rfl, rfl⟩; dsimp only)
        rcases HFC.out with hfe | ⟨hfe, hall, hl1, hl2⟩
        · have e1 : ((fe : Int) != 0) = true := by rw [hfe]; rfl
          clear hfe
          go_wp2_with (first | (go_at_call 13; refine (num_any _ _ _ (Hold.start _)).mono ?_; rintro e w9 ⟨rfl, rfl⟩; dsimp only) | (go_at_call 14; refine (live_ok _ _ h7).mono ?_; rintro e w3 ⟨rfl, h9⟩))
          go_ret
          exact ⟨rfl, (h9.arr [0, 2, 3, 1]).drop.drop.drop⟩
        · have e1 : ((fe : Int) != 0) = false := by rw [hfe]; rfl
          have HH := Lib.hid (And.intro hl1 hl2)
          have HA := Lib.hid hall
          clear hfe hl1 hl2 hall
          go_wp2_with (go_at_call 13; refine (num_any _ _ _ (Hold.start _)).mono ?_; rintro e w9 ⟨rfl, rfl⟩; dsimp only)
          go_loopw [15, 16, 17] (fun p q' i wr => FndRel (M + 1 - m) f th (th + mo) (cellsA q 47 (lookX B m N (.slice ao M cap) fr tu th) :: C :: PlcRow fl la lc :: PlcRow fk ka kc :: L) p q' i wr) (fun _ _ i _ => (M + 1 - m) - (intOf i).toNat)
          case atStart => exact ⟨0, by omega, rfl, rfl, rfl, h7⟩
          case round =>
            clear h7
            obtain ⟨k, hk, rfl, rfl, rfl, hr⟩ := hrel
            obtain ⟨g0, g1, g2, g3, g4, g5, g6⟩ := lookM hr
            have hk0 : 0 ≤ (k : Int) := by omega
            by_cases hlt : k < M + 1 - m
            · have hki : (k : Int) + m ≤ M := by omega
              have cg := corr_good (B := B) (k := k) HC.out (ys := ys) (by have := HY.out; omega) (allB_sub (lo := 0) (len := M) (by have := HY.out; have h := HA.out; simpa [List.take_of_length_le (show ys.length ≤ M by omega)] using h) (by omega) (by omega))
              have PK := HP.out (k : Int)
              have hfk : f k = valAt N B m ys k := by rw [HF.out]
              rw [cg.1, cg.2, ← hfk] at PK
              have HS1 := Lib.hid (places_snoc f th k)
              have HS2 := Lib.hid (places_snoc f (th + mo) k)
              clear cg hfk
              have hS := hr.drew
              go_upto_region 23 with (fail)
              clear g0 g1 g2 g3 g4 g5 g6
              refine wp_region_Z (fun W => W.cell? ⟨q, 0, none⟩ = some (.int .u64 B) ∧ W.cell? ⟨q, 1, none⟩ = some (.int .i64 m) ∧ W.cell? ⟨q, 2, none⟩ = some (.int .i64 N) ∧ W.cell? ⟨q, 3, none⟩ = some (.slice ao M cap) ∧ W.cell? ⟨q, 4, none⟩ = some (.int .i64 fr) ∧ W.cell? ⟨q, 5, none⟩ = some (.int .i64 tu) ∧ W.cell? ⟨q, 6, none⟩ = some (.int .i64 th)) [1, 3, 5] [] [0, 2, 4, 7, 9, 10, 11, 12, 13] [0, 1, 2, 3, 4, 5, 7, 6, 8, 9, 10, 11, 12, 13] (by kernel_rfl) (by kernel_rfl) ?_
              (repeat (first | (refine wpZ_st (v := ?_) _ (by rfl) (by rfl) (by rfl) (fun W hW => ?_) (lookM hS) ?_; (rotate_left; (focus ((try dsimp only at hW); go_simp; (try with_reducible rfl); done))); try simp only [Act.put, List.getElem_toArray, List.getElem_cons_zero, List.getElem_cons_succ, List.setIfInBounds_toArray, List.set_cons_zero, List.set_cons_succ]) | (refine wpZ_pu (v := ?_) _ (by rfl) (by rfl) (by rfl) (by rfl) (fun W => ?_) ?_; (rotate_left; (focus ((try dsimp only at hW); go_simp; (try with_reducible rfl); done))); try simp only [Act.put, List.getElem_toArray, List.getElem_cons_zero, List.getElem_cons_succ, List.setIfInBounds_toArray, List.set_cons_zero, List.set_cons_succ]) | (refine wpZ_no _ (by rfl) (by rfl) (by rfl) (by rfl) ?_; try simp only [Act.put, List.getElem_toArray, List.getElem_cons_zero, List.getElem_cons_succ, List.setIfInBounds_toArray, List.set_cons_zero, List.set_cons_succ]) | (refine wpZ_noS _ (by rfl) (by rfl) (by rfl) (lookM hS) ?_; try simp only [Act.put, List.getElem_toArray, List.getElem_cons_zero, List.getElem_cons_succ, List.setIfInBounds_toArray, List.set_cons_zero, List.set_cons_succ])))
              refine wpZ_eff _ (by rfl) (by rfl) (by rfl) (by rfl) (fun K hK => ?_)
              go_simp
              refine (P0 _ _ (hS.arr [1, 0])).mono ?_
              rintro e w4 ⟨oa, oc, rfl, h4⟩
              (try dsimp only [Go.Own.front, Go.Own.arrA, Go.Own.atA, Go.Own.dropA, List.length_cons, List.length_nil, Nat.zero_add, Nat.reduceAdd] at h4)
              dsimp only
              (refine hK _ _ (fun hl => ?_) ?_; (first | (focus (cases hl; done)) | exact (lookM (h4.arr [2, 0, 1, 3, 4]))); clear hK K; try simp only [Act.put, List.getElem_toArray, List.getElem_cons_zero, List.getElem_cons_succ, List.setIfInBounds_toArray, List.set_cons_zero, List.set_cons_succ])
              (repeat (first | (refine wpZ_st (v := ?_) _ (by rfl) (by rfl) (by rfl) (fun W hW => ?_) (lookM (h4.arr [2, 0, 1, 3, 4])) ?_; (rotate_left; (focus ((try dsimp only at hW); go_simp; (try with_reducible rfl); done))); try simp only [Act.put, List.getElem_toArray, List.getElem_cons_zero, List.getElem_cons_succ, List.setIfInBounds_toArray, List.set_cons_zero, List.set_cons_succ]) | (refine wpZ_pu (v := ?_) _ (by rfl) (by rfl) (by rfl) (by rfl) (fun W => ?_) ?_; (rotate_left; (focus ((try dsimp only at hW); go_simp; (try with_reducible rfl); done))); try simp only [Act.put, List.getElem_toArray, List.getElem_cons_zero, List.getElem_cons_succ, List.setIfInBounds_toArray, List.set_cons_zero, List.set_cons_succ]) | (refine wpZ_no _ (by rfl) (by rfl) (by rfl) (by rfl) ?_; try simp only [Act.put, List.getElem_toArray, List.getElem_cons_zero, List.getElem_cons_succ, List.setIfInBounds_toArray, List.set_cons_zero, List.set_cons_succ]) | (refine wpZ_noS _ (by rfl) (by rfl) (by rfl) (lookM (h4.arr [2, 0, 1, 3, 4])) ?_; try simp only [Act.put, List.getElem_toArray, List.getElem_cons_zero, List.getElem_cons_succ, List.setIfInBounds_toArray, List.set_cons_zero, List.set_cons_succ])))
              refine wpZ_eff _ (by rfl) (by rfl) (by rfl) (by rfl) (fun K hK => ?_)
              go_simp
              refine (PK oa oc _ _ h4).mono ?_
              rintro e w5 ⟨rfl, h5⟩
              dsimp only
              (refine hK _ _ (fun hl => ?_) ?_; (first | (focus (cases hl; done)) | exact (lookM (h5.arr [2, 0, 1, 3, 4]))); clear hK K; try simp only [Act.put, List.getElem_toArray, List.getElem_cons_zero, List.getElem_cons_succ, List.setIfInBounds_toArray, List.set_cons_zero, List.set_cons_succ])
              (repeat (first | (refine wpZ_st (v := ?_) _ (by rfl) (by rfl) (by rfl) (fun W hW => ?_) (lookM (h5.arr [2, 0, 1, 3, 4])) ?_; (rotate_left; (focus ((try dsimp only at hW); go_simp; (try with_reducible rfl); done))); try simp only [Act.put, List.getElem_toArray, List.getElem_cons_zero, List.getElem_cons_succ, List.setIfInBounds_toArray, List.set_cons_zero, List.set_cons_succ]) | (refine wpZ_pu (v := ?_) _ (by rfl) (by rfl) (by rfl) (by rfl) (fun W => ?_) ?_; (rotate_left; (focus ((try dsimp only at hW); go_simp; (try with_reducible rfl); done))); try simp only [Act.put, List.getElem_toArray, List.getElem_cons_zero, List.getElem_cons_succ, List.setIfInBounds_toArray, List.set_cons_zero, List.set_cons_succ]) | (refine wpZ_no _ (by rfl) (by rfl) (by rfl) (by rfl) ?_; try simp only [Act.put, List.getElem_toArray, List.getElem_cons_zero, List.getElem_cons_succ, List.setIfInBounds_toArray, List.set_cons_zero, List.set_cons_succ]) | (refine wpZ_noS _ (by rfl) (by rfl) (by rfl) (lookM (h5.arr [2, 0, 1, 3, 4])) ?_; try simp only [Act.put, List.getElem_toArray, List.getElem_cons_zero, List.getElem_cons_succ, List.setIfInBounds_toArray, List.set_cons_zero, List.set_cons_succ])))
              (simp only [wpZ])
              have h7 := (h5.arr [2, 1, 3, 4, 0])
              (try dsimp only [Go.Own.front, Go.Own.arrA, Go.Own.atA, Go.Own.dropA, List.length_cons, List.length_nil, Nat.zero_add, Nat.reduceAdd] at h7)
              have h7 := (h5.arr [0, 2, 1, 3, 4]).drop
              (try dsimp only [Go.Own.front, Go.Own.arrA, Go.Own.atA, Go.Own.dropA, List.length_cons, List.length_nil, Nat.zero_add, Nat.reduceAdd] at h7)
              obtain ⟨g0, g1, g2, g3, g4, g5, g6⟩ := lookM h7
              clear hS h4 h5 PK
              rcases (show f k < th ∨ th ≤ f k ∧ f k < th + mo ∨ th + mo ≤ f k by omega) with hv | ⟨hv, hv2⟩ | hv
              · have HT1 : Hid (places f th (k + 1) = places f th k) := Lib.hid (by rw [HS1.out, if_neg (by omega), List.append_nil])
                have HT2 : Hid (places f (th + mo) (k + 1) = places f (th + mo) k) := Lib.hid (by rw [HS2.out, if_neg (by omega), List.append_nil])
                have hv2 : f k < th + mo := by omega
                generalize f k = v at *
                have hb1 := places_le f th k
                have hb2 := places_le f (th + mo) k
                have hb3 : ((places f th k).length : Int) ≤ 1048577 := by omega
                have hb4 : ((places f (th + mo) k).length : Int) ≤ 1048577 := by omega
                clear HS1 HS2 hb1 hb2
                generalize places f th k = pl at *
                generalize places f (th + mo) k = pk at *
                go_wp2_with (go_at_call 13; refine (num_any _ _ _ (Hold.start _)).mono ?_; rintro e w9 ⟨rfl, rfl⟩; dsimp only)
                go_roundw
                case rel => exact ⟨k + 1, by omega, by go_num, by rw [HT1.out], by rw [HT2.out], h7⟩
                case measure => simp [intOf]; omega
              · have HT1 : Hid (places f th (k + 1) = places f th k ++ [(k : Int)]) := Lib.hid (by rw [HS1.out, if_pos hv])
                have HT2 : Hid (places f (th + mo) (k + 1) = places f (th + mo) k) := Lib.hid (by rw [HS2.out, if_neg (by omega), List.append_nil])
                have lg := places_at f th k (M + 1 - m) (by omega) (by omega)
                rw [← HH.1] at lg
                have ll : (places f th k).length < fl.length := (List.getElem?_eq_some_iff.1 lg).1
                obtain ⟨lb, lo, le, lc, -⟩ := (h7.arr [2, 0, 1, 3]).at (by omega)
                have lv : w5.cell? ⟨lb, lo + (places f th k).length, none⟩ = some (.int .i64 k) := by
                  rw [lc _ (by omega)]
                  rw [is, List.getElem?_map, lg]; rfl
                have li : ((places f th k).length : Int) < (fl.length : Int) := by omega
                subst le
                clear lg ll lc
                generalize f k = v at *
                have hb1 := places_le f th k
                have hb2 := places_le f (th + mo) k
                have hb3 : ((places f th k).length : Int) ≤ 1048577 := by omega
                have hb4 : ((places f (th + mo) k).length : Int) ≤ 1048577 := by omega
                clear HS1 HS2 hb1 hb2
                generalize places f th k = pl at *
                generalize places f (th + mo) k = pk at *
                go_wp2_with (go_at_call 13; refine (num_any _ _ _ (Hold.start _)).mono ?_; rintro e w9 ⟨rfl, rfl⟩; dsimp only)
                go_roundw
                case rel => exact ⟨k + 1, by omega, by go_num, by rw [HT1.out, List.length_append]; rfl, by rw [HT2.out], h7⟩
                case measure => simp [intOf]; omega
              · have HT1 : Hid (places f th (k + 1) = places f th k ++ [(k : Int)]) := Lib.hid (by rw [HS1.out, if_pos (by omega)])
                have HT2 : Hid (places f (th + mo) (k + 1) = places f (th + mo) k ++ [(k : Int)]) := Lib.hid (by rw [HS2.out, if_pos hv])
                have hv0 : th ≤ f k := by omega
                have lg := places_at f th k (M + 1 - m) (by omega) (by omega)
                rw [← HH.1] at lg
                have ll : (places f th k).length < fl.length := (List.getElem?_eq_some_iff.1 lg).1
                obtain ⟨lb, lo, le, lc, -⟩ := (h7.arr [2, 0, 1, 3]).at (by omega)
                have lv : w5.cell? ⟨lb, lo + (places f th k).length, none⟩ = some (.int .i64 k) := by
                  rw [lc _ (by omega)]
                  rw [is, List.getElem?_map, lg]; rfl
                have li : ((places f th k).length : Int) < (fl.length : Int) := by omega
                subst le
                clear lg ll lc
                have kg := places_at f (th + mo) k (M + 1 - m) (by omega) (by omega)
                rw [← HH.2] at kg
                have kl : (places f (th + mo) k).length < fk.length := (List.getElem?_eq_some_iff.1 kg).1
                obtain ⟨kb, ko, ke, kc, -⟩ := (h7.arr [3, 0, 1, 2]).at (by omega)
                have kv : w5.cell? ⟨kb, ko + (places f (th + mo) k).length, none⟩ = some (.int .i64 k) := by
                  rw [kc _ (by omega)]
                  rw [is, List.getElem?_map, kg]; rfl
                have ki : ((places f (th + mo) k).length : Int) < (fk.length : Int) := by omega
                subst ke
                clear kg kl kc
                generalize f k = v at *
                have hb1 := places_le f th k
                have hb2 := places_le f (th + mo) k
                have hb3 : ((places f th k).length : Int) ≤ 1048577 := by omega
                have hb4 : ((places f (th + mo) k).length : Int) ≤ 1048577 := by omega
                clear HS1 HS2 hb1 hb2
                generalize places f th k = pl at *
                generalize places f (th + mo) k = pk at *
                go_wp2_with (go_at_call 13; refine (num_any _ _ _ (Hold.start _)).mono ?_; rintro e w9 ⟨rfl, rfl⟩; dsimp only)
                go_roundw
                case rel => exact ⟨k + 1, by omega, by go_num, by rw [HT1.out, List.length_append]; rfl, by rw [HT2.out, List.length_append]; rfl, h7⟩
                case measure => simp [intOf]; omega
            · obtain rfl : k = M + 1 - m := by omega
              have hki : (M : Int) < ((M + 1 - m : Nat) : Int) + m := by omega
              have l1 : (places f th (M + 1 - m)).length = fl.length := by rw [HH.out.1]
              have l2 : (places f (th + mo) (M + 1 - m)).length = fk.length := by rw [HH.out.2]
              rw [l1, l2]
              clear l1 l2
              go_wp2_with (go_at_call 14; refine (live_ok _ _ hr).mono ?_; rintro e w3 ⟨rfl, h9⟩)
              go_ret
              exact ⟨rfl, (h9.arr [0, 2, 3, 1]).drop.drop.drop⟩
    · have hg2 : mo < 0 ∨ 0 ≤ mo ∧ wrap64 (th + mo) < th := by
        by_cases h0 : mo < 0
        · exact .inl h0
        · refine .inr ⟨by omega, ?_⟩
          unfold wrap64
          omega
      clear hg hc hyn
      rcases hg2 with hg | ⟨hg, ho⟩
      all_goals
        go_enter Try.func9, Try.ntmps9
        go_upto_region 1 with (fail)
        refine gen_world hb (fun w1 hb => ?_)
        generalize w.heap.size = q at *
        obtain ⟨g0, g1, g2, g3, g4, g5, g6⟩ := lookM hb
        go_wp2_with (first
          | (go_at_call 17; refine (PR _ _ hb).mono ?_; rintro e w2 ⟨rfl, h2⟩; obtain ⟨g0, g1, g2, g3, g4, g5, g6⟩ := lookM h2)
          | (go_at_call 14; refine (live_ok _ _ h2).mono ?_; rintro e w3 ⟨rfl, h3⟩))
        go_ret
        exact ⟨rfl, h3.drop⟩
  · rw [right_no hc] at PR
    clear hc hyn
    go_enter Try.func9, Try.ntmps9
    go_upto_region 1 with (fail)
    refine gen_world hb (fun w1 hb => ?_)
    generalize w.heap.size = q at *
    obtain ⟨g0, g1, g2, g3, g4, g5, g6⟩ := lookM hb
    go_wp2_with (first
      | (go_at_call 17; refine (PR _ _ hb).mono ?_; rintro e w2 ⟨rfl, h2⟩)
      | (go_at_call 14; refine (live_ok _ _ h2).mono ?_; rintro e w3 ⟨rfl, h3⟩))
    go_ret
    exact ⟨rfl, h3.drop⟩

end Go.Proofs.Ytibmokkalloabaa
