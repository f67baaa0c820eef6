/- The walk of MarkerOne. -/
import Derived.Test.YtibmokkalloabaaMkY
open Go.RowKit Go.Own
namespace Go.Proofs.Ytibmokkalloabaa

theorem byte_of (l : Nat) (h : l < 256) : ((UInt8.ofNat l).toNat : Int) = l := by simp; omega

set_option maxHeartbeats 4000000 in
set_option maxRecDepth 20000 in
theorem one_walk (B : Nat) (n N : Int) (hB : B < 18446744073709551616) (ys : List UInt8) (C : Asn) (ao : Option Addr) (M cap : Nat) (hR : Reads C 1 (.slice ao M cap) M (ub ys)) (hM : M ≤ 140737488351232) (fr tu th pt : Int) (l : Nat) (hl : l < 256) (hI : -9223372036854775808 ≤ n ∧ n ≤ 9223372036854775807) (w : World) (L : List Asn) (h : Hold w (C :: L)) :
    Calls Try.prog 6 #[.agg (lookX B n N (.slice ao M cap) fr tu th).toArray, .int .i64 pt, .int .u8 l] w fun e w' => e = .returned (.bool true) ∧ Hold w' (C :: L) := by
  obtain ⟨S0, r0⟩ := h.reads hR
  have hyn : ys.length = M := by simpa using r0.bounds.1
  clear r0
  have hb := h.box 47 (lookX B n N (.slice ao M cap) fr tu th)
  have PR := fun w L h => right_ok B n N hB w L h
  by_cases hc : chkE B n N = 0
  · rw [right_yes hc] at PR
    obtain ⟨h1, h2, h3, h4, m, rfl, h5, h6⟩ : chkE B n N = 0 ∧ markE B n = 0 ∧ 2 ≤ N ∧ N ≤ 16 ∧ ∃ k : Nat, n = k ∧ 1 ≤ k ∧ k ≤ 64 := by
      rcases chk_view B n N with ⟨h1, _⟩ | ⟨h1, _⟩ | h
      · omega
      · omega
      · exact h
    clear h1
    have hm64 : (m : Int) ≤ 64 := by omega
    have hm1 : 1 ≤ (m : Int) := by omega
    have hMi : (M : Int) ≤ 140737488351232 := by omega
    by_cases hg : 0 ≤ fr ∧ fr ≤ (M : Int) - m ∧ 0 ≤ pt ∧ pt < m ∧ (l : Int) < N
    · obtain ⟨ha, hb2, hc2, hd2, hg⟩ := hg
      obtain ⟨p, rfl⟩ : ∃ p : Nat, fr = p := ⟨fr.toNat, by omega⟩
      obtain ⟨a, rfl⟩ : ∃ a : Nat, pt = a := ⟨pt.toNat, by omega⟩
      have hpa : p + a < ys.length := by omega
      have hcv : (corrE B m N ys p = 91 ∨ (corrE B m N ys p = 0 ∧ corrV B m N ys p = valAt N B m ys p ∧ allB N ((ys.drop p).take m) = true)) := by
        rcases corr_view B m N ys p with ⟨h1, _⟩ | ⟨h1, _⟩ | ⟨_, _, _, _, m', hm', _, _, h⟩
        · omega
        · omega
        · obtain rfl : m = m' := by omega
          rcases h with ⟨h, _⟩ | ⟨k, hk, hk2, h⟩
          · omega
          · obtain rfl : p = k := by omega
            rcases h with ⟨h1, h2, h3⟩ | ⟨h1, h2, h3⟩
            · exact .inl h2
            · exact .inr ⟨h2, h3, h1⟩
      have P0 := fun w L h => own_ok ys C ao M cap hR (by omega) w L h
      have P1 := fun oa oc w L h => corr_ok B m N hB ys (ownA oa M oc ys) oa M oc (ownA_reads hyn) (by omega) p w L h
      rcases hcv with he | ⟨he, hv, hall⟩
      · rw [he] at P1
        clear he hc hyn
        go_enter Try.func6, Try.ntmps6
        go_upto_region 1 with (fail)
        refine gen_world hb (fun w1 hb => ?_)
        generalize w.heap.size = q at *
        obtain ⟨g0, g1, g2, g3, g4, g5, g6⟩ := lookM hb
        go_upto_region 3 with (first
          | (go_at_call 17; refine (PR _ _ hb).mono ?_; rintro e w2 ⟨rfl, h2⟩; obtain ⟨g0, g1, g2, g3, g4, g5, g6⟩ := lookM h2))
        have hS := h2.drew
        obtain ⟨g0, g1, g2, g3, g4, g5, g6⟩ := lookM hS
        have S3 : ∀ w R, Hold w (cellsA q 47 (lookX B m N (.slice ao M cap) p tu th) :: R) → w.cell? ⟨q, 0, none⟩ = some (.int .u64 B) ∧ w.cell? ⟨q, 1, none⟩ = some (.int .i64 m) ∧ w.cell? ⟨q, 2, none⟩ = some (.int .i64 N) ∧ w.cell? ⟨q, 3, none⟩ = some (.slice ao M cap) ∧ w.cell? ⟨q, 4, none⟩ = some (.int .i64 p) := fun w R h => by
          obtain ⟨a0, a1, a2, a3, a4, -, -⟩ := lookM h
          exact ⟨a0, a1, a2, a3, a4⟩
        refine wp_region_Z (fun W => W.cell? ⟨q, 0, none⟩ = some (.int .u64 B) ∧ W.cell? ⟨q, 1, none⟩ = some (.int .i64 m) ∧ W.cell? ⟨q, 2, none⟩ = some (.int .i64 N) ∧ W.cell? ⟨q, 3, none⟩ = some (.slice ao M cap) ∧ W.cell? ⟨q, 4, none⟩ = some (.int .i64 p)) [1, 3, 5, 8] [] [0, 2, 4, 7, 10, 11, 12, 13, 14] [0, 1, 2, 3, 4, 5, 7, 8, 6, 9, 10, 11, 12, 13, 14] (by kernel_rfl) (by kernel_rfl) ?_
        (repeat (first | (refine wpZ_st (v := ?_) _ (by rfl) (by rfl) (by rfl) (fun W hW => ?_) (S3 _ _ hS) ?_; (rotate_left; (focus ((try dsimp only at hW); go_simp; (try with_reducible rfl); done))); try simp only [Act.put, List.getElem_toArray, List.getElem_cons_zero, List.getElem_cons_succ, List.setIfInBounds_toArray, List.set_cons_zero, List.set_cons_succ]) | (refine wpZ_pu (v := ?_) _ (by rfl) (by rfl) (by rfl) (by rfl) (fun W => ?_) ?_; (rotate_left; (focus ((try dsimp only at hW); go_simp; (try with_reducible rfl); done))); try simp only [Act.put, List.getElem_toArray, List.getElem_cons_zero, List.getElem_cons_succ, List.setIfInBounds_toArray, List.set_cons_zero, List.set_cons_succ]) | (refine wpZ_no _ (by rfl) (by rfl) (by rfl) (by rfl) ?_; try simp only [Act.put, List.getElem_toArray, List.getElem_cons_zero, List.getElem_cons_succ, List.setIfInBounds_toArray, List.set_cons_zero, List.set_cons_succ]) | (refine wpZ_noS _ (by rfl) (by rfl) (by rfl) (S3 _ _ hS) ?_; try simp only [Act.put, List.getElem_toArray, List.getElem_cons_zero, List.getElem_cons_succ, List.setIfInBounds_toArray, List.set_cons_zero, List.set_cons_succ])))
        refine wpZ_eff _ (by rfl) (by rfl) (by rfl) (by rfl) (fun K hK => ?_)
        go_simp
        refine (P0 _ _ (hS.arr [1, 0])).mono ?_
        rintro e w4 ⟨oa, oc, rfl, h4⟩
        (try dsimp only [Go.Own.front, Go.Own.arrA, Go.Own.atA, Go.Own.dropA, List.length_cons, List.length_nil, Nat.zero_add, Nat.reduceAdd] at h4)
        dsimp only
        (refine hK _ _ (fun hl => ?_) ?_; (first | (focus (cases hl; done)) | exact (S3 _ _ (h4.arr [2, 0, 1]))); clear hK K; try simp only [Act.put, List.getElem_toArray, List.getElem_cons_zero, List.getElem_cons_succ, List.setIfInBounds_toArray, List.set_cons_zero, List.set_cons_succ])
        (repeat (first | (refine wpZ_st (v := ?_) _ (by rfl) (by rfl) (by rfl) (fun W hW => ?_) (S3 _ _ (h4.arr [2, 0, 1])) ?_; (rotate_left; (focus ((try dsimp only at hW); go_simp; (try with_reducible rfl); done))); try simp only [Act.put, List.getElem_toArray, List.getElem_cons_zero, List.getElem_cons_succ, List.setIfInBounds_toArray, List.set_cons_zero, List.set_cons_succ]) | (refine wpZ_pu (v := ?_) _ (by rfl) (by rfl) (by rfl) (by rfl) (fun W => ?_) ?_; (rotate_left; (focus ((try dsimp only at hW); go_simp; (try with_reducible rfl); done))); try simp only [Act.put, List.getElem_toArray, List.getElem_cons_zero, List.getElem_cons_succ, List.setIfInBounds_toArray, List.set_cons_zero, List.set_cons_succ]) | (refine wpZ_no _ (by rfl) (by rfl) (by rfl) (by rfl) ?_; try simp only [Act.put, List.getElem_toArray, List.getElem_cons_zero, List.getElem_cons_succ, List.setIfInBounds_toArray, List.set_cons_zero, List.set_cons_succ]) | (refine wpZ_noS _ (by rfl) (by rfl) (by rfl) (S3 _ _ (h4.arr [2, 0, 1])) ?_; try simp only [Act.put, List.getElem_toArray, List.getElem_cons_zero, List.getElem_cons_succ, List.setIfInBounds_toArray, List.set_cons_zero, List.set_cons_succ])))
        refine wpZ_eff _ (by rfl) (by rfl) (by rfl) (by rfl) (fun K hK => ?_)
        go_simp
        refine (P1 oa oc _ _ h4).mono ?_
        rintro e w5 ⟨rfl, h5⟩
        dsimp only
        (refine hK _ _ (fun hl => ?_) ?_; (first | (focus (cases hl; done)) | exact (S3 _ _ (h5.arr [2, 0, 1]))); clear hK K; try simp only [Act.put, List.getElem_toArray, List.getElem_cons_zero, List.getElem_cons_succ, List.setIfInBounds_toArray, List.set_cons_zero, List.set_cons_succ])
        (repeat (first | (refine wpZ_st (v := ?_) _ (by rfl) (by rfl) (by rfl) (fun W hW => ?_) (S3 _ _ (h5.arr [2, 0, 1])) ?_; (rotate_left; (focus ((try dsimp only at hW); go_simp; (try with_reducible rfl); done))); try simp only [Act.put, List.getElem_toArray, List.getElem_cons_zero, List.getElem_cons_succ, List.setIfInBounds_toArray, List.set_cons_zero, List.set_cons_succ]) | (refine wpZ_pu (v := ?_) _ (by rfl) (by rfl) (by rfl) (by rfl) (fun W => ?_) ?_; (rotate_left; (focus ((try dsimp only at hW); go_simp; (try with_reducible rfl); done))); try simp only [Act.put, List.getElem_toArray, List.getElem_cons_zero, List.getElem_cons_succ, List.setIfInBounds_toArray, List.set_cons_zero, List.set_cons_succ]) | (refine wpZ_no _ (by rfl) (by rfl) (by rfl) (by rfl) ?_; try simp only [Act.put, List.getElem_toArray, List.getElem_cons_zero, List.getElem_cons_succ, List.setIfInBounds_toArray, List.set_cons_zero, List.set_cons_succ]) | (refine wpZ_noS _ (by rfl) (by rfl) (by rfl) (S3 _ _ (h5.arr [2, 0, 1])) ?_; try simp only [Act.put, List.getElem_toArray, List.getElem_cons_zero, List.getElem_cons_succ, List.setIfInBounds_toArray, List.set_cons_zero, List.set_cons_succ])))
        (simp only [wpZ])
        clear S3
        clear hS h2 hb g0 g1 g2 g3 g4 g5 g6
        go_wp2_with (first
          | (go_at_call 13; refine (num_any _ _ _ (Hold.start _)).mono ?_; rintro e w9 ⟨rfl, rfl⟩)
          | (go_at_call 14; refine (live_ok _ _ h5).mono ?_; rintro e w3 ⟨rfl, h3⟩))
        go_ret
        exact ⟨rfl, h3.drop.mv 1 |>.drop⟩
      · rw [he, hv] at P1
        obtain ⟨old, hold⟩ : ∃ old, old = ys[p + a] := ⟨_, rfl⟩
        have hset := valAt_set N B m ys p a (UInt8.ofNat l) hpa (by omega)
        rw [byte_of l hl, ← hold] at hset
        have hall2 := allB_set (a := a) hall (l := UInt8.ofNat l) (by rw [byte_of l hl]; exact hg)
        obtain ⟨ys', hys'⟩ : ∃ ys', ys' = ys.set (p + a) (UInt8.ofNat l) := ⟨_, rfl⟩
        rw [← hys'] at hset hall2
        have hyn' : ys'.length = M := by rw [hys']; simpa using hyn
        have he2 : corrE B m N ys' p = 0 ∧ corrV B m N ys' p = valAt N B m ys' p := by
          rcases corr_view B m N ys' p with ⟨h1, _⟩ | ⟨h1, _⟩ | ⟨_, _, _, _, m', hm', _, _, h⟩
          · omega
          · omega
          · obtain rfl : m = m' := by omega
            rcases h with ⟨h, _⟩ | ⟨k, hk, hk2, h⟩
            · omega
            · obtain rfl : p = k := by omega
              rcases h with ⟨h1, h2, h3⟩ | ⟨h1, h2, h3⟩
              · rw [hall2] at h1; cases h1
              · exact ⟨h2, h3⟩
        have P2 := fun oa oc w L h => corr_ok B m N hB ys' (ownA oa M oc ys') oa M oc (ownA_reads hyn') (by omega) p w L h
        rw [he2.1, he2.2] at P2
        have P3 := fun w L h => frow_ok B m hB w L h
        have hrn : rn B m = m := by unfold rn; rw [if_pos h2]; simp
        rw [hrn, h2] at P3
        have hvb := valAt_bound (N := N) (by omega) h4 B m h6 ys p
        have hvb2 := valAt_bound (N := N) (by omega) h4 B m h6 ys' p
        have hbit : (ub (rowU B m))[a]? = some (.int .u8 (bitOf B m a : Int)) := by
          have h1 : bitOf B m a < 2 := by unfold bitOf; omega
          rw [ub, rowU]
          simp only [List.map_map, List.getElem?_map, List.getElem?_range (show a < m by omega), Option.map_some, Function.comp]
          congr 2
          simp; omega
        have hb1 : bitOf B m a < 2 := by unfold bitOf; omega
        have hold2 : (old.toNat : Int) < 256 := by have := old.toNat_lt; omega
        have Hget : (ub ys)[p + a]? = some (.int .u8 (old.toNat : Int)) := by rw [hold]; exact ub_get ys (p + a) hpa
        generalize hbb : bitOf B m a = bb at *
        generalize valAt N B m ys p = va at *
        generalize valAt N B m ys' p = vb at *
        have HS := Lib.hid hset
        have HY := Lib.hid hyn
        have HYS := Lib.hid hys'
        have HG := Lib.hid Hget
        have HB := Lib.hid hbit
        have HO := Lib.hid (byte_of l hl)
        clear hset hyn hys' Hget hbit hall hall2 he he2 hv hold hrn hyn' hc hbb
        have hpi : (p : Int) + a < M := by have := HY.out; omega
        have W1 : IntKind.i64.wrap ((p : Int) + a) = (p : Int) + a := IntWalk.i64_in _ (by omega)
        have hp0 : 0 ≤ (p : Int) + a := by omega
        have hpt : ((p : Int) + a).toNat = p + a := by omega
        go_enter Try.func6, Try.ntmps6
        go_upto_region 1 with (fail)
        refine gen_world hb (fun w1 hb => ?_)
        generalize w.heap.size = q at *
        obtain ⟨g0, g1, g2, g3, g4, g5, g6⟩ := lookM hb
        go_upto_region 3 with (first
          | (go_at_call 17; refine (PR _ _ hb).mono ?_; rintro e w2 ⟨rfl, h2⟩; obtain ⟨g0, g1, g2, g3, g4, g5, g6⟩ := lookM h2))
        have hS := h2.drew
        obtain ⟨g0, g1, g2, g3, g4, g5, g6⟩ := lookM hS
        have S3 : ∀ w R, Hold w (cellsA q 47 (lookX B m N (.slice ao M cap) p tu th) :: R) → w.cell? ⟨q, 0, none⟩ = some (.int .u64 B) ∧ w.cell? ⟨q, 1, none⟩ = some (.int .i64 m) ∧ w.cell? ⟨q, 2, none⟩ = some (.int .i64 N) ∧ w.cell? ⟨q, 3, none⟩ = some (.slice ao M cap) ∧ w.cell? ⟨q, 4, none⟩ = some (.int .i64 p) := fun w R h => by
          obtain ⟨a0, a1, a2, a3, a4, -, -⟩ := lookM h
          exact ⟨a0, a1, a2, a3, a4⟩
        refine wp_region_Z (fun W => W.cell? ⟨q, 0, none⟩ = some (.int .u64 B) ∧ W.cell? ⟨q, 1, none⟩ = some (.int .i64 m) ∧ W.cell? ⟨q, 2, none⟩ = some (.int .i64 N) ∧ W.cell? ⟨q, 3, none⟩ = some (.slice ao M cap) ∧ W.cell? ⟨q, 4, none⟩ = some (.int .i64 p)) [1, 3, 5, 8] [] [0, 2, 4, 7, 10, 11, 12, 13, 14] [0, 1, 2, 3, 4, 5, 7, 8, 6, 9, 10, 11, 12, 13, 14] (by kernel_rfl) (by kernel_rfl) ?_
        (repeat (first | (refine wpZ_st (v := ?_) _ (by rfl) (by rfl) (by rfl) (fun W hW => ?_) (S3 _ _ hS) ?_; (rotate_left; (focus ((try dsimp only at hW); go_simp; (try with_reducible rfl); done))); try simp only [Act.put, List.getElem_toArray, List.getElem_cons_zero, List.getElem_cons_succ, List.setIfInBounds_toArray, List.set_cons_zero, List.set_cons_succ]) | (refine wpZ_pu (v := ?_) _ (by rfl) (by rfl) (by rfl) (by rfl) (fun W => ?_) ?_; (rotate_left; (focus ((try dsimp only at hW); go_simp; (try with_reducible rfl); done))); try simp only [Act.put, List.getElem_toArray, List.getElem_cons_zero, List.getElem_cons_succ, List.setIfInBounds_toArray, List.set_cons_zero, List.set_cons_succ]) | (refine wpZ_no _ (by rfl) (by rfl) (by rfl) (by rfl) ?_; try simp only [Act.put, List.getElem_toArray, List.getElem_cons_zero, List.getElem_cons_succ, List.setIfInBounds_toArray, List.set_cons_zero, List.set_cons_succ]) | (refine wpZ_noS _ (by rfl) (by rfl) (by rfl) (S3 _ _ hS) ?_; try simp only [Act.put, List.getElem_toArray, List.getElem_cons_zero, List.getElem_cons_succ, List.setIfInBounds_toArray, List.set_cons_zero, List.set_cons_succ])))
        refine wpZ_eff _ (by rfl) (by rfl) (by rfl) (by rfl) (fun K hK => ?_)
        go_simp
        refine (P0 _ _ (hS.arr [1, 0])).mono ?_
        rintro e w4 ⟨oa, oc, rfl, h4⟩
        (try dsimp only [Go.Own.front, Go.Own.arrA, Go.Own.atA, Go.Own.dropA, List.length_cons, List.length_nil, Nat.zero_add, Nat.reduceAdd] at h4)
        dsimp only
        (refine hK _ _ (fun hl => ?_) ?_; (first | (focus (cases hl; done)) | exact (S3 _ _ (h4.arr [2, 0, 1]))); clear hK K; try simp only [Act.put, List.getElem_toArray, List.getElem_cons_zero, List.getElem_cons_succ, List.setIfInBounds_toArray, List.set_cons_zero, List.set_cons_succ])
        (repeat (first | (refine wpZ_st (v := ?_) _ (by rfl) (by rfl) (by rfl) (fun W hW => ?_) (S3 _ _ (h4.arr [2, 0, 1])) ?_; (rotate_left; (focus ((try dsimp only at hW); go_simp; (try with_reducible rfl); done))); try simp only [Act.put, List.getElem_toArray, List.getElem_cons_zero, List.getElem_cons_succ, List.setIfInBounds_toArray, List.set_cons_zero, List.set_cons_succ]) | (refine wpZ_pu (v := ?_) _ (by rfl) (by rfl) (by rfl) (by rfl) (fun W => ?_) ?_; (rotate_left; (focus ((try dsimp only at hW); go_simp; (try with_reducible rfl); done))); try simp only [Act.put, List.getElem_toArray, List.getElem_cons_zero, List.getElem_cons_succ, List.setIfInBounds_toArray, List.set_cons_zero, List.set_cons_succ]) | (refine wpZ_no _ (by rfl) (by rfl) (by rfl) (by rfl) ?_; try simp only [Act.put, List.getElem_toArray, List.getElem_cons_zero, List.getElem_cons_succ, List.setIfInBounds_toArray, List.set_cons_zero, List.set_cons_succ]) | (refine wpZ_noS _ (by rfl) (by rfl) (by rfl) (S3 _ _ (h4.arr [2, 0, 1])) ?_; try simp only [Act.put, List.getElem_toArray, List.getElem_cons_zero, List.getElem_cons_succ, List.setIfInBounds_toArray, List.set_cons_zero, List.set_cons_succ])))
        refine wpZ_eff _ (by rfl) (by rfl) (by rfl) (by rfl) (fun K hK => ?_)
        go_simp
        refine (P1 oa oc _ _ h4).mono ?_
        rintro e w5 ⟨rfl, h5⟩
        dsimp only
        (refine hK _ _ (fun hl => ?_) ?_; (first | (focus (cases hl; done)) | exact (S3 _ _ (h5.arr [2, 0, 1]))); clear hK K; try simp only [Act.put, List.getElem_toArray, List.getElem_cons_zero, List.getElem_cons_succ, List.setIfInBounds_toArray, List.set_cons_zero, List.set_cons_succ])
        (repeat (first | (refine wpZ_st (v := ?_) _ (by rfl) (by rfl) (by rfl) (fun W hW => ?_) (S3 _ _ (h5.arr [2, 0, 1])) ?_; (rotate_left; (focus ((try dsimp only at hW); go_simp; (try with_reducible rfl); done))); try simp only [Act.put, List.getElem_toArray, List.getElem_cons_zero, List.getElem_cons_succ, List.setIfInBounds_toArray, List.set_cons_zero, List.set_cons_succ]) | (refine wpZ_pu (v := ?_) _ (by rfl) (by rfl) (by rfl) (by rfl) (fun W => ?_) ?_; (rotate_left; (focus ((try dsimp only at hW); go_simp; (try with_reducible rfl); done))); try simp only [Act.put, List.getElem_toArray, List.getElem_cons_zero, List.getElem_cons_succ, List.setIfInBounds_toArray, List.set_cons_zero, List.set_cons_succ]) | (refine wpZ_no _ (by rfl) (by rfl) (by rfl) (by rfl) ?_; try simp only [Act.put, List.getElem_toArray, List.getElem_cons_zero, List.getElem_cons_succ, List.setIfInBounds_toArray, List.set_cons_zero, List.set_cons_succ]) | (refine wpZ_noS _ (by rfl) (by rfl) (by rfl) (S3 _ _ (h5.arr [2, 0, 1])) ?_; try simp only [Act.put, List.getElem_toArray, List.getElem_cons_zero, List.getElem_cons_succ, List.setIfInBounds_toArray, List.set_cons_zero, List.set_cons_succ])))
        (simp only [wpZ])
        clear S3
        clear hS h2 hb g0 g1 g2 g3 g4 g5 g6 PR
        have hx := h5.arr [2, 1, 0]
        (try dsimp only [Go.Own.front, Go.Own.arrA, Go.Own.atA, Go.Own.dropA, List.length_cons, List.length_nil, Nat.zero_add, Nat.reduceAdd] at hx)
        obtain ⟨g0, g1, g2, g3, g4, g5, g6⟩ := lookM hx
        go_upto_region 7 with (first
          | (go_at_call 13; refine (num_any _ _ _ (Hold.start _)).mono ?_; rintro e w9 ⟨rfl, rfl⟩)
          | (go_at_call 20; refine (P0 _ _ (hx.arr [1, 0, 2])).mono ?_; rintro e w3 ⟨ob, od, rfl, h3⟩))
        (try dsimp only [Go.Own.front, Go.Own.arrA, Go.Own.atA, Go.Own.dropA, List.length_cons, List.length_nil, Nat.zero_add, Nat.reduceAdd] at h3)
        obtain ⟨k0, k1, k2, k3, k4, k5, k6⟩ := lookM (h3.arr [2, 0, 1, 3])
        obtain ⟨rb, ro, hob, hct, hft⟩ := Hold.at (show Hold w3 (rowA 5 1 ob (M + 2) od (ub ys ++ [.int .u8 201, .int .u8 202]) :: _) from h3) (by omega)
        subst hob
        have c0 : w3.cell? ⟨rb, ro + (p + a), none⟩ = some (.int .u8 (old.toNat : Int)) := by
          rw [hct (p + a) (by omega), List.getElem?_append_left (by simp; have := HY.out; omega)]; exact HG.out
        have f0 := hft (ro + (p + a))
        have HX := ownA_set rfl HY.out h3 (p + a) (by omega) (UInt8.ofNat l)
        rw [HO.out, ← HYS.out] at HX
        clear hct hft g0 g1 g2 g3 g4 g5 g6
        go_upto_region 9 with (fail)
        refine gen_world HX (fun w6 HX => ?_)
        clear h3 hx h5 c0 f0 k0 k1 k2 k3 k4 k5 k6
        obtain ⟨k0, k1, k2, k3, k4, k5, k6⟩ := lookM (HX.arr [2, 0, 1, 3])
        go_upto_region 10 with (go_at_call 19; refine (P2 _ od _ _ HX).mono ?_; rintro e w7 ⟨rfl, h7⟩)
        clear k0 k1 k2 k3 k4 k5 k6
        obtain ⟨k0, k1, k2, k3, k4, k5, k6⟩ := lookM (h7.arr [2, 0, 1, 3])
        go_upto_region 11 with (go_at_call 18; refine (P3 _ _ h7).mono ?_; rintro e w8 ⟨ar, rfl, h8⟩)
        clear k0 k1 k2 k3 k4 k5 k6
        obtain ⟨k0, k1, k2, k3, k4, k5, k6⟩ := lookM (h8.arr [3, 0, 1, 2, 4])
        obtain ⟨sb, so, rfl, hct, -⟩ := h8.at (by omega)
        have c1 : w8.cell? ⟨sb, so + a, none⟩ = some (.int .u8 (bb : Int)) := (hct a (by omega)).trans HB.out
        have hset := HS.out
        clear hct
        go_upto_region 13 with (go_at_call 13; refine (num_any _ _ _ (Hold.start _)).mono ?_; rintro e w9 ⟨rfl, rfl⟩)
        clear k0 k1 k2 k3 k4 k5 k6 h7 HX
        obtain rfl | rfl : bb = 0 ∨ bb = 1 := by omega
        · have hd : ((vb - va : Int) == 2 * -((l : Int) - (old.toNat : Int))) = true := by
            rw [beq_iff_eq, hset, if_pos rfl]; omega
          clear hset
          have ho0 : 0 ≤ (old.toNat : Int) := by omega
          have hl1 : (l : Int) < 256 := by omega
          generalize (old.toNat : Int) = od1 at *
          go_wp2_with (go_at_call 14; refine (live_ok _ _ h8).mono ?_; rintro e w9 ⟨rfl, h9⟩)
          go_ret
          exact ⟨rfl, (h9.arr [0, 1, 3, 4, 2]).drop.drop.drop.drop⟩
        · have hd : ((vb - va : Int) == 2 * ((l : Int) - (old.toNat : Int))) = true := by
            rw [beq_iff_eq, hset, if_neg (by omega)]; omega
          clear hset
          have ho0 : 0 ≤ (old.toNat : Int) := by omega
          have hl1 : (l : Int) < 256 := by omega
          generalize (old.toNat : Int) = od1 at *
          go_wp2_with (go_at_call 14; refine (live_ok _ _ h8).mono ?_; rintro e w9 ⟨rfl, h9⟩)
          go_ret
          exact ⟨rfl, (h9.arr [0, 1, 3, 4, 2]).drop.drop.drop.drop⟩
    · have hg2 : fr < 0 ∨ 0 ≤ fr ∧ (M : Int) - m < fr ∨ 0 ≤ fr ∧ fr ≤ (M : Int) - m ∧ pt < 0 ∨ 0 ≤ fr ∧ fr ≤ (M : Int) - m ∧ 0 ≤ pt ∧ (m : Int) ≤ pt ∨ 0 ≤ fr ∧ fr ≤ (M : Int) - m ∧ 0 ≤ pt ∧ pt < m ∧ N ≤ (l : Int) := by omega
      clear hg hc hyn hI
      rcases hg2 with hg | ⟨ha, hg⟩ | ⟨ha, hb2, hg⟩ | ⟨ha, hb2, hc2, hg⟩ | ⟨ha, hb2, hc2, hd2, hg⟩
      all_goals
        go_enter Try.func6, Try.ntmps6
        go_upto_region 1 with (fail)
        refine gen_world hb (fun w1 hb => ?_)
        generalize w.heap.size = q at *
        obtain ⟨g0, g1, g2, g3, g4, g5, g6⟩ := lookM hb
        go_wp2_with (first
          | (go_at_call 17; refine (PR _ _ hb).mono ?_; rintro e w2 ⟨rfl, h2⟩; obtain ⟨g0, g1, g2, g3, g4, g5, g6⟩ := lookM h2)
          | (go_at_call 14; refine (live_ok _ _ h2).mono ?_; rintro e w3 ⟨rfl, h3⟩))
        go_ret
        exact ⟨rfl, h3.drop⟩
  · rw [right_no hc] at PR
    clear hc hyn hI
    go_enter Try.func6, Try.ntmps6
    go_upto_region 1 with (fail)
    refine gen_world hb (fun w1 hb => ?_)
    generalize w.heap.size = q at *
    obtain ⟨g0, g1, g2, g3, g4, g5, g6⟩ := lookM hb
    go_wp2_with (first
      | (go_at_call 17; refine (PR _ _ hb).mono ?_; rintro e w2 ⟨rfl, h2⟩)
      | (go_at_call 14; refine (live_ok _ _ h2).mono ?_; rintro e w3 ⟨rfl, h3⟩))
    go_ret
    exact ⟨rfl, h3.drop⟩

end Go.Proofs.Ytibmokkalloabaa
