/- Size of buckets; exact errors of New and Put. -/
import Derived.Test.YtpffofliemooiaaBuX
open Go.RowKit Go.Own
namespace Go.Proofs.Ytpffofliemooiaa

def sizeV (S : BS) (v : Int) : Nat := if S.base ≤ v ∧ v - S.base < S.rows.length then (S.rows.getD (v - S.base).toNat []).length else 0


set_option maxRecDepth 20000 in
theorem size_low (b : Nat) (S : BS) (hc : 1 ≤ S.cp) (v : Int) (w : World) (L : List Asn) (h : Hold w (bkA b S :: L)) (hlt : v < S.base) : Calls Try.prog 38 #[.pointer (some ⟨b, 0, none⟩), .int .i64 v] w fun e w' => e = .returned (.int .i64 0) ∧ Hold w' (bkA b S :: L) := by
  obtain ⟨ro, rc, vs, hl, h1⟩ := bk_open h
  obtain ⟨g0, g1, g2, g3, g4, g5, g6, g7, g8, g9, g10⟩ := bkM h1.drew
  have P := none_ok b S hc w.drew g3
  clear h1 hl
  go_enter Try.func38, Try.ntmps38
  go_upto_region 1 with (fail)
  refine wp_region_Z (fun W => W.cell? ⟨b, 4, none⟩ = some (.int .i64 S.base)) [7, 15, 20, 29, 33] [] [0, 2, 3, 4, 5, 6, 8, 9, 10, 11, 12, 13, 14, 16, 17, 18, 19, 21, 22, 23, 24, 25, 26, 27, 28, 30, 31, 32, 35, 36] [0, 1, 2, 3, 4, 5, 6, 7, 8, 9, 10, 11, 12, 13, 14, 15, 16, 17, 18, 19, 20, 21, 22, 23, 24, 25, 26, 27, 28, 29, 30, 31, 32, 33, 34, 35, 36] (by kernel_rfl) (by kernel_rfl) ?_
  (repeat (first | (refine wpZ_st (v := ?_) _ (by rfl) (by rfl) (by rfl) (fun W hW => ?_) (by exact g4) ?_; (rotate_left; (focus ((try dsimp only at hW); go_simp; (try with_reducible rfl); done))); try simp only [Act.put, List.getElem_toArray, List.getElem_cons_zero, List.getElem_cons_succ, List.setIfInBounds_toArray, List.set_cons_zero, List.set_cons_succ]) | (refine wpZ_pu (v := ?_) _ (by rfl) (by rfl) (by rfl) (by rfl) (fun W => ?_) ?_; (rotate_left; (focus ((try dsimp only at hW); go_simp; (try with_reducible rfl); done))); try simp only [Act.put, List.getElem_toArray, List.getElem_cons_zero, List.getElem_cons_succ, List.setIfInBounds_toArray, List.set_cons_zero, List.set_cons_succ]) | (refine wpZ_no _ (by rfl) (by rfl) (by rfl) (by rfl) ?_; try simp only [Act.put, List.getElem_toArray, List.getElem_cons_zero, List.getElem_cons_succ, List.setIfInBounds_toArray, List.set_cons_zero, List.set_cons_succ]) | (refine wpZ_noS _ (by rfl) (by rfl) (by rfl) (by exact g4) ?_; try simp only [Act.put, List.getElem_toArray, List.getElem_cons_zero, List.getElem_cons_succ, List.setIfInBounds_toArray, List.set_cons_zero, List.set_cons_succ])))
  refine wpZ_eff _ (by rfl) (by rfl) (by rfl) (by rfl) (fun K hK => ?_)
  go_simp
  refine P.mono ?_
  rintro e w1 ⟨rfl, rfl⟩
  dsimp only
  (refine hK _ _ (fun hl => ?_) ?_; (first | (focus (cases hl; done)) | exact g4); clear hK K; try simp only [Act.put, List.getElem_toArray, List.getElem_cons_zero, List.getElem_cons_succ, List.setIfInBounds_toArray, List.set_cons_zero, List.set_cons_succ])
  (repeat (first | (refine wpZ_st (v := ?_) _ (by rfl) (by rfl) (by rfl) (fun W hW => ?_) (by exact g4) ?_; (rotate_left; (focus ((try dsimp only at hW); go_simp; (try with_reducible rfl); done))); try simp only [Act.put, List.getElem_toArray, List.getElem_cons_zero, List.getElem_cons_succ, List.setIfInBounds_toArray, List.set_cons_zero, List.set_cons_succ]) | (refine wpZ_pu (v := ?_) _ (by rfl) (by rfl) (by rfl) (by rfl) (fun W => ?_) ?_; (rotate_left; (focus ((try dsimp only at hW); go_simp; (try with_reducible rfl); done))); try simp only [Act.put, List.getElem_toArray, List.getElem_cons_zero, List.getElem_cons_succ, List.setIfInBounds_toArray, List.set_cons_zero, List.set_cons_succ]) | (refine wpZ_no _ (by rfl) (by rfl) (by rfl) (by rfl) ?_; try simp only [Act.put, List.getElem_toArray, List.getElem_cons_zero, List.getElem_cons_succ, List.setIfInBounds_toArray, List.set_cons_zero, List.set_cons_succ]) | (refine wpZ_noS _ (by rfl) (by rfl) (by rfl) (by exact g4) ?_; try simp only [Act.put, List.getElem_toArray, List.getElem_cons_zero, List.getElem_cons_succ, List.setIfInBounds_toArray, List.set_cons_zero, List.set_cons_succ])))
  refine wpZ_noE _ (by rfl) (by rfl) (by rfl) (by rfl) (fun _ => g4) ?_
  try simp only [Act.put, List.getElem_toArray, List.getElem_cons_zero, List.getElem_cons_succ, List.setIfInBounds_toArray, List.set_cons_zero, List.set_cons_succ]
  (repeat (first | (refine wpZ_st (v := ?_) _ (by rfl) (by rfl) (by rfl) (fun W hW => ?_) (by exact g4) ?_; (rotate_left; (focus ((try dsimp only at hW); go_simp; (try with_reducible rfl); done))); try simp only [Act.put, List.getElem_toArray, List.getElem_cons_zero, List.getElem_cons_succ, List.setIfInBounds_toArray, List.set_cons_zero, List.set_cons_succ]) | (refine wpZ_pu (v := ?_) _ (by rfl) (by rfl) (by rfl) (by rfl) (fun W => ?_) ?_; (rotate_left; (focus ((try dsimp only at hW); go_simp; (try with_reducible rfl); done))); try simp only [Act.put, List.getElem_toArray, List.getElem_cons_zero, List.getElem_cons_succ, List.setIfInBounds_toArray, List.set_cons_zero, List.set_cons_succ]) | (refine wpZ_no _ (by rfl) (by rfl) (by rfl) (by rfl) ?_; try simp only [Act.put, List.getElem_toArray, List.getElem_cons_zero, List.getElem_cons_succ, List.setIfInBounds_toArray, List.set_cons_zero, List.set_cons_succ]) | (refine wpZ_noS _ (by rfl) (by rfl) (by rfl) (by exact g4) ?_; try simp only [Act.put, List.getElem_toArray, List.getElem_cons_zero, List.getElem_cons_succ, List.setIfInBounds_toArray, List.set_cons_zero, List.set_cons_succ])))
  (simp only [wpZ])
  go_wp2
  go_ret
  exact ⟨rfl, h.drew⟩

set_option maxHeartbeats 1000000 in
set_option maxRecDepth 20000 in
theorem size_far (b : Nat) (S : BS) (hc : 1 ≤ S.cp) (hd : 1 ≤ S.d) (hhi : I64 S.hi) (her : (S.rows.length : Int) = S.hi / S.d - S.base + 1) (v : Int) (w : World) (L : List Asn) (h : Hold w (bkA b S :: L)) (hge : S.base ≤ v) (hfar : (S.rows.length : Int) ≤ v - S.base) : Calls Try.prog 38 #[.pointer (some ⟨b, 0, none⟩), .int .i64 v] w fun e w' => e = .returned (.int .i64 0) ∧ Hold w' (bkA b S :: L) := by
  obtain ⟨ro, rc, vs, hl, h1⟩ := bk_open h
  obtain ⟨g0, g1, g2, g3, g4, g5, g6, g7, g8, g9, g10⟩ := bkM h1.drew
  have P := none_ok b S hc w.drew g3
  have PI := fun w => index_ok S.hi S.d hhi hd w
  obtain ⟨y, hy⟩ : ∃ y, y = S.hi / S.d := ⟨_, rfl⟩
  obtain ⟨t, ht⟩ : ∃ t, t = IntKind.i64.wrap (v - S.base) := ⟨_, rfl⟩
  rw [← hy] at PI her
  have hvy : y < v := by omega
  have hnlt : ¬ v < S.base := by omega
  obtain ⟨k, hk⟩ : ∃ k, S.rows.length = k := ⟨_, rfl⟩
  rw [hk] at g5
  have ht' := ht.symm
  have hk0 : 0 ≤ (k : Int) := by omega
  clear h1 hl her hhi hd hy ht hk hfar
  by_cases hkt : (k : Int) ≤ t
  · go_enter Try.func38, Try.ntmps38
    go_upto_region 1 with (fail)
    refine wp_region_Z (fun W => W.cell? ⟨b, 4, none⟩ = some (.int .i64 S.base) ∧ W.cell? ⟨b, 5, none⟩ = some (.slice ro k rc)) [7, 15, 20, 29, 33] [] [0, 2, 3, 4, 5, 6, 8, 9, 10, 11, 12, 13, 14, 16, 17, 18, 19, 21, 22, 23, 24, 25, 26, 27, 28, 30, 31, 32, 35, 36] [0, 1, 2, 3, 4, 5, 6, 7, 8, 9, 10, 11, 12, 13, 14, 15, 16, 17, 18, 19, 20, 21, 22, 23, 24, 25, 26, 27, 28, 29, 30, 31, 32, 33, 34, 35, 36] (by kernel_rfl) (by kernel_rfl) ?_
    (repeat (first | (refine wpZ_st (v := ?_) _ (by rfl) (by rfl) (by rfl) (fun W hW => ?_) (by exact ⟨g4, g5⟩) ?_; (rotate_left; (focus ((try dsimp only at hW); go_simp; (try with_reducible rfl); done))); try simp only [Act.put, List.getElem_toArray, List.getElem_cons_zero, List.getElem_cons_succ, List.setIfInBounds_toArray, List.set_cons_zero, List.set_cons_succ]) | (refine wpZ_pu (v := ?_) _ (by rfl) (by rfl) (by rfl) (by rfl) (fun W => ?_) ?_; (rotate_left; (focus ((try dsimp only at hW); go_simp; (try with_reducible rfl); done))); try simp only [Act.put, List.getElem_toArray, List.getElem_cons_zero, List.getElem_cons_succ, List.setIfInBounds_toArray, List.set_cons_zero, List.set_cons_succ]) | (refine wpZ_no _ (by rfl) (by rfl) (by rfl) (by rfl) ?_; try simp only [Act.put, List.getElem_toArray, List.getElem_cons_zero, List.getElem_cons_succ, List.setIfInBounds_toArray, List.set_cons_zero, List.set_cons_succ]) | (refine wpZ_noS _ (by rfl) (by rfl) (by rfl) (by exact ⟨g4, g5⟩) ?_; try simp only [Act.put, List.getElem_toArray, List.getElem_cons_zero, List.getElem_cons_succ, List.setIfInBounds_toArray, List.set_cons_zero, List.set_cons_succ])))
    refine wpZ_eff _ (by rfl) (by rfl) (by rfl) (by rfl) (fun K hK => ?_)
    go_simp
    refine P.mono ?_
    rintro e w1 ⟨rfl, rfl⟩
    dsimp only
    (refine hK _ _ (fun hl => ?_) ?_; (first | (focus (cases hl; done)) | exact ⟨g4, g5⟩); clear hK K; try simp only [Act.put, List.getElem_toArray, List.getElem_cons_zero, List.getElem_cons_succ, List.setIfInBounds_toArray, List.set_cons_zero, List.set_cons_succ])
    (repeat (first | (refine wpZ_st (v := ?_) _ (by rfl) (by rfl) (by rfl) (fun W hW => ?_) (by exact ⟨g4, g5⟩) ?_; (rotate_left; (focus ((try dsimp only at hW); go_simp; (try with_reducible rfl); done))); try simp only [Act.put, List.getElem_toArray, List.getElem_cons_zero, List.getElem_cons_succ, List.setIfInBounds_toArray, List.set_cons_zero, List.set_cons_succ]) | (refine wpZ_pu (v := ?_) _ (by rfl) (by rfl) (by rfl) (by rfl) (fun W => ?_) ?_; (rotate_left; (focus ((try dsimp only at hW); go_simp; (try with_reducible rfl); done))); try simp only [Act.put, List.getElem_toArray, List.getElem_cons_zero, List.getElem_cons_succ, List.setIfInBounds_toArray, List.set_cons_zero, List.set_cons_succ]) | (refine wpZ_no _ (by rfl) (by rfl) (by rfl) (by rfl) ?_; try simp only [Act.put, List.getElem_toArray, List.getElem_cons_zero, List.getElem_cons_succ, List.setIfInBounds_toArray, List.set_cons_zero, List.set_cons_succ]) | (refine wpZ_noS _ (by rfl) (by rfl) (by rfl) (by exact ⟨g4, g5⟩) ?_; try simp only [Act.put, List.getElem_toArray, List.getElem_cons_zero, List.getElem_cons_succ, List.setIfInBounds_toArray, List.set_cons_zero, List.set_cons_succ])))
    refine wpZ_noE _ (by rfl) (by rfl) (by rfl) (by rfl) (fun _ => ⟨g4, g5⟩) ?_
    try simp only [Act.put, List.getElem_toArray, List.getElem_cons_zero, List.getElem_cons_succ, List.setIfInBounds_toArray, List.set_cons_zero, List.set_cons_succ]
    (repeat (first | (refine wpZ_st (v := ?_) _ (by rfl) (by rfl) (by rfl) (fun W hW => ?_) (by exact ⟨g4, g5⟩) ?_; (rotate_left; (focus ((try dsimp only at hW); go_simp; (try with_reducible rfl); done))); try simp only [Act.put, List.getElem_toArray, List.getElem_cons_zero, List.getElem_cons_succ, List.setIfInBounds_toArray, List.set_cons_zero, List.set_cons_succ]) | (refine wpZ_pu (v := ?_) _ (by rfl) (by rfl) (by rfl) (by rfl) (fun W => ?_) ?_; (rotate_left; (focus ((try dsimp only at hW); go_simp; (try with_reducible rfl); done))); try simp only [Act.put, List.getElem_toArray, List.getElem_cons_zero, List.getElem_cons_succ, List.setIfInBounds_toArray, List.set_cons_zero, List.set_cons_succ]) | (refine wpZ_no _ (by rfl) (by rfl) (by rfl) (by rfl) ?_; try simp only [Act.put, List.getElem_toArray, List.getElem_cons_zero, List.getElem_cons_succ, List.setIfInBounds_toArray, List.set_cons_zero, List.set_cons_succ]) | (refine wpZ_noS _ (by rfl) (by rfl) (by rfl) (by exact ⟨g4, g5⟩) ?_; try simp only [Act.put, List.getElem_toArray, List.getElem_cons_zero, List.getElem_cons_succ, List.setIfInBounds_toArray, List.set_cons_zero, List.set_cons_succ])))
    (simp only [wpZ])
    go_wp2
    go_ret
    exact ⟨rfl, h.drew⟩
  · have hkt2 : t < (k : Int) := by omega
    go_enter Try.func38, Try.ntmps38
    go_upto_region 1 with (fail)
    refine wp_region_Z (fun W => W.cell? ⟨b, 4, none⟩ = some (.int .i64 S.base) ∧ W.cell? ⟨b, 5, none⟩ = some (.slice ro k rc) ∧ W.cell? ⟨b, 2, none⟩ = some (.int .i64 S.hi) ∧ W.cell? ⟨b, 0, none⟩ = some (.int .i64 S.d)) [7, 15, 20, 29, 33] [] [0, 2, 3, 4, 5, 6, 8, 9, 10, 11, 12, 13, 14, 16, 17, 18, 19, 21, 22, 23, 24, 25, 26, 27, 28, 30, 31, 32, 35, 36] [0, 1, 2, 3, 4, 5, 6, 7, 8, 9, 10, 11, 12, 13, 14, 15, 16, 17, 18, 19, 20, 21, 22, 23, 24, 25, 26, 27, 28, 29, 30, 31, 32, 33, 34, 35, 36] (by kernel_rfl) (by kernel_rfl) ?_
    (repeat (first | (refine wpZ_st (v := ?_) _ (by rfl) (by rfl) (by rfl) (fun W hW => ?_) (by exact ⟨g4, g5, g2, g0⟩) ?_; (rotate_left; (focus ((try dsimp only at hW); go_simp; (try with_reducible rfl); done))); try simp only [Act.put, List.getElem_toArray, List.getElem_cons_zero, List.getElem_cons_succ, List.setIfInBounds_toArray, List.set_cons_zero, List.set_cons_succ]) | (refine wpZ_pu (v := ?_) _ (by rfl) (by rfl) (by rfl) (by rfl) (fun W => ?_) ?_; (rotate_left; (focus ((try dsimp only at hW); go_simp; (try with_reducible rfl); done))); try simp only [Act.put, List.getElem_toArray, List.getElem_cons_zero, List.getElem_cons_succ, List.setIfInBounds_toArray, List.set_cons_zero, List.set_cons_succ]) | (refine wpZ_no _ (by rfl) (by rfl) (by rfl) (by rfl) ?_; try simp only [Act.put, List.getElem_toArray, List.getElem_cons_zero, List.getElem_cons_succ, List.setIfInBounds_toArray, List.set_cons_zero, List.set_cons_succ]) | (refine wpZ_noS _ (by rfl) (by rfl) (by rfl) (by exact ⟨g4, g5, g2, g0⟩) ?_; try simp only [Act.put, List.getElem_toArray, List.getElem_cons_zero, List.getElem_cons_succ, List.setIfInBounds_toArray, List.set_cons_zero, List.set_cons_succ])))
    refine wpZ_eff _ (by rfl) (by rfl) (by rfl) (by rfl) (fun K hK => ?_)
    go_simp
    refine P.mono ?_
    rintro e w1 ⟨rfl, rfl⟩
    dsimp only
    (refine hK _ _ (fun hl => ?_) ?_; (first | (focus (cases hl; done)) | exact ⟨g4, g5, g2, g0⟩); clear hK K; try simp only [Act.put, List.getElem_toArray, List.getElem_cons_zero, List.getElem_cons_succ, List.setIfInBounds_toArray, List.set_cons_zero, List.set_cons_succ])
    (repeat (first | (refine wpZ_st (v := ?_) _ (by rfl) (by rfl) (by rfl) (fun W hW => ?_) (by exact ⟨g4, g5, g2, g0⟩) ?_; (rotate_left; (focus ((try dsimp only at hW); go_simp; (try with_reducible rfl); done))); try simp only [Act.put, List.getElem_toArray, List.getElem_cons_zero, List.getElem_cons_succ, List.setIfInBounds_toArray, List.set_cons_zero, List.set_cons_succ]) | (refine wpZ_pu (v := ?_) _ (by rfl) (by rfl) (by rfl) (by rfl) (fun W => ?_) ?_; (rotate_left; (focus ((try dsimp only at hW); go_simp; (try with_reducible rfl); done))); try simp only [Act.put, List.getElem_toArray, List.getElem_cons_zero, List.getElem_cons_succ, List.setIfInBounds_toArray, List.set_cons_zero, List.set_cons_succ]) | (refine wpZ_no _ (by rfl) (by rfl) (by rfl) (by rfl) ?_; try simp only [Act.put, List.getElem_toArray, List.getElem_cons_zero, List.getElem_cons_succ, List.setIfInBounds_toArray, List.set_cons_zero, List.set_cons_succ]) | (refine wpZ_noS _ (by rfl) (by rfl) (by rfl) (by exact ⟨g4, g5, g2, g0⟩) ?_; try simp only [Act.put, List.getElem_toArray, List.getElem_cons_zero, List.getElem_cons_succ, List.setIfInBounds_toArray, List.set_cons_zero, List.set_cons_succ])))
    refine wpZ_eff _ (by rfl) (by rfl) (by rfl) (by rfl) (fun K hK => ?_)
    go_simp
    refine (PI _).mono ?_
    rintro e w1 ⟨rfl, rfl⟩
    dsimp only
    (refine hK _ _ (fun hl => ?_) ?_; (first | (focus (cases hl; done)) | exact ⟨g4, g5, g2, g0⟩); clear hK K; try simp only [Act.put, List.getElem_toArray, List.getElem_cons_zero, List.getElem_cons_succ, List.setIfInBounds_toArray, List.set_cons_zero, List.set_cons_succ])
    (repeat (first | (refine wpZ_st (v := ?_) _ (by rfl) (by rfl) (by rfl) (fun W hW => ?_) (by exact ⟨g4, g5, g2, g0⟩) ?_; (rotate_left; (focus ((try dsimp only at hW); go_simp; (try with_reducible rfl); done))); try simp only [Act.put, List.getElem_toArray, List.getElem_cons_zero, List.getElem_cons_succ, List.setIfInBounds_toArray, List.set_cons_zero, List.set_cons_succ]) | (refine wpZ_pu (v := ?_) _ (by rfl) (by rfl) (by rfl) (by rfl) (fun W => ?_) ?_; (rotate_left; (focus ((try dsimp only at hW); go_simp; (try with_reducible rfl); done))); try simp only [Act.put, List.getElem_toArray, List.getElem_cons_zero, List.getElem_cons_succ, List.setIfInBounds_toArray, List.set_cons_zero, List.set_cons_succ]) | (refine wpZ_no _ (by rfl) (by rfl) (by rfl) (by rfl) ?_; try simp only [Act.put, List.getElem_toArray, List.getElem_cons_zero, List.getElem_cons_succ, List.setIfInBounds_toArray, List.set_cons_zero, List.set_cons_succ]) | (refine wpZ_noS _ (by rfl) (by rfl) (by rfl) (by exact ⟨g4, g5, g2, g0⟩) ?_; try simp only [Act.put, List.getElem_toArray, List.getElem_cons_zero, List.getElem_cons_succ, List.setIfInBounds_toArray, List.set_cons_zero, List.set_cons_succ])))
    (simp only [wpZ])
    go_wp2
    go_ret
    exact ⟨rfl, h.drew⟩

set_option maxHeartbeats 1000000 in
set_option maxRecDepth 20000 in
theorem size_in (b : Nat) (S : BS) (hc : 1 ≤ S.cp) (hR : S.rows.length ≤ 65536) (hd : 1 ≤ S.d) (hhi : I64 S.hi) (her : (S.rows.length : Int) = S.hi / S.d - S.base + 1) (v : Int) (w : World) (L : List Asn) (h : Hold w (bkA b S :: L)) (j : Nat) (hj : v = (j : Int) + S.base) (hjr : j < S.rows.length) : Calls Try.prog 38 #[.pointer (some ⟨b, 0, none⟩), .int .i64 v] w fun e w' => e = .returned (.int .i64 (S.rows.getD j []).length) ∧ Hold w' (bkA b S :: L) := by
  obtain ⟨ro, rc, vs, hl, h1⟩ := bk_open h
  have h2 := h1.drew
  obtain ⟨g0, g1, g2, g3, g4, g5, g6, g7, g8, g9, g10⟩ := bkM h2
  have P := none_ok b S hc w.drew g3
  have PI := fun w => index_ok S.hi S.d hhi hd w
  obtain ⟨y, hy⟩ : ∃ y, y = S.hi / S.d := ⟨_, rfl⟩
  rw [← hy] at PI her
  obtain ⟨k, hk⟩ : ∃ k, S.rows.length = k := ⟨_, rfl⟩
  rw [hk] at g5
  obtain ⟨xs, hxs⟩ : ∃ xs, S.rows[j]? = some xs := ⟨S.rows[j], List.getElem?_eq_getElem hjr⟩
  have hgd : S.rows.getD j [] = xs := by simp [List.getD, hxs]
  obtain ⟨⟨va, vc⟩, -, hsl, -⟩ := sl_get hl hxs
  obtain ⟨rb, rp, rfl, hct, -⟩ := (h2.mv 1).at (by omega)
  have cj : w.drew.cell? ⟨rb, rp + j, none⟩ = some (.slice va xs.length vc) := by rw [hct j (by omega)]; exact hsl
  have W1 : IntKind.i64.wrap (v - S.base) = j := by rw [show v - S.base = (j : Int) by omega]; exact IntWalk.i64_in _ (by omega)
  have hvy : v ≤ y := by omega
  have hnlt : ¬ v < S.base := by omega
  have hjk : (j : Int) < k := by omega
  have hj0 : 0 ≤ (j : Int) := by omega
  have hjkN : ¬ k ≤ j := by omega
  have hjkD : decide (k ≤ j) = false := by simp; omega
  rw [hgd]
  clear h1 h2 hl her hhi hd hR hy hk hj hjr hxs hgd hsl hct
  go_enter Try.func38, Try.ntmps38
  go_upto_region 1 with (fail)
  refine wp_region_Z (fun W => W.cell? ⟨b, 4, none⟩ = some (.int .i64 S.base) ∧ W.cell? ⟨b, 5, none⟩ = some (.slice (some ⟨rb, rp, none⟩) k rc) ∧ W.cell? ⟨b, 2, none⟩ = some (.int .i64 S.hi) ∧ W.cell? ⟨b, 0, none⟩ = some (.int .i64 S.d)) [7, 15, 20, 29, 33] [] [0, 2, 3, 4, 5, 6, 8, 9, 10, 11, 12, 13, 14, 16, 17, 18, 19, 21, 22, 23, 24, 25, 26, 27, 28, 30, 31, 32, 35, 36] [0, 1, 2, 3, 4, 5, 6, 7, 8, 9, 10, 11, 12, 13, 14, 15, 16, 17, 18, 19, 20, 21, 22, 23, 24, 25, 26, 27, 28, 29, 30, 31, 32, 33, 34, 35, 36] (by kernel_rfl) (by kernel_rfl) ?_
  (repeat (first | (refine wpZ_st (v := ?_) _ (by rfl) (by rfl) (by rfl) (fun W hW => ?_) (by exact ⟨g4, g5, g2, g0⟩) ?_; (rotate_left; (focus ((try dsimp only at hW); go_simp; (try with_reducible rfl); done))); try simp only [Act.put, List.getElem_toArray, List.getElem_cons_zero, List.getElem_cons_succ, List.setIfInBounds_toArray, List.set_cons_zero, List.set_cons_succ]) | (refine wpZ_pu (v := ?_) _ (by rfl) (by rfl) (by rfl) (by rfl) (fun W => ?_) ?_; (rotate_left; (focus ((try dsimp only at hW); go_simp; (try with_reducible rfl); done))); try simp only [Act.put, List.getElem_toArray, List.getElem_cons_zero, List.getElem_cons_succ, List.setIfInBounds_toArray, List.set_cons_zero, List.set_cons_succ]) | (refine wpZ_no _ (by rfl) (by rfl) (by rfl) (by rfl) ?_; try simp only [Act.put, List.getElem_toArray, List.getElem_cons_zero, List.getElem_cons_succ, List.setIfInBounds_toArray, List.set_cons_zero, List.set_cons_succ]) | (refine wpZ_noS _ (by rfl) (by rfl) (by rfl) (by exact ⟨g4, g5, g2, g0⟩) ?_; try simp only [Act.put, List.getElem_toArray, List.getElem_cons_zero, List.getElem_cons_succ, List.setIfInBounds_toArray, List.set_cons_zero, List.set_cons_succ])))
  refine wpZ_eff _ (by rfl) (by rfl) (by rfl) (by rfl) (fun K hK => ?_)
  go_simp
  refine P.mono ?_
  rintro e w1 ⟨rfl, rfl⟩
  dsimp only
  (refine hK _ _ (fun hl => ?_) ?_; (first | (focus (cases hl; done)) | exact ⟨g4, g5, g2, g0⟩); clear hK K; try simp only [Act.put, List.getElem_toArray, List.getElem_cons_zero, List.getElem_cons_succ, List.setIfInBounds_toArray, List.set_cons_zero, List.set_cons_succ])
  (repeat (first | (refine wpZ_st (v := ?_) _ (by rfl) (by rfl) (by rfl) (fun W hW => ?_) (by exact ⟨g4, g5, g2, g0⟩) ?_; (rotate_left; (focus ((try dsimp only at hW); go_simp; (try with_reducible rfl); done))); try simp only [Act.put, List.getElem_toArray, List.getElem_cons_zero, List.getElem_cons_succ, List.setIfInBounds_toArray, List.set_cons_zero, List.set_cons_succ]) | (refine wpZ_pu (v := ?_) _ (by rfl) (by rfl) (by rfl) (by rfl) (fun W => ?_) ?_; (rotate_left; (focus ((try dsimp only at hW); go_simp; (try with_reducible rfl); done))); try simp only [Act.put, List.getElem_toArray, List.getElem_cons_zero, List.getElem_cons_succ, List.setIfInBounds_toArray, List.set_cons_zero, List.set_cons_succ]) | (refine wpZ_no _ (by rfl) (by rfl) (by rfl) (by rfl) ?_; try simp only [Act.put, List.getElem_toArray, List.getElem_cons_zero, List.getElem_cons_succ, List.setIfInBounds_toArray, List.set_cons_zero, List.set_cons_succ]) | (refine wpZ_noS _ (by rfl) (by rfl) (by rfl) (by exact ⟨g4, g5, g2, g0⟩) ?_; try simp only [Act.put, List.getElem_toArray, List.getElem_cons_zero, List.getElem_cons_succ, List.setIfInBounds_toArray, List.set_cons_zero, List.set_cons_succ])))
  refine wpZ_eff _ (by rfl) (by rfl) (by rfl) (by rfl) (fun K hK => ?_)
  go_simp
  refine (PI _).mono ?_
  rintro e w1 ⟨rfl, rfl⟩
  dsimp only
  (refine hK _ _ (fun hl => ?_) ?_; (first | (focus (cases hl; done)) | exact ⟨g4, g5, g2, g0⟩); clear hK K; try simp only [Act.put, List.getElem_toArray, List.getElem_cons_zero, List.getElem_cons_succ, List.setIfInBounds_toArray, List.set_cons_zero, List.set_cons_succ])
  (repeat (first | (refine wpZ_st (v := ?_) _ (by rfl) (by rfl) (by rfl) (fun W hW => ?_) (by exact ⟨g4, g5, g2, g0⟩) ?_; (rotate_left; (focus ((try dsimp only at hW); go_simp; (try with_reducible rfl); done))); try simp only [Act.put, List.getElem_toArray, List.getElem_cons_zero, List.getElem_cons_succ, List.setIfInBounds_toArray, List.set_cons_zero, List.set_cons_succ]) | (refine wpZ_pu (v := ?_) _ (by rfl) (by rfl) (by rfl) (by rfl) (fun W => ?_) ?_; (rotate_left; (focus ((try dsimp only at hW); go_simp; (try with_reducible rfl); done))); try simp only [Act.put, List.getElem_toArray, List.getElem_cons_zero, List.getElem_cons_succ, List.setIfInBounds_toArray, List.set_cons_zero, List.set_cons_succ]) | (refine wpZ_no _ (by rfl) (by rfl) (by rfl) (by rfl) ?_; try simp only [Act.put, List.getElem_toArray, List.getElem_cons_zero, List.getElem_cons_succ, List.setIfInBounds_toArray, List.set_cons_zero, List.set_cons_succ]) | (refine wpZ_noS _ (by rfl) (by rfl) (by rfl) (by exact ⟨g4, g5, g2, g0⟩) ?_; try simp only [Act.put, List.getElem_toArray, List.getElem_cons_zero, List.getElem_cons_succ, List.setIfInBounds_toArray, List.set_cons_zero, List.set_cons_succ])))
  (simp only [wpZ])
  go_upto_region 3 with (fail)
  refine wp_region_Z (fun W => W.cell? ⟨b, 4, none⟩ = some (.int .i64 S.base) ∧ W.cell? ⟨b, 5, none⟩ = some (.slice (some ⟨rb, rp, none⟩) k rc) ∧ W.cell? ⟨rb, rp + j, none⟩ = some (.slice va xs.length vc)) [3, 8, 11] [] [0, 1, 2, 4, 5, 6, 7, 9, 10, 12, 13] [0, 1, 2, 3, 4, 5, 6, 7, 8, 9, 10, 11, 12, 13] (by kernel_rfl) (by kernel_rfl) ?_
  (repeat (first | (refine wpZ_st (v := ?_) _ (by rfl) (by rfl) (by rfl) (fun W hW => ?_) (by exact ⟨g4, g5, cj⟩) ?_; (rotate_left; (focus ((try dsimp only at hW); go_simp; (try with_reducible rfl); done))); try simp only [Act.put, List.getElem_toArray, List.getElem_cons_zero, List.getElem_cons_succ, List.setIfInBounds_toArray, List.set_cons_zero, List.set_cons_succ]) | (refine wpZ_pu (v := ?_) _ (by rfl) (by rfl) (by rfl) (by rfl) (fun W => ?_) ?_; (rotate_left; (focus ((try dsimp only at hW); go_simp; (try with_reducible rfl); done))); try simp only [Act.put, List.getElem_toArray, List.getElem_cons_zero, List.getElem_cons_succ, List.setIfInBounds_toArray, List.set_cons_zero, List.set_cons_succ]) | (refine wpZ_no _ (by rfl) (by rfl) (by rfl) (by rfl) ?_; try simp only [Act.put, List.getElem_toArray, List.getElem_cons_zero, List.getElem_cons_succ, List.setIfInBounds_toArray, List.set_cons_zero, List.set_cons_succ]) | (refine wpZ_noS _ (by rfl) (by rfl) (by rfl) (by exact ⟨g4, g5, cj⟩) ?_; try simp only [Act.put, List.getElem_toArray, List.getElem_cons_zero, List.getElem_cons_succ, List.setIfInBounds_toArray, List.set_cons_zero, List.set_cons_succ])))
  (simp only [wpZ])
  go_wp2
  go_ret
  exact ⟨rfl, h.drew.drew⟩

/-- Size, whatever is asked. -/
theorem size_ok (b : Nat) (S : BS) (hc : 1 ≤ S.cp) (hR : S.rows.length ≤ 65536) (hd : 1 ≤ S.d) (hhi : I64 S.hi) (her : (S.rows.length : Int) = S.hi / S.d - S.base + 1) (v : Int) (w : World) (L : List Asn) (h : Hold w (bkA b S :: L)) :
    Calls Try.prog 38 #[.pointer (some ⟨b, 0, none⟩), .int .i64 v] w fun e w' => e = .returned (.int .i64 (sizeV S v)) ∧ Hold w' (bkA b S :: L) := by
  unfold sizeV
  by_cases h1 : v < S.base
  · rw [if_neg (by omega)]
    exact size_low b S hc v w L h h1
  by_cases h2 : (S.rows.length : Int) ≤ v - S.base
  · rw [if_neg (by omega)]
    exact size_far b S hc hd hhi her v w L h (by omega) h2
  rw [if_pos (by omega)]
  exact size_in b S hc hR hd hhi her v w L h (v - S.base).toNat (by omega) (by omega)

/-! ### Exact errors. -/
set_option maxRecDepth 20000 in
theorem put_farx (b : Nat) (S : BS) (hc : 1 ≤ S.cp) (m id : Int) (hf : m < S.lo ∨ S.hi < m) (w : World) (L : List Asn) (h : Hold w (bkA b S :: L)) :
    Calls Try.prog 12 #[.pointer (some ⟨b, 0, none⟩), .int .i64 m, .int .i64 id] w fun e w' => e = .returned (.tuple #[.int .i64 0, .bool false, .int .i64 11]) ∧ Hold w' (bkA b S :: L) := by
  obtain ⟨ro, rc, vs, hl, h1⟩ := bk_open h
  have PN := none_any b S hc w _ _ h1
  obtain ⟨g0, g1, g2, g3, g4, g5, g6, g7, g8, g9, g10⟩ := bkM h1
  have HH := Lib.hid h
  clear h h1 hl
  by_cases hlo : m < S.lo
  · go_enter Try.func12, Try.ntmps12
    go_wp2_with (first
      | (go_at_call 29; with_reducible refine PN.mono ?_; rintro e w1 ⟨rfl, rfl⟩))
    go_ret3
    exact ⟨rfl, HH.out⟩
  · have hhi : S.hi < m := by omega
    go_enter Try.func12, Try.ntmps12
    go_wp2_with (first
      | (go_at_call 29; with_reducible refine PN.mono ?_; rintro e w1 ⟨rfl, rfl⟩))
    go_ret3
    exact ⟨rfl, HH.out⟩
set_option maxRecDepth 20000 in
theorem new_badx (d lo hi cp : Int) (hlo : I64 lo) (hhi : I64 hi) (hbad : newE d lo hi cp ≠ 0) (w : World) :
    Calls Try.prog 9 #[.int .i64 d, .int .i64 lo, .int .i64 hi, .int .i64 cp] w fun e w' => e = .returned (.tuple #[.pointer none, .int .i64 (newE d lo hi cp)]) ∧ w = w' := by
  by_cases h1 : d < 1
  · rw [newE, if_pos (.inl h1)]
    go_enter Try.func9, Try.ntmps9
    go_wp2
    go_ret2
    exact ⟨rfl, rfl⟩
  by_cases h2 : 65536 < d
  · rw [newE, if_pos (.inr h2)]
    go_enter Try.func9, Try.ntmps9
    go_wp2
    go_ret2
    exact ⟨rfl, rfl⟩
  rw [newE, if_neg (by omega)] at hbad ⊢
  by_cases h3 : hi < lo
  · rw [if_pos (.inl h3)]
    clear hbad
    go_enter Try.func9, Try.ntmps9
    go_wp2
    go_ret2
    exact ⟨rfl, rfl⟩
  by_cases h4 : cp < 1
  · rw [if_pos (.inr (.inl h4))]
    clear hbad
    go_enter Try.func9, Try.ntmps9
    go_wp2
    go_ret2
    exact ⟨rfl, rfl⟩
  by_cases h5 : 65536 < cp
  · rw [if_pos (.inr (.inr h5))]
    clear hbad
    go_enter Try.func9, Try.ntmps9
    go_wp2
    go_ret2
    exact ⟨rfl, rfl⟩
  rw [if_neg (by omega)] at hbad ⊢
  by_cases h6 : 65536 ≤ hi / d - lo / d
  · rw [if_pos h6]
    have hd1 : 1 ≤ d := by omega
    have P1 := fun w => index_ok lo d hlo hd1 w
    have P2 := fun w => index_ok hi d hhi hd1 w
    obtain ⟨a1, a2⟩ := idx_I64 hlo hd1
    obtain ⟨b1, b2⟩ := idx_I64 hhi hd1
    obtain ⟨x, hx⟩ : ∃ x, x = lo / d := ⟨_, rfl⟩
    obtain ⟨y, hy⟩ : ∃ y, y = hi / d := ⟨_, rfl⟩
    rw [← hx] at P1 a1 a2 h6
    rw [← hy] at P2 b1 b2 h6
    clear hx hy hbad
    go_enter Try.func9, Try.ntmps9
    go_upto_if 42 with (first
      | (go_at_call 27; with_reducible refine (P1 _).mono ?_; rintro e w1 ⟨rfl, rfl⟩)
      | (go_at_call 27; with_reducible refine (P2 _).mono ?_; rintro e w1 ⟨rfl, rfl⟩))
    rw [u64_sub (by omega)]
    have hdec : decide (65536 ≤ y - x) = true := by simp; omega
    go_wp2
    go_ret2
    exact ⟨rfl, rfl⟩
  · rw [if_neg h6] at hbad
    exact absurd rfl hbad

end Go.Proofs.Ytpffofliemooiaa
