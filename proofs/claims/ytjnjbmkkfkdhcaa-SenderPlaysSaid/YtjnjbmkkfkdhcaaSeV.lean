/- Contracts: all looks; the reference's Send. -/
import Derived.Test.YtjnjbmkkfkdhcaaSeU
open Go.RowKit Go.Own
namespace Go.Proofs.Ytjnjbmkkfkdhcaa

set_option maxHeartbeats 1000000 in
set_option maxRecDepth 20000 in
theorem looks_ok (b c : Nat) (S : SS) (F : Nat) (G : List (List UInt8)) (hK : KI F S G) (w : World) (L : List Asn) (h : Hold w (snA b S :: rfA c S F G :: L)) :
    Calls Try.prog 21 #[.pointer (some ⟨b, 0, none⟩), .pointer (some ⟨c, 0, none⟩)] w fun e w' => e = .returned (.bool true) ∧ Hold w' (snA b S :: rfA c S F G :: L) := by
  obtain ⟨ro, rc, h1⟩ := rf_open h.swap
  have hS := h1.drew.mv 2
  (try dsimp only [Go.Own.front, Go.Own.arrA, Go.Own.atA, Go.Own.dropA, List.length_cons, List.length_nil, Nat.zero_add, Nat.reduceAdd] at hS)
  have hSI := hK.si
  have q1 := hSI.bn
  have q2 := hSI.nt
  have q3 := hSI.tf
  have q4 := hSI.max
  have W1 : IntKind.u32.wrap (S.base : Int) = S.base := IntWalk.u32_in _ (by omega)
  have W2 : IntKind.u32.wrap (S.next : Int) = S.next := IntWalk.u32_in _ (by omega)
  have W3 : IntKind.u32.wrap (S.fin : Int) = S.fin := IntWalk.u32_in _ (by omega)
  have PB := fun w L h => base_ok b S hSI w L h
  have PX := fun w L h => next_ok b S hSI w L h
  have PE := fun w L h => end_ok b S hSI w L h
  have PT := fun w L h => timer_ok b S hSI w L h
  have PR := fun w L h => rend_cells c S F G hK ro rc w L h
  obtain ⟨-, -, -, -, -, g5, g6, -, g8⟩ := rfM (hS.mv 1)
  have hS2 := hS.drew
  obtain ⟨-, -, -, -, -, k5, k6, -, k8⟩ := rfM (hS2.mv 1)
  clear q1 q2 q3 q4 hK h h1 hSI
  go_enter Try.func21, Try.ntmps21
  go_upto_region 1 with (fail)
  refine wp_region_Z (fun W => W.cell? ⟨c, 5, none⟩ = some (.int .u64 S.base) ∧ W.cell? ⟨c, 6, none⟩ = some (.int .u64 S.next) ∧ W.cell? ⟨c, 8, none⟩ = some (.int .i64 S.timer)) [5, 6, 14, 15, 23, 32] [] [0, 2, 3, 4, 7, 8, 9, 11, 12, 13, 16, 17, 18, 19, 21, 24, 25, 26, 27, 29, 30, 31, 33, 34, 35] [0, 2, 3, 4, 5, 6, 1, 7, 8, 9, 11, 12, 13, 14, 15, 10, 16, 17, 18, 19, 21, 20, 22, 23, 24, 25, 26, 27, 29, 30, 31, 32, 28, 33, 34, 35] (by kernel_rfl) (by kernel_rfl) ?_
  (repeat (first | (refine wpZ_st (v := ?_) _ (by rfl) (by rfl) (by rfl) (fun W hW => ?_) (by exact ⟨g5, g6, g8⟩) ?_; (rotate_left; (focus ((try dsimp only at hW); go_simp; (try with_reducible rfl); done))); try simp only [Act.put, List.getElem_toArray, List.getElem_cons_zero, List.getElem_cons_succ, List.setIfInBounds_toArray, List.set_cons_zero, List.set_cons_succ]) | (refine wpZ_pu (v := ?_) _ (by rfl) (by rfl) (by rfl) (by rfl) (fun W => ?_) ?_; (rotate_left; (focus ((try dsimp only at hW); go_simp; (try with_reducible rfl); done))); try simp only [Act.put, List.getElem_toArray, List.getElem_cons_zero, List.getElem_cons_succ, List.setIfInBounds_toArray, List.set_cons_zero, List.set_cons_succ]) | (refine wpZ_no _ (by rfl) (by rfl) (by rfl) (by rfl) ?_; try simp only [Act.put, List.getElem_toArray, List.getElem_cons_zero, List.getElem_cons_succ, List.setIfInBounds_toArray, List.set_cons_zero, List.set_cons_succ]) | (refine wpZ_noS _ (by rfl) (by rfl) (by rfl) (by exact ⟨g5, g6, g8⟩) ?_; try simp only [Act.put, List.getElem_toArray, List.getElem_cons_zero, List.getElem_cons_succ, List.setIfInBounds_toArray, List.set_cons_zero, List.set_cons_succ])))
  refine wpZ_eff _ (by rfl) (by rfl) (by rfl) (by rfl) (fun K hK => ?_)
  go_simp
  refine (PB _ _ hS).mono ?_
  rintro e w1 ⟨rfl, rfl⟩
  dsimp only
  (refine hK _ _ (fun hl => ?_) ?_; (first | (focus (cases hl; done)) | exact ⟨g5, g6, g8⟩); clear hK K; try simp only [Act.put, List.getElem_toArray, List.getElem_cons_zero, List.getElem_cons_succ, List.setIfInBounds_toArray, List.set_cons_zero, List.set_cons_succ])
  (repeat (first | (refine wpZ_st (v := ?_) _ (by rfl) (by rfl) (by rfl) (fun W hW => ?_) (by exact ⟨g5, g6, g8⟩) ?_; (rotate_left; (focus ((try dsimp only at hW); go_simp; (try with_reducible rfl); done))); try simp only [Act.put, List.getElem_toArray, List.getElem_cons_zero, List.getElem_cons_succ, List.setIfInBounds_toArray, List.set_cons_zero, List.set_cons_succ]) | (refine wpZ_pu (v := ?_) _ (by rfl) (by rfl) (by rfl) (by rfl) (fun W => ?_) ?_; (rotate_left; (focus ((try dsimp only at hW); go_simp; (try with_reducible rfl); done))); try simp only [Act.put, List.getElem_toArray, List.getElem_cons_zero, List.getElem_cons_succ, List.setIfInBounds_toArray, List.set_cons_zero, List.set_cons_succ]) | (refine wpZ_no _ (by rfl) (by rfl) (by rfl) (by rfl) ?_; try simp only [Act.put, List.getElem_toArray, List.getElem_cons_zero, List.getElem_cons_succ, List.setIfInBounds_toArray, List.set_cons_zero, List.set_cons_succ]) | (refine wpZ_noS _ (by rfl) (by rfl) (by rfl) (by exact ⟨g5, g6, g8⟩) ?_; try simp only [Act.put, List.getElem_toArray, List.getElem_cons_zero, List.getElem_cons_succ, List.setIfInBounds_toArray, List.set_cons_zero, List.set_cons_succ])))
  refine wpZ_eff _ (by rfl) (by rfl) (by rfl) (by rfl) (fun K hK => ?_)
  go_simp
  refine (PX _ _ hS).mono ?_
  rintro e w1 ⟨rfl, rfl⟩
  dsimp only
  (refine hK _ _ (fun hl => ?_) ?_; (first | (focus (cases hl; done)) | exact ⟨g5, g6, g8⟩); clear hK K; try simp only [Act.put, List.getElem_toArray, List.getElem_cons_zero, List.getElem_cons_succ, List.setIfInBounds_toArray, List.set_cons_zero, List.set_cons_succ])
  (repeat (first | (refine wpZ_st (v := ?_) _ (by rfl) (by rfl) (by rfl) (fun W hW => ?_) (by exact ⟨g5, g6, g8⟩) ?_; (rotate_left; (focus ((try dsimp only at hW); go_simp; (try with_reducible rfl); done))); try simp only [Act.put, List.getElem_toArray, List.getElem_cons_zero, List.getElem_cons_succ, List.setIfInBounds_toArray, List.set_cons_zero, List.set_cons_succ]) | (refine wpZ_pu (v := ?_) _ (by rfl) (by rfl) (by rfl) (by rfl) (fun W => ?_) ?_; (rotate_left; (focus ((try dsimp only at hW); go_simp; (try with_reducible rfl); done))); try simp only [Act.put, List.getElem_toArray, List.getElem_cons_zero, List.getElem_cons_succ, List.setIfInBounds_toArray, List.set_cons_zero, List.set_cons_succ]) | (refine wpZ_no _ (by rfl) (by rfl) (by rfl) (by rfl) ?_; try simp only [Act.put, List.getElem_toArray, List.getElem_cons_zero, List.getElem_cons_succ, List.setIfInBounds_toArray, List.set_cons_zero, List.set_cons_succ]) | (refine wpZ_noS _ (by rfl) (by rfl) (by rfl) (by exact ⟨g5, g6, g8⟩) ?_; try simp only [Act.put, List.getElem_toArray, List.getElem_cons_zero, List.getElem_cons_succ, List.setIfInBounds_toArray, List.set_cons_zero, List.set_cons_succ])))
  refine wpZ_eff _ (by rfl) (by rfl) (by rfl) (by rfl) (fun K hK => ?_)
  go_simp
  refine (PE _ _ hS).mono ?_
  rintro e w1 ⟨rfl, rfl⟩
  dsimp only
  (refine hK _ _ (fun hl => ?_) ?_; (first | (focus (cases hl; done)) | exact ⟨g5, g6, g8⟩); clear hK K; try simp only [Act.put, List.getElem_toArray, List.getElem_cons_zero, List.getElem_cons_succ, List.setIfInBounds_toArray, List.set_cons_zero, List.set_cons_succ])
  (repeat (first | (refine wpZ_st (v := ?_) _ (by rfl) (by rfl) (by rfl) (fun W hW => ?_) (by exact ⟨g5, g6, g8⟩) ?_; (rotate_left; (focus ((try dsimp only at hW); go_simp; (try with_reducible rfl); done))); try simp only [Act.put, List.getElem_toArray, List.getElem_cons_zero, List.getElem_cons_succ, List.setIfInBounds_toArray, List.set_cons_zero, List.set_cons_succ]) | (refine wpZ_pu (v := ?_) _ (by rfl) (by rfl) (by rfl) (by rfl) (fun W => ?_) ?_; (rotate_left; (focus ((try dsimp only at hW); go_simp; (try with_reducible rfl); done))); try simp only [Act.put, List.getElem_toArray, List.getElem_cons_zero, List.getElem_cons_succ, List.setIfInBounds_toArray, List.set_cons_zero, List.set_cons_succ]) | (refine wpZ_no _ (by rfl) (by rfl) (by rfl) (by rfl) ?_; try simp only [Act.put, List.getElem_toArray, List.getElem_cons_zero, List.getElem_cons_succ, List.setIfInBounds_toArray, List.set_cons_zero, List.set_cons_succ]) | (refine wpZ_noS _ (by rfl) (by rfl) (by rfl) (by exact ⟨g5, g6, g8⟩) ?_; try simp only [Act.put, List.getElem_toArray, List.getElem_cons_zero, List.getElem_cons_succ, List.setIfInBounds_toArray, List.set_cons_zero, List.set_cons_succ])))
  refine wpZ_eff _ (by rfl) (by rfl) (by rfl) (by rfl) (fun K hK => ?_)
  go_simp
  refine (PR _ _ (hS.mv 1)).mono ?_
  rintro e w1 ⟨rfl, rfl⟩
  dsimp only
  (refine hK _ _ (fun hl => ?_) ?_; (first | (focus (cases hl; done)) | exact ⟨k5, k6, k8⟩); clear hK K; try simp only [Act.put, List.getElem_toArray, List.getElem_cons_zero, List.getElem_cons_succ, List.setIfInBounds_toArray, List.set_cons_zero, List.set_cons_succ])
  (repeat (first | (refine wpZ_st (v := ?_) _ (by rfl) (by rfl) (by rfl) (fun W hW => ?_) (by exact ⟨k5, k6, k8⟩) ?_; (rotate_left; (focus ((try dsimp only at hW); go_simp; (try with_reducible rfl); done))); try simp only [Act.put, List.getElem_toArray, List.getElem_cons_zero, List.getElem_cons_succ, List.setIfInBounds_toArray, List.set_cons_zero, List.set_cons_succ]) | (refine wpZ_pu (v := ?_) _ (by rfl) (by rfl) (by rfl) (by rfl) (fun W => ?_) ?_; (rotate_left; (focus ((try dsimp only at hW); go_simp; (try with_reducible rfl); done))); try simp only [Act.put, List.getElem_toArray, List.getElem_cons_zero, List.getElem_cons_succ, List.setIfInBounds_toArray, List.set_cons_zero, List.set_cons_succ]) | (refine wpZ_no _ (by rfl) (by rfl) (by rfl) (by rfl) ?_; try simp only [Act.put, List.getElem_toArray, List.getElem_cons_zero, List.getElem_cons_succ, List.setIfInBounds_toArray, List.set_cons_zero, List.set_cons_succ]) | (refine wpZ_noS _ (by rfl) (by rfl) (by rfl) (by exact ⟨k5, k6, k8⟩) ?_; try simp only [Act.put, List.getElem_toArray, List.getElem_cons_zero, List.getElem_cons_succ, List.setIfInBounds_toArray, List.set_cons_zero, List.set_cons_succ])))
  refine wpZ_eff _ (by rfl) (by rfl) (by rfl) (by rfl) (fun K hK => ?_)
  go_simp
  refine (PT _ _ hS2).mono ?_
  rintro e w1 ⟨rfl, rfl⟩
  dsimp only
  (refine hK _ _ (fun hl => ?_) ?_; (first | (focus (cases hl; done)) | exact ⟨k5, k6, k8⟩); clear hK K; try simp only [Act.put, List.getElem_toArray, List.getElem_cons_zero, List.getElem_cons_succ, List.setIfInBounds_toArray, List.set_cons_zero, List.set_cons_succ])
  (repeat (first | (refine wpZ_st (v := ?_) _ (by rfl) (by rfl) (by rfl) (fun W hW => ?_) (by exact ⟨k5, k6, k8⟩) ?_; (rotate_left; (focus ((try dsimp only at hW); go_simp; (try with_reducible rfl); done))); try simp only [Act.put, List.getElem_toArray, List.getElem_cons_zero, List.getElem_cons_succ, List.setIfInBounds_toArray, List.set_cons_zero, List.set_cons_succ]) | (refine wpZ_pu (v := ?_) _ (by rfl) (by rfl) (by rfl) (by rfl) (fun W => ?_) ?_; (rotate_left; (focus ((try dsimp only at hW); go_simp; (try with_reducible rfl); done))); try simp only [Act.put, List.getElem_toArray, List.getElem_cons_zero, List.getElem_cons_succ, List.setIfInBounds_toArray, List.set_cons_zero, List.set_cons_succ]) | (refine wpZ_no _ (by rfl) (by rfl) (by rfl) (by rfl) ?_; try simp only [Act.put, List.getElem_toArray, List.getElem_cons_zero, List.getElem_cons_succ, List.setIfInBounds_toArray, List.set_cons_zero, List.set_cons_succ]) | (refine wpZ_noS _ (by rfl) (by rfl) (by rfl) (by exact ⟨k5, k6, k8⟩) ?_; try simp only [Act.put, List.getElem_toArray, List.getElem_cons_zero, List.getElem_cons_succ, List.setIfInBounds_toArray, List.set_cons_zero, List.set_cons_succ])))
  (simp only [wpZ])
  go_wp2
  go_ret
  refine ⟨rfl, ?_⟩
  have h9 := hS2.arr [1, 2, 0]
  (try dsimp only [Go.Own.front, Go.Own.arrA, Go.Own.atA, Go.Own.dropA, List.length_cons, List.length_nil, Nat.zero_add, Nat.reduceAdd] at h9)
  exact (rf_close h9).swap

end Go.Proofs.Ytjnjbmkkfkdhcaa
