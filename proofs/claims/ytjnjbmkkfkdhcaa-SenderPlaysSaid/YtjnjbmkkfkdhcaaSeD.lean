/- Contracts: the ring's at, push, cut. -/
import Derived.Test.YtjnjbmkkfkdhcaaSeC
open Go.RowKit Go.Own
namespace Go.Proofs.Ytjnjbmkkfkdhcaa

theorem rem_nat (a m : Nat) : Int.tmod (a : Int) (m : Int) = ((a % m : Nat) : Int) := by
  rw [Int.tmod_eq_emod_of_nonneg (by omega)]; omega

set_option maxRecDepth 20000 in
theorem at_ok (b f m rc i j : Nat) (rb rp : Nat) (v : Value) (hm : m ≤ 256) (hf : f < m) (hi : i < m) (hj : (f + i) % m = j) (hjm : j < m) (w : World) (g0 : w.drew.cell? ⟨b, 0, none⟩ = some (.slice (some ⟨rb, rp, none⟩) m rc)) (g1 : w.drew.cell? ⟨b, 1, none⟩ = some (.int .i64 f)) (gj : w.drew.cell? ⟨rb, rp + j, none⟩ = some v) :
    Calls Try.prog 28 #[.pointer (some ⟨b, 0, none⟩), .int .i64 i] w fun e w' => e = .returned v ∧ w' = w.drew := by
  have hr := rem_nat (f + i) m
  rw [hj] at hr
  have W1 : IntKind.i64.wrap ((f : Int) + i) = (f : Int) + i := IntWalk.i64_in _ (by omega)
  have W2 : ((f : Int) + i).tmod m = j := by rw [show (f : Int) + i = ((f + i : Nat) : Int) by omega]; exact hr
  have W3 : IntKind.i64.wrap (j : Int) = j := IntWalk.i64_in _ (by omega)
  have hm0 : ((m : Int) == 0) = false := by rw [beq_eq_false_iff_ne]; omega
  have hm1 : ¬ m = 0 := by omega
  have hjm2 : (j : Int) < m := by omega
  have hj0 : 0 ≤ (j : Int) := by omega
  clear hj hr
  go_enter Try.func28, Try.ntmps28
  go_upto_region 1 with (fail)
  refine wp_region_Z (fun W => W.cell? ⟨b, 0, none⟩ = some (.slice (some ⟨rb, rp, none⟩) m rc) ∧ W.cell? ⟨b, 1, none⟩ = some (.int .i64 f) ∧ W.cell? ⟨rb, rp + j, none⟩ = some v) [3, 7, 13, 17] [] [0, 1, 2, 4, 5, 6, 8, 9, 10, 11, 12, 14, 15, 16, 18] [0, 1, 2, 3, 4, 5, 6, 7, 8, 9, 10, 11, 12, 13, 14, 15, 16, 17, 18] (by kernel_rfl) (by kernel_rfl) ?_
  (repeat (first | (refine wpZ_st (v := ?_) _ (by rfl) (by rfl) (by rfl) (fun W hW => ?_) (by exact ⟨g0, g1, gj⟩) ?_; (rotate_left; (focus ((try dsimp only at hW); go_simp; (try with_reducible rfl); done))); try simp only [Act.put, List.getElem_toArray, List.getElem_cons_zero, List.getElem_cons_succ, List.setIfInBounds_toArray, List.set_cons_zero, List.set_cons_succ]) | (refine wpZ_pu (v := ?_) _ (by rfl) (by rfl) (by rfl) (by rfl) (fun W => ?_) ?_; (rotate_left; (focus ((try dsimp only at hW); go_simp; (try with_reducible rfl); done))); try simp only [Act.put, List.getElem_toArray, List.getElem_cons_zero, List.getElem_cons_succ, List.setIfInBounds_toArray, List.set_cons_zero, List.set_cons_succ]) | (refine wpZ_no _ (by rfl) (by rfl) (by rfl) (by rfl) ?_; try simp only [Act.put, List.getElem_toArray, List.getElem_cons_zero, List.getElem_cons_succ, List.setIfInBounds_toArray, List.set_cons_zero, List.set_cons_succ]) | (refine wpZ_noS _ (by rfl) (by rfl) (by rfl) (by exact ⟨g0, g1, gj⟩) ?_; try simp only [Act.put, List.getElem_toArray, List.getElem_cons_zero, List.getElem_cons_succ, List.setIfInBounds_toArray, List.set_cons_zero, List.set_cons_succ])))
  (simp only [wpZ])
  go_wp2
  go_ret
  exact ⟨rfl, rfl⟩

end Go.Proofs.Ytjnjbmkkfkdhcaa
