/- Contracts: looks at buckets. -/
import Derived.Test.YtpffofliemooiaaBuB
open Go.RowKit Go.Own
namespace Go.Proofs.Ytpffofliemooiaa

theorem bkM {w : World} {b : Nat} {S : BS} {v : Value} {L : List Asn} (h : Hold w (cellsA b 67 (S.cells v) :: L)) :
    w.cell? ⟨b, 0, none⟩ = some (.int .i64 S.d) ∧ w.cell? ⟨b, 1, none⟩ = some (.int .i64 S.lo) ∧ w.cell? ⟨b, 2, none⟩ = some (.int .i64 S.hi) ∧ w.cell? ⟨b, 3, none⟩ = some (.int .i64 S.cp) ∧ w.cell? ⟨b, 4, none⟩ = some (.int .i64 S.base) ∧ w.cell? ⟨b, 5, none⟩ = some v ∧
    w.cell? ⟨b, 6, none⟩ = some (.int .i64 S.n) ∧ w.cell? ⟨b, 7, none⟩ = some (.int .i64 S.low) ∧ w.cell? ⟨b, 8, none⟩ = some (.int .i64 S.top) ∧ w.cell? ⟨b, 9, none⟩ = some (.int .i64 S.mark) ∧ w.cell? ⟨b, 10, none⟩ = some (.bool S.marked) :=
  ⟨h.cell 0, h.cell 1, h.cell 2, h.cell 3, h.cell 4, h.cell 5, h.cell 6, h.cell 7, h.cell 8, h.cell 9, h.cell 10⟩

theorem none_ok (b : Nat) (S : BS) (hc : 1 ≤ S.cp) (w : World) (h3 : w.cell? ⟨b, 3, none⟩ = some (.int .i64 S.cp)) :
    Calls Try.prog 29 #[.pointer (some ⟨b, 0, none⟩)] w fun e w' => e = .returned (.bool false) ∧ w = w' := by
  have hne : (S.cp == 0) = false := by rw [beq_eq_false_iff_ne]; omega
  generalize S.cp = cp at *
  go_enter Try.func29, Try.ntmps29
  go_wp2
  go_ret
  exact ⟨rfl, rfl⟩

theorem len_ok (b : Nat) (S : BS) (hc : 1 ≤ S.cp) (w : World) (L : List Asn) (h : Hold w (bkA b S :: L)) :
    Calls Try.prog 15 #[.pointer (some ⟨b, 0, none⟩)] w fun e w' => e = .returned (.int .i64 S.n) ∧ w = w' := by
  obtain ⟨ro, rc, vs, hl, h1⟩ := bk_open h
  obtain ⟨g0, g1, g2, g3, g4, g5, g6, g7, g8, g9, g10⟩ := bkM h1
  have P := none_ok b S hc w g3
  go_enter Try.func15, Try.ntmps15
  go_wp2_with (go_at_call 29; refine P.mono ?_; rintro e w1 ⟨rfl, rfl⟩)
  go_ret
  exact ⟨rfl, rfl⟩

theorem mark_ok (b : Nat) (S : BS) (hc : 1 ≤ S.cp) (w : World) (L : List Asn) (h : Hold w (bkA b S :: L)) :
    Calls Try.prog 28 #[.pointer (some ⟨b, 0, none⟩)] w fun e w' => e = .returned (.tuple #[.int .i64 S.mark, .bool S.marked]) ∧ Hold w' (bkA b S :: L) := by
  obtain ⟨ro, rc, vs, hl, h1⟩ := bk_open h
  obtain ⟨g0, g1, g2, g3, g4, g5, g6, g7, g8, g9, g10⟩ := bkM h1
  have P := none_ok b S hc w g3
  go_enter Try.func28, Try.ntmps28
  go_upto_region 3 with (go_at_call 29; refine P.mono ?_; rintro e w1 ⟨rfl, rfl⟩)
  refine wp_region_Z (fun W => W.cell? ⟨b, 9, none⟩ = some (.int .i64 S.mark) ∧ W.cell? ⟨b, 10, none⟩ = some (.bool S.marked)) [3, 7] [] [0, 1, 2, 4, 5, 6, 8, 9] [0, 1, 2, 3, 4, 5, 6, 7, 8, 9] (by kernel_rfl) (by kernel_rfl) ?_
  (repeat (first | (refine wpZ_st (v := ?_) _ (by rfl) (by rfl) (by rfl) (fun W hW => ?_) (by exact ⟨g9, g10⟩) ?_; (rotate_left; (focus ((try dsimp only at hW); go_simp; (try with_reducible rfl); done))); try simp only [Act.put, List.getElem_toArray, List.getElem_cons_zero, List.getElem_cons_succ, List.setIfInBounds_toArray, List.set_cons_zero, List.set_cons_succ]) | (refine wpZ_pu (v := ?_) _ (by rfl) (by rfl) (by rfl) (by rfl) (fun W => ?_) ?_; (rotate_left; (focus ((try dsimp only at hW); go_simp; (try with_reducible rfl); done))); try simp only [Act.put, List.getElem_toArray, List.getElem_cons_zero, List.getElem_cons_succ, List.setIfInBounds_toArray, List.set_cons_zero, List.set_cons_succ]) | (refine wpZ_no _ (by rfl) (by rfl) (by rfl) (by rfl) ?_; try simp only [Act.put, List.getElem_toArray, List.getElem_cons_zero, List.getElem_cons_succ, List.setIfInBounds_toArray, List.set_cons_zero, List.set_cons_succ]) | (refine wpZ_noS _ (by rfl) (by rfl) (by rfl) (by exact ⟨g9, g10⟩) ?_; try simp only [Act.put, List.getElem_toArray, List.getElem_cons_zero, List.getElem_cons_succ, List.setIfInBounds_toArray, List.set_cons_zero, List.set_cons_succ])))
  (simp only [wpZ])
  go_wp2
  go_ret2
  exact ⟨rfl, h.drew⟩

end Go.Proofs.Ytpffofliemooiaa
