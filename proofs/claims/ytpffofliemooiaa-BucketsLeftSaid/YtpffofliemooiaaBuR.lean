/- No buckets, and such that nobody made: contracts (for BucketsNil). -/
import Derived.Test.YtpffofliemooiaaProg
import Derived.Test.YtpffofliemooiaaChecked
import Derived.Test.YtpffofliemooiaaStar
import Derived.Test.YtpffofliemooiaaEq
import Derived.Test.YtpffofliemooiaaAgg
import Derived.Test.YtpffofliemooiaaRegion3
import Derived.Deep.LoopGhost
open Go.RowKit Go.Own
namespace Go.Proofs.Ytpffofliemooiaa

def noneV (v : Value) (L : List Asn) : Prop := ∀ w, Hold w L → Calls Try.prog 29 #[v] w fun e w' => e = .returned (.bool true) ∧ w = w'
theorem noneV_nil (L : List Asn) : noneV (.pointer none) L := by
  intro w h
  go_enter Try.func29, Try.ntmps29
  go_wp2
  go_ret
  exact ⟨rfl, rfl⟩
def zeroS : List Value := [.int .i64 0, .int .i64 0, .int .i64 0, .int .i64 0, .int .i64 0, .slice none 0 0, .int .i64 0, .int .i64 0, .int .i64 0, .int .i64 0, .bool false]
theorem noneV_made (b : Nat) (L : List Asn) : noneV (.pointer (some ⟨b, 0, none⟩)) (cellsA b 67 zeroS :: L) := by
  intro w h
  have g3 : w.cell? ⟨b, 3, none⟩ = some (.int .i64 0) := h.cell 3
  go_enter Try.func29, Try.ntmps29
  go_wp2
  go_ret
  exact ⟨rfl, rfl⟩

section
variable {v : Value} {L : List Asn} (hv : noneV v L) {w : World} (h : Hold w L)
include hv h
theorem nHighest : Calls Try.prog 30 #[v] w fun e w' => e = .returned (.tuple #[.int .i64 0, .bool false]) ∧ Hold w' L := by
  have P := hv w h
  go_enter Try.func30, Try.ntmps30
  go_wp2_with (go_at_call 29; refine P.mono ?_; rintro e w1 ⟨rfl, rfl⟩)
  go_ret2
  exact ⟨rfl, h⟩
theorem nLowest : Calls Try.prog 13 #[v] w fun e w' => e = .returned (.tuple #[.int .i64 0, .bool false]) ∧ Hold w' L := by
  have P := hv w h
  go_enter Try.func13, Try.ntmps13
  go_wp2_with (go_at_call 29; refine P.mono ?_; rintro e w1 ⟨rfl, rfl⟩)
  go_ret2
  exact ⟨rfl, h⟩
theorem nMark : Calls Try.prog 28 #[v] w fun e w' => e = .returned (.tuple #[.int .i64 0, .bool false]) ∧ Hold w' L := by
  have P := hv w h
  go_enter Try.func28, Try.ntmps28
  go_wp2_with (go_at_call 29; refine P.mono ?_; rintro e w1 ⟨rfl, rfl⟩)
  go_ret2
  exact ⟨rfl, h⟩
theorem nLen : Calls Try.prog 15 #[v] w fun e w' => e = .returned (.int .i64 0) ∧ Hold w' L := by
  have P := hv w h
  go_enter Try.func15, Try.ntmps15
  go_wp2_with (go_at_call 29; refine P.mono ?_; rintro e w1 ⟨rfl, rfl⟩)
  go_ret
  exact ⟨rfl, h⟩
theorem nPop : Calls Try.prog 16 #[v] w fun e w' => e = .returned (.tuple #[.int .i64 0, .int .i64 0, .bool false]) ∧ Hold w' L := by
  have P := nHighest hv h
  go_enter Try.func16, Try.ntmps16
  go_wp2_with (go_at_call 30; refine P.mono ?_; rintro e w1 ⟨rfl, h1⟩)
  go_ret3
  exact ⟨rfl, h1⟩
theorem nPut (x y : Int) : Calls Try.prog 12 #[v, .int .i64 x, .int .i64 y] w fun e w' => e = .returned (.tuple #[.int .i64 0, .bool false, .int .i64 1]) ∧ Hold w' L := by
  have P := hv w h
  go_enter Try.func12, Try.ntmps12
  go_wp2_with (go_at_call 29; refine P.mono ?_; rintro e w1 ⟨rfl, rfl⟩)
  go_ret3
  exact ⟨rfl, h⟩
theorem nSize (x : Int) : Calls Try.prog 38 #[v, .int .i64 x] w fun e w' => e = .returned (.int .i64 0) ∧ Hold w' L := by
  have P := hv _ h.drew
  go_enter Try.func38, Try.ntmps38
  go_upto_region 1 with (fail)
  refine wp_region_Z (fun W => True) [7, 15, 20, 29, 33] [] [0, 2, 3, 4, 5, 6, 8, 9, 10, 11, 12, 13, 14, 16, 17, 18, 19, 21, 22, 23, 24, 25, 26, 27, 28, 30, 31, 32, 35, 36] [0, 1, 2, 3, 4, 5, 6, 7, 8, 9, 10, 11, 12, 13, 14, 15, 16, 17, 18, 19, 20, 21, 22, 23, 24, 25, 26, 27, 28, 29, 30, 31, 32, 33, 34, 35, 36] (by kernel_rfl) (by kernel_rfl) ?_
  (repeat (first | (refine wpZ_st (v := ?_) _ (by rfl) (by rfl) (by rfl) (fun W hW => ?_) (by trivial) ?_; (rotate_left; (focus ((try dsimp only at hW); go_simp; (try with_reducible rfl); done))); try simp only [Act.put, List.getElem_toArray, List.getElem_cons_zero, List.getElem_cons_succ, List.setIfInBounds_toArray, List.set_cons_zero, List.set_cons_succ]) | (refine wpZ_pu (v := ?_) _ (by rfl) (by rfl) (by rfl) (by rfl) (fun W => ?_) ?_; (rotate_left; (focus ((try dsimp only at hW); go_simp; (try with_reducible rfl); done))); try simp only [Act.put, List.getElem_toArray, List.getElem_cons_zero, List.getElem_cons_succ, List.setIfInBounds_toArray, List.set_cons_zero, List.set_cons_succ]) | (refine wpZ_no _ (by rfl) (by rfl) (by rfl) (by rfl) ?_; try simp only [Act.put, List.getElem_toArray, List.getElem_cons_zero, List.getElem_cons_succ, List.setIfInBounds_toArray, List.set_cons_zero, List.set_cons_succ]) | (refine wpZ_noS _ (by rfl) (by rfl) (by rfl) (by trivial) ?_; try simp only [Act.put, List.getElem_toArray, List.getElem_cons_zero, List.getElem_cons_succ, List.setIfInBounds_toArray, List.set_cons_zero, List.set_cons_succ])))
  refine wpZ_eff _ (by rfl) (by rfl) (by rfl) (by rfl) (fun K hK => ?_)
  go_simp
  refine P.mono ?_
  rintro e w1 ⟨rfl, rfl⟩
  dsimp only
  (refine hK _ _ (fun hl => ?_) ?_; (first | (focus (cases hl; done)) | trivial); clear hK K; try simp only [Act.put, List.getElem_toArray, List.getElem_cons_zero, List.getElem_cons_succ, List.setIfInBounds_toArray, List.set_cons_zero, List.set_cons_succ])
  (repeat (first | (refine wpZ_st (v := ?_) _ (by rfl) (by rfl) (by rfl) (fun W hW => ?_) (by trivial) ?_; (rotate_left; (focus ((try dsimp only at hW); go_simp; (try with_reducible rfl); done))); try simp only [Act.put, List.getElem_toArray, List.getElem_cons_zero, List.getElem_cons_succ, List.setIfInBounds_toArray, List.set_cons_zero, List.set_cons_succ]) | (refine wpZ_pu (v := ?_) _ (by rfl) (by rfl) (by rfl) (by rfl) (fun W => ?_) ?_; (rotate_left; (focus ((try dsimp only at hW); go_simp; (try with_reducible rfl); done))); try simp only [Act.put, List.getElem_toArray, List.getElem_cons_zero, List.getElem_cons_succ, List.setIfInBounds_toArray, List.set_cons_zero, List.set_cons_succ]) | (refine wpZ_no _ (by rfl) (by rfl) (by rfl) (by rfl) ?_; try simp only [Act.put, List.getElem_toArray, List.getElem_cons_zero, List.getElem_cons_succ, List.setIfInBounds_toArray, List.set_cons_zero, List.set_cons_succ]) | (refine wpZ_noS _ (by rfl) (by rfl) (by rfl) (by trivial) ?_; try simp only [Act.put, List.getElem_toArray, List.getElem_cons_zero, List.getElem_cons_succ, List.setIfInBounds_toArray, List.set_cons_zero, List.set_cons_succ])))
  refine wpZ_noE _ (by rfl) (by rfl) (by rfl) (by rfl) (fun _ => trivial) ?_
  try simp only [Act.put, List.getElem_toArray, List.getElem_cons_zero, List.getElem_cons_succ, List.setIfInBounds_toArray, List.set_cons_zero, List.set_cons_succ]
  (repeat (first | (refine wpZ_st (v := ?_) _ (by rfl) (by rfl) (by rfl) (fun W hW => ?_) (by trivial) ?_; (rotate_left; (focus ((try dsimp only at hW); go_simp; (try with_reducible rfl); done))); try simp only [Act.put, List.getElem_toArray, List.getElem_cons_zero, List.getElem_cons_succ, List.setIfInBounds_toArray, List.set_cons_zero, List.set_cons_succ]) | (refine wpZ_pu (v := ?_) _ (by rfl) (by rfl) (by rfl) (by rfl) (fun W => ?_) ?_; (rotate_left; (focus ((try dsimp only at hW); go_simp; (try with_reducible rfl); done))); try simp only [Act.put, List.getElem_toArray, List.getElem_cons_zero, List.getElem_cons_succ, List.setIfInBounds_toArray, List.set_cons_zero, List.set_cons_succ]) | (refine wpZ_no _ (by rfl) (by rfl) (by rfl) (by rfl) ?_; try simp only [Act.put, List.getElem_toArray, List.getElem_cons_zero, List.getElem_cons_succ, List.setIfInBounds_toArray, List.set_cons_zero, List.set_cons_succ]) | (refine wpZ_noS _ (by rfl) (by rfl) (by rfl) (by trivial) ?_; try simp only [Act.put, List.getElem_toArray, List.getElem_cons_zero, List.getElem_cons_succ, List.setIfInBounds_toArray, List.set_cons_zero, List.set_cons_succ])))
  (simp only [wpZ])
  go_wp2
  go_ret
  exact ⟨rfl, h.drew⟩
end

end Go.Proofs.Ytpffofliemooiaa
