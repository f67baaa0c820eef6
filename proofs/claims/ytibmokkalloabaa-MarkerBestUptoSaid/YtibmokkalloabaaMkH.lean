/- Contracts: a marker of three bits, found. -/
import Derived.Test.YtibmokkalloabaaMkG
open Go.RowKit Go.Own
namespace Go.Proofs.Ytibmokkalloabaa

theorem cells_reads (T : TypeId) (b n sz : Nat) (xs : List Value) (hl : xs.length = n * sz) (hm : n ≤ maxLen) : Reads (cellsA b T xs) sz (.slice (some ⟨b, 0, none⟩) n n) n xs := by
  rintro B w ⟨rfl, h⟩
  exact ⟨[b], ⟨hl, _, n, rfl, Nat.le_refl _, hm, .inr ⟨b, 0, rfl, rfl, h.lt, fun j _ => by simpa using h.cell j⟩⟩, by simp⟩

theorem rowF_ub (B n : Nat) : rowF B n n = ub ((List.range n).map fun i => UInt8.ofNat (bitOf B n i)) := by
  unfold rowF ub
  rw [List.map_map]
  apply List.map_congr_left
  intro i hi
  have h1 : i < n := by simpa using hi
  have h2 : bitOf B n i < 2 := by unfold bitOf; omega
  simp only [h1, if_true, Function.comp]
  congr 1
  simp; omega

theorem live_ok (w : World) (L : List Asn) (h : Hold w L) : Calls Try.prog 14 #[] w fun e w' => e = .returned (.bool true) ∧ Hold w' L := by
  have h2 := h.box2 24 5 [.int .u64 5, .int .i64 3] (ub [0, 1, 0, 1, 1])
  have PB := fun w L q h => best_ok 2 5 3 (by omega) (by omega) (by omega) (by rfl) (by omega) (by omega) [0, 1, 0, 1, 1] (cellsA q 5 (ub [0, 1, 0, 1, 1])) _ 5 5 (cells_reads 5 q 5 1 _ (by rfl) (by unfold maxLen; omega)) 0 2 (by omega) (by omega) (by rfl) w L h
  have e1 : best 0 (fun j => valAt 2 5 3 [0, 1, 0, 1, 1] (0 + j)) (2 - 0 + 1) = (1, 3) := by rfl
  rw [e1] at PB
  have PR := fun w L h => row_ok 5 3 (by omega) (by rfl) (by omega) (by omega) w L h
  have e2 : rowF 5 3 3 = ub [1, 0, 1] := by rfl
  rw [e2] at PR
  clear e1 e2
  go_enter Try.func14, Try.ntmps14
  go_upto_region 3 with (fail)
  refine gen_world h2 (fun w1 h2 => ?_)
  generalize w.heap.size = q at *
  obtain ⟨g0, g1⟩ := loadM (h2.mv 1)
  go_upto_region 4 with (go_at_call 28; refine (PB _ _ _ h2).mono ?_; rintro e w2 ⟨rfl, h3⟩)
  obtain ⟨g0, g1⟩ := loadM (h3.mv 1)
  go_upto_region 5 with (go_at_call 18; refine (PR _ _ (h3.mv 1)).mono ?_; rintro e w3 ⟨ao, rfl, h4⟩)
  go_wp2_with (first
    | (go_at_call 13; refine (num_any _ _ _ h4).mono ?_; rintro e w4 ⟨rfl, rfl⟩)
    | (go_at_call 21; have h5 := h4.box 5 (ub [1, 0, 1]); refine (same_eq [1, 0, 1] _ _ 3 3 3 3 _ (h5.mv 1).rd (h5.reads (cells_reads _ _ 3 1 _ (by rfl) (by unfold maxLen; omega)))).mono ?_; rintro e w6 ⟨rfl, rfl⟩))
  go_ret
  exact ⟨rfl, h5.drop.drop.drop.drop⟩

end Go.Proofs.Ytibmokkalloabaa
