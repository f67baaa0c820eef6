/- The laws that play scripts: their walks. -/
import Derived.Test.YtlfchokafpodcaaChanW
open Go.RowKit Go.Own
namespace Go.Proofs.Ytlfchokafpodcaa

/-- An operation out of a script, with the facts that its load asks for. -/
theorem Script.op {w : World} {top n i : Nat} {v : Value} (h : Script w top v n) (hi : i < n) :
    ∃ b o cap K N lev ao m c S, v = .slice (some ⟨b, o, none⟩) n cap ∧ n ≤ cap ∧ b < top ∧ w.cell? ⟨b, o + i * 4, none⟩ = some (.int .i64 K) ∧ w.cell? ⟨b, o + i * 4 + 1, none⟩ = some (.slice ao m c) ∧
      w.cell? ⟨b, o + i * 4 + 2, none⟩ = some (.int .i64 N) ∧ w.cell? ⟨b, o + i * 4 + 3, none⟩ = some (.int .u8 (UInt8.toNat lev)) ∧
      isOp w S (.agg #[.int .i64 K, .slice ao m c, .int .i64 N, .int .u8 (UInt8.toNat lev)]) ∧ ∀ k, k ∈ S → k < top := by
  obtain ⟨ao, cap, h1, h2, h3, h4⟩ := h
  rcases h4 with h4 | ⟨b, o, rfl, h6, h7⟩
  · omega
  · obtain ⟨K, N, lev, V, g1, g2, g3, g4, gN, W, ao2, n2, cap2, S, rfl, g6, g7, g8⟩ := h7 i hi
    exact ⟨b, o, cap, K, N, lev, ao2, n2, cap2, S, h1, h2, h6, g1, g2, g3, g4, ⟨K, N, lev, W, ao2, n2, cap2, rfl, g6, g7⟩, g8⟩

/-- An operation out of a script, with the facts that its load asks for. -/
theorem Script.op2 {w : World} {top n i : Nat} {v : Value} (h : Script w top v n) (hi : i < n) :
    ∃ b o cap K N lev ao m c S, v = .slice (some ⟨b, o, none⟩) n cap ∧ n ≤ cap ∧ b < top ∧ w.cell? ⟨b, o + i * 4, none⟩ = some (.int .i64 K) ∧ w.cell? ⟨b, o + i * 4 + 1, none⟩ = some (.slice ao m c) ∧
      w.cell? ⟨b, o + i * 4 + 2, none⟩ = some (.int .i64 N) ∧ w.cell? ⟨b, o + i * 4 + 3, none⟩ = some (.int .u8 (UInt8.toNat lev)) ∧
      isOp w S (.agg #[.int .i64 K, .slice ao m c, .int .i64 N, .int .u8 (UInt8.toNat lev)]) ∧ (∀ k, k ∈ S → k < top) ∧ -9223372036854775808 ≤ N ∧ N ≤ 9223372036854775807 := by
  obtain ⟨ao, cap, h1, h2, h3, h4⟩ := h
  rcases h4 with h4 | ⟨b, o, rfl, h6, h7⟩
  · omega
  · obtain ⟨K, N, lev, V, g1, g2, g3, g4, gN, W, ao2, n2, cap2, S, rfl, g6, g7, g8⟩ := h7 i hi
    exact ⟨b, o, cap, K, N, lev, ao2, n2, cap2, S, h1, h2, h6, g1, g2, g3, g4, ⟨K, N, lev, W, ao2, n2, cap2, rfl, g6, g7⟩, g8, gN⟩

theorem Script.bound {w : World} {top n : Nat} {v : Value} (h : Script w top v n) : n ≤ maxLen := by
  obtain ⟨ao, cap, h1, h2, h3, h4⟩ := h
  exact Nat.le_trans h2 h3

set_option maxHeartbeats 2000000 in
theorem plays_bad (room levels : Int) (v : Value) (n : Nat) (w : World) (hs : Script w w.heap.size v n) (h : ¬ (1 ≤ room ∧ room ≤ 65536 ∧ 2 ≤ levels ∧ levels ≤ 16)) :
    Calls Try.prog 6 #[.int .i64 room, .int .i64 levels, v] w fun e w' => e = .returned (.bool true) ∧ Fr [] w w' := by
  have hs' := hs
  obtain ⟨sao, scap, hv, _⟩ := hs'
  subst hv
  have hnm := hs.bound
  unfold maxLen at hnm
  go_enter Try.func6, Try.ntmps6
  go_wp2_with (first
    | (go_at_call 9; refine (new_bad room levels w h).mono ?_; rintro e w' ⟨rfl, rfl⟩)
    | (go_at_call 21; refine (rnew_bad room levels w h).mono ?_; rintro e w' ⟨rfl, rfl⟩; have hlk := looks_ok none (.pointer none) (.pointer none) [] [] w (.inl ⟨rfl, rfl⟩) ⟨rfl, rfl⟩)
    | (go_at_call 10; refine (num_any _ _).mono ?_; rintro e w' ⟨rfl, rfl⟩)
    | (go_at_call 22; refine hlk.mono ?_; rintro e w3 ⟨rfl, hf23⟩)
    | (go_at_call 11; refine (knows_ok _).mono ?_; rintro e w4 ⟨rfl, hf34⟩))
  go_loopw [11] (fun i wr => ∃ (k : Nat) (so : Option CS) (F G : List Nat), k ≤ n ∧ i = .int .i64 k ∧ PCh wr (.pointer none) so F ∧ RCh wr (.pointer none) so G ∧ (∀ k, k ∈ F → k ∉ G) ∧ (∀ k, k ∈ F → w.heap.size ≤ k) ∧ (∀ k, k ∈ G → w.heap.size ≤ k) ∧ Fr [] w wr) (fun i _ => n - (intOf i).toNat)
  case atStart => exact ⟨0, none, [], [], by omega, rfl, .inl ⟨rfl, rfl⟩, ⟨rfl, rfl⟩, by simp, by simp, by simp, hf23.trans hf34 (by simp)⟩
  case round =>
    obtain ⟨k, so, F, G, hk, rfl, hp, hq, hd, hF, hG, hf⟩ := hrel
    have hsr := hs.fr hf (Nat.le_refl _) (by simp)
    by_cases hlt : k < n
    · obtain ⟨b, o, cap, K, N, lev, ao, m, c, S, hv, hcap, hb, c0, c1, c2, c3, hop, hS⟩ := hsr.op hlt
      simp only [Value.slice.injEq, true_and] at hv
      obtain ⟨rfl, rfl⟩ := hv
      have hki : (k : Int) < n := by omega
      have hak := asks_ok so _ _ _ F G S wr hp hq hd hop (fun k h1 h2 => by have := hS k h1; have := hF k h2; omega) (fun k h1 h2 => by have := hS k h1; have := hG k h2; omega)
      go_wp2_with (go_at_call 23; refine hak.mono ?_; rintro e w5 ⟨rfl, so', F', G', hp', hq', hd', hf', hF', hG'⟩)
      go_roundw
      case rel =>
        have hsz := hf.size
        refine ⟨k + 1, so', F', G', by omega, by go_num, hp', hq', hd', fun k h => ?_, fun k h => ?_, hf.trans hf' (fun k h => .inr ?_)⟩
        · rcases hF' k h with h | h
          · exact hF k h
          · omega
        · rcases hG' k h with h | h
          · exact hG k h
          · omega
        · rcases List.mem_append.1 h with h | h
          · exact hF k h
          · exact hG k h
      case measure => simp [intOf]; omega
    · go_wp2_with fail
      go_ret
      exact ⟨rfl, hf⟩

set_option maxHeartbeats 2000000 in
theorem plays_good (room levels : Int) (v : Value) (n : Nat) (w : World) (hs : Script w w.heap.size v n) (h1 : 1 ≤ room) (h2 : room ≤ 65536) (h3 : 2 ≤ levels) (h4 : levels ≤ 16) :
    Calls Try.prog 6 #[.int .i64 room, .int .i64 levels, v] w fun e w' => e = .returned (.bool true) ∧ Fr [] w w' := by
  have hs' := hs
  obtain ⟨sao, scap, hv, _⟩ := hs'
  subst hv
  have hnm := hs.bound
  unfold maxLen at hnm
  go_enter Try.func6, Try.ntmps6
  go_wp2_with (first
    | (go_at_call 9; refine (new_ok room levels w h1 h2 h3 h4).mono ?_; rintro e w1 ⟨b, rfl, hb, hch, hf01⟩)
    | (go_at_call 21; refine (rnew_ok room levels w1 h1 h2 h3 h4).mono ?_; rintro e w2 ⟨c, rfl, hc, hdh, hf12⟩; have hlk := looks_ok _ _ _ _ _ w2 (PCh.mk (hch.fr hf12 (by simp))) (RCh.mk hdh))
    | (go_at_call 10; refine (num_any _ _).mono ?_; rintro e w' ⟨rfl, rfl⟩)
    | (go_at_call 22; refine hlk.mono ?_; rintro e w3 ⟨rfl, hf23⟩)
    | (go_at_call 11; refine (knows_ok _).mono ?_; rintro e w4 ⟨rfl, hf34⟩))
  have hf02 := hf01.trans hf12 (by simp)
  have hf24 := hf23.trans hf34 (by simp)
  have hf04 := hf02.trans hf24 (by simp)
  have hpc := (PCh.mk (hch.fr hf12 (by simp))).fr hf24 (by simp)
  have hqc := (RCh.mk hdh).fr hf24 (by simp)
  have hbl := hch.lt b (by simp)
  have hs1 := hf01.size
  clear hlk
  go_loopw [11] (fun i wr => ∃ (k : Nat) (so : Option CS) (F G : List Nat), k ≤ n ∧ i = .int .i64 k ∧ PCh wr (.pointer (some ⟨b, 0, none⟩)) so F ∧ RCh wr (.pointer (some ⟨c, 0, none⟩)) so G ∧ (∀ k, k ∈ F → k ∉ G) ∧ (∀ k, k ∈ F → w.heap.size ≤ k) ∧ (∀ k, k ∈ G → w.heap.size ≤ k) ∧ Fr [] w wr) (fun i _ => n - (intOf i).toNat)
  case atStart => exact ⟨0, _, _, _, by omega, rfl, hpc, hqc, by simp; omega, by simp; omega, by simp; omega, hf04⟩
  case round =>
    obtain ⟨k, so, F, G, hk, rfl, hp, hq, hd, hF, hG, hf⟩ := hrel
    have hsr := hs.fr hf (Nat.le_refl _) (by simp)
    by_cases hlt : k < n
    · obtain ⟨b, o, cap, K, N, lev, ao, m, c, S, hv, hcap, hb, c0, c1, c2, c3, hop, hS⟩ := hsr.op hlt
      simp only [Value.slice.injEq, true_and] at hv
      obtain ⟨rfl, rfl⟩ := hv
      have hki : (k : Int) < n := by omega
      have hak := asks_ok so _ _ _ F G S wr hp hq hd hop (fun k h1 h2 => by have := hS k h1; have := hF k h2; omega) (fun k h1 h2 => by have := hS k h1; have := hG k h2; omega)
      go_wp2_with (go_at_call 23; refine hak.mono ?_; rintro e w5 ⟨rfl, so', F', G', hp', hq', hd', hf', hF', hG'⟩)
      go_roundw
      case rel =>
        have hsz := hf.size
        refine ⟨k + 1, so', F', G', by omega, by go_num, hp', hq', hd', fun k h => ?_, fun k h => ?_, hf.trans hf' (fun k h => .inr ?_)⟩
        · rcases hF' k h with h | h
          · exact hF k h
          · omega
        · rcases hG' k h with h | h
          · exact hG k h
          · omega
        · rcases List.mem_append.1 h with h | h
          · exact hF k h
          · exact hG k h
      case measure => simp [intOf]; omega
    · go_wp2_with fail
      go_ret
      exact ⟨rfl, hf⟩

theorem plays_walk (room levels : Int) (v : Value) (n : Nat) (w : World) (hs : Script w w.heap.size v n) :
    Calls Try.prog 6 #[.int .i64 room, .int .i64 levels, v] w fun e w' => e = .returned (.bool true) ∧ Fr [] w w' := by
  by_cases h : 1 ≤ room ∧ room ≤ 65536 ∧ 2 ≤ levels ∧ levels ≤ 16
  · exact plays_good room levels v n w hs h.1 h.2.1 h.2.2.1 h.2.2.2
  · exact plays_bad room levels v n w hs h

end Go.Proofs.Ytlfchokafpodcaa
