/- The laws on two channels, and on none: their walks. -/
import Derived.Test.YtlfchokafpodcaaChanX
open Go.RowKit Go.Own
namespace Go.Proofs.Ytlfchokafpodcaa

theorem isOp.fr {w w' : World} {S F : List Nat} {v : Value} (h : isOp w S v) (hf : Fr F w w') (hS : ∀ k, k ∈ S → k ∉ F) : isOp w' S v := by
  obtain ⟨K, N, lev, W, ao, n, cap, h1, h2, h3⟩ := h
  exact ⟨K, N, lev, W, ao, n, cap, h1, h2.fr hf hS, h3⟩

/-- Both channels, alike; F: all their blocks. -/
def Pair (w : World) (top : Nat) (pv qv : Value) (F : List Nat) : Prop :=
  ∃ so F1 G1, F = F1 ++ G1 ∧ PCh w pv so F1 ∧ RCh w qv so G1 ∧ (∀ k, k ∈ F1 → k ∉ G1) ∧ ∀ k, k ∈ F → top ≤ k

theorem Pair.fr {w w' : World} {top : Nat} {pv qv : Value} {F H : List Nat} (h : Pair w top pv qv F) (hf : Fr H w w') (hd : ∀ k, k ∈ F → k ∉ H) : Pair w' top pv qv F := by
  obtain ⟨so, F1, G1, rfl, h1, h2, h3, h4⟩ := h
  exact ⟨so, F1, G1, rfl, h1.fr hf (fun k hk => hd k (by simp [hk])), h2.fr hf (fun k hk => hd k (by simp [hk])), h3, h4⟩

theorem Pair.lt {w : World} {top : Nat} {pv qv : Value} {F : List Nat} (h : Pair w top pv qv F) : ∀ k, k ∈ F → k < w.heap.size := by
  obtain ⟨so, F1, G1, rfl, h1, h2, h3, h4⟩ := h
  intro k hk
  rcases List.mem_append.1 hk with hk | hk
  · exact h1.lt k hk
  · exact h2.lt k hk

def PairPost (w : World) (top : Nat) (pv qv : Value) (F : List Nat) (e : Ending) (w' : World) : Prop :=
  e = .returned (.bool true) ∧ ∃ F', Pair w' top pv qv F' ∧ Fr F w w' ∧ ∀ k, k ∈ F' → k ∈ F ∨ w.heap.size ≤ k

theorem asks_pair {w : World} {top : Nat} {pv qv v : Value} {F S : List Nat} (h : Pair w top pv qv F) (ht : top ≤ w.heap.size) (hv : isOp w S v) (hS : ∀ k, k ∈ S → k < top) :
    Calls Try.prog 23 #[pv, qv, v] w (PairPost w top pv qv F) := by
  obtain ⟨so, F1, G1, rfl, h1, h2, h3, h4⟩ := h
  refine (asks_ok so pv qv v F1 G1 S w h1 h2 h3 hv (fun k hk hk2 => ?_) (fun k hk hk2 => ?_)).mono fun e w' ⟨he, so', F', G', g1, g2, g3, g4, g5, g6⟩ => ?_
  · have := hS k hk; have := h4 k (by simp [hk2]); omega
  · have := hS k hk; have := h4 k (by simp [hk2]); omega
  · have key : ∀ k, k ∈ F' ++ G' → k ∈ F1 ++ G1 ∨ w.heap.size ≤ k := fun k hk => by
      rcases List.mem_append.1 hk with hk | hk
      · rcases g5 k hk with h | h
        · exact .inl (by simp [h])
        · exact .inr h
      · rcases g6 k hk with h | h
        · exact .inl (by simp [h])
        · exact .inr h
    refine ⟨he, F' ++ G', ⟨so', F', G', rfl, g1, g2, g3, fun k hk => ?_⟩, g4, key⟩
    rcases key k hk with h | h
    · exact h4 k h
    · omega

theorem looks_pair {w : World} {top : Nat} {pv qv : Value} {F : List Nat} (h : Pair w top pv qv F) : Calls Try.prog 22 #[pv, qv] w fun e w' => e = .returned (.bool true) ∧ Fr [] w w' := by
  obtain ⟨so, F1, G1, rfl, h1, h2, h3, h4⟩ := h
  exact looks_ok so pv qv F1 G1 w h1 h2

theorem Pair.none' {w : World} {top : Nat} : Pair w top (.pointer none) (.pointer none) [] := ⟨none, [], [], rfl, .inl ⟨rfl, rfl⟩, ⟨rfl, rfl⟩, by simp, by simp⟩
theorem Pair.zero {w : World} {top b : Nat} (hc : w.cell? ⟨b, 0, none⟩ = some (.int .i64 0)) (hb : b < w.heap.size) (ht : top ≤ b) : Pair w top (.pointer (some ⟨b, 0, none⟩)) (.pointer none) [b] :=
  ⟨none, [b], [], rfl, .inr ⟨b, rfl, hc, hb, rfl⟩, ⟨rfl, rfl⟩, by simp, by simpa using ht⟩
theorem Pair.mk' {w : World} {top b c : Nat} {s : CS} (hp : Ch 53 w b s []) (hq : Ch 60 w c s []) (hbc : b ≠ c) (hb : top ≤ b) (hc : top ≤ c) : Pair w top (.pointer (some ⟨b, 0, none⟩)) (.pointer (some ⟨c, 0, none⟩)) [b, c] :=
  ⟨some s, [b], [c], rfl, PCh.mk hp, RCh.mk hq, by simpa using hbc, by simp; omega⟩

set_option maxHeartbeats 2000000 in
theorem nil_walk (v : Value) (n : Nat) (w : World) (hs : Script w w.heap.size v n) :
    Calls Try.prog 8 #[v] w fun e w' => e = .returned (.bool true) ∧ Fr [] w w' := by
  have hs' := hs
  obtain ⟨sao, scap, hv, _⟩ := hs'
  subst hv
  have hnm := hs.bound
  unfold maxLen at hnm
  go_enter Try.func8, Try.ntmps8
  go_wp2_with fail
  have hb0 := Blk.new w 53 [.int .i64 0, .int .i64 0, .slice none 0 0, .int .u64 0]
  have hal : Fr [] w (w.alloc (.cells [.int .i64 0, .int .i64 0, .slice none 0 0, .int .u64 0].toArray 53)) := (Fr.refl _ _).alloc _
  simp only [List.toArray] at hb0 hal
  have hz0 : Pair _ w.heap.size (.pointer (some ⟨w.heap.size, 0, none⟩)) (.pointer none) [w.heap.size] := Pair.zero (by simp) hb0.lt (Nat.le_refl _)
  go_loopw [5] (fun i wr => ∃ (k : Nat) (F : List Nat), k ≤ n ∧ i = .int .i64 k ∧ Pair wr w.heap.size (.pointer (some ⟨w.heap.size, 0, none⟩)) (.pointer none) F ∧ Fr [] w wr) (fun i _ => n - (intOf i).toNat)
  case atStart => exact ⟨0, _, by omega, rfl, hz0, hal⟩
  case round =>
    clear hb0 hal hz0
    obtain ⟨k, F, hk, rfl, hz, hf⟩ := hrel
    have hsz := hf.size
    have hsr := hs.fr hf (Nat.le_refl _) (by simp)
    by_cases hlt : k < n
    · obtain ⟨b, o, cap, K, N, lev, ao, m, c, S, hv, hcap, hb, c0, c1, c2, c3, hop, hS⟩ := hsr.op hlt
      simp only [Value.slice.injEq, true_and] at hv
      obtain ⟨rfl, rfl⟩ := hv
      have hki : (k : Int) < n := by omega
      have hk1 := asks_pair (Pair.none' (w := wr) (top := w.heap.size)) hsz hop hS
      go_wp2_with (first
        | (go_at_call 23; refine hk1.mono ?_; rintro e w5 ⟨rfl, F1, hp1, hf5, hF1⟩;
           have d0 := (hf5.cell (p := ⟨b, o + k * 4, none⟩) (by show b < _; omega) (by simp)).trans c0;
           have d1 := (hf5.cell (p := ⟨b, o + k * 4 + 1, none⟩) (by show b < _; omega) (by simp)).trans c1;
           have d2 := (hf5.cell (p := ⟨b, o + k * 4 + 2, none⟩) (by show b < _; omega) (by simp)).trans c2;
           have d3 := (hf5.cell (p := ⟨b, o + k * 4 + 3, none⟩) (by show b < _; omega) (by simp)).trans c3;
           have hop5 := hop.fr hf5 (by simp);
           have hk2 := asks_pair (hz.fr hf5 (by simp)) (Nat.le_trans hsz hf5.size) hop5 hS; clear hk1)
        | (go_at_call 23; refine hk2.mono ?_; rintro e w6 ⟨rfl, F2, hp2, hf6, hF2⟩))
      go_roundw
      case rel =>
        refine ⟨k + 1, F2, by omega, by go_num, hp2, (hf.trans hf5 (by simp)).trans hf6 (fun k hk => .inr ?_)⟩
        obtain ⟨_, _, _, _, _, _, _, h4⟩ := hz
        exact h4 k hk
      case measure => simp [intOf]; omega
    · have hlk1 := looks_pair (Pair.none' (w := wr) (top := w.heap.size))
      go_wp2_with (first
        | (go_at_call 22; refine hlk1.mono ?_; rintro e w5 ⟨rfl, hf5⟩; have hlk2 := looks_pair (hz.fr hf5 (by simp)); clear hlk1)
        | (go_at_call 22; refine hlk2.mono ?_; rintro e w6 ⟨rfl, hf6⟩)
        | (go_at_call 11; refine (knows_ok _).mono ?_; rintro e w7 ⟨rfl, hf7⟩))
      go_ret
      exact ⟨rfl, ((hf.trans hf5 (by simp)).trans hf6 (by simp)).trans hf7 (by simp)⟩

set_option maxHeartbeats 4000000 in
theorem two_bad (room levels : Int) (v1 v2 : Value) (n1 n2 : Nat) (w : World) (hs1 : Script w w.heap.size v1 n1) (hs2 : Script w w.heap.size v2 n2) (h : ¬ (1 ≤ room ∧ room ≤ 65536 ∧ 2 ≤ levels ∧ levels ≤ 16)) :
    Calls Try.prog 7 #[.int .i64 room, .int .i64 levels, v1, v2] w fun e w' => e = .returned (.bool true) ∧ Fr [] w w' := by
  have hs' := hs1
  obtain ⟨sao1, scap1, hv, _⟩ := hs'
  subst hv
  have hs' := hs2
  obtain ⟨sao2, scap2, hv, _⟩ := hs'
  subst hv
  have hnm1 := hs1.bound
  have hnm2 := hs2.bound
  unfold maxLen at hnm1 hnm2
  go_enter Try.func7, Try.ntmps7
  have P1 := new_bad room levels w h
  have P2 := new_ok 9 16 w (by omega) (by omega) (by omega) (by omega)
  go_wp2_with (first
    | (go_at_call 9; refine P1.mono ?_; rintro e w' ⟨rfl, rfl⟩; clear P1)
    | (go_at_call 9; refine P2.mono ?_; rintro e w2 ⟨g, rfl, hg, hgh, hf2⟩; clear P2; have P3 := rnew_bad room levels w2 h; have P4 := rnew_ok 9 16 w2 (by omega) (by omega) (by omega) (by omega))
    | (go_at_call 21; refine P3.mono ?_; rintro e w' ⟨rfl, rfl⟩; clear P3)
    | (go_at_call 21; refine P4.mono ?_; rintro e w4 ⟨h, rfl, hh, hhh, hf4⟩; clear P4)
    | (go_at_call 10; refine (num_any _ _).mono ?_; rintro e w' ⟨rfl, rfl⟩)
    | (go_at_call 11; refine (knows_ok _).mono ?_; rintro e w9 ⟨rfl, hf9⟩))
  have lg := hgh.lt g (by simp)
  have hs2' := hf2.size
  have hz1 : Pair w9 w.heap.size (.pointer none) (.pointer none) [] := Pair.none'
  have hz2 : Pair w9 w.heap.size (.pointer (some ⟨g, 0, none⟩)) (.pointer (some ⟨h, 0, none⟩)) [g, h] := (Pair.mk' (hgh.fr hf4 (by simp)) hhh (by omega) (by omega) (by omega)).fr hf9 (by simp)
  have hfall : Fr [] w w9 := (hf2.trans hf4 (by simp)).trans hf9 (by simp)
  go_loopw [17] (fun i wr => ∃ (k : Nat) (F1 F2 : List Nat), (k ≤ n1 ∨ k ≤ n2) ∧ i = .int .i64 k ∧ Pair wr w.heap.size (.pointer none) (.pointer none) F1 ∧ Pair wr w.heap.size (.pointer (some ⟨g, 0, none⟩)) (.pointer (some ⟨h, 0, none⟩)) F2 ∧ (∀ k, k ∈ F1 → k ∉ F2) ∧ Fr [] w wr) (fun i _ => max n1 n2 - (intOf i).toNat)
  case atStart => exact ⟨0, _, _, by omega, rfl, hz1, hz2, by simp <;> omega, hfall⟩
  case round =>
    obtain ⟨k, F1, F2, hk1, rfl, hz1, hz2, hd, hf⟩ := hrel
    have hsz := hf.size
    have hsr1 := hs1.fr hf (Nat.le_refl _) (by simp)
    have hsr2 := hs2.fr hf (Nat.le_refl _) (by simp)
    have ht1 : ∀ k, k ∈ F1 → w.heap.size ≤ k := by obtain ⟨_, _, _, _, _, _, _, h4⟩ := hz1; exact h4
    have ht2 : ∀ k, k ∈ F2 → w.heap.size ≤ k := by obtain ⟨_, _, _, _, _, _, _, h4⟩ := hz2; exact h4
    by_cases hl1 : k < n1
    · obtain ⟨b, o, cap, K, N, lev, ao, m, c, S, hv, hcap, hb, c0, c1, c2, c3, hop, hS⟩ := hsr1.op hl1
      simp only [Value.slice.injEq, true_and] at hv
      obtain ⟨rfl, rfl⟩ := hv
      have hki : (k : Int) < n1 := by omega
      have hq1 := asks_pair hz1 hsz hop hS
      by_cases hl2 : k < n2
      · obtain ⟨b2, o2, cap2, K2, N2, lev2, ao2, m2, x2, S2, hv, hcap2, hb2, e0, e1, e2, e3, hop2, hS2⟩ := hsr2.op hl2
        simp only [Value.slice.injEq, true_and] at hv
        obtain ⟨rfl, rfl⟩ := hv
        have hki2 : (k : Int) < n2 := by omega
        go_wp2_with (first
          | (go_at_call 23; refine hq1.mono ?_; rintro e w5 ⟨rfl, F1', hp1, hf5, hF1⟩;
             have hno : ∀ q, q < w.heap.size → q ∉ F1 := (fun q hq hq2 => by have := ht1 q hq2; omega);
             have d0 := (hf5.cell (p := ⟨b2, o2 + k * 4, none⟩) (by show b2 < _; omega) (hno b2 hb2)).trans e0;
             have d1 := (hf5.cell (p := ⟨b2, o2 + k * 4 + 1, none⟩) (by show b2 < _; omega) (hno b2 hb2)).trans e1;
             have d2 := (hf5.cell (p := ⟨b2, o2 + k * 4 + 2, none⟩) (by show b2 < _; omega) (hno b2 hb2)).trans e2;
             have d3 := (hf5.cell (p := ⟨b2, o2 + k * 4 + 3, none⟩) (by show b2 < _; omega) (hno b2 hb2)).trans e3;
             have hop5 := hop2.fr hf5 (fun q hq => hno q (hS2 q hq));
             have hz5 := hz2.fr hf5 (fun q hq hq2 => hd q hq2 hq);
             have hq2 := asks_pair hz5 (Nat.le_trans hsz hf5.size) hop5 hS2; clear hq1)
          | (go_at_call 23; refine hq2.mono ?_; rintro e w6 ⟨rfl, F2', hp2, hf6, hF2⟩))
        go_roundw
        case rel =>
          have l1 := hz1.lt
          have l2 := hz2.lt
          have l3 := hp1.lt
          have hd1 : ∀ q, q ∈ F1' → q ∉ F2 := fun q hq hq2 => by
            rcases hF1 q hq with h | h
            · exact hd q h hq2
            · have := l2 q hq2; omega
          refine ⟨k + 1, F1', F2', by omega, by go_num, hp1.fr hf6 hd1, hp2, fun q hq hq2 => ?_, (hf.trans hf5 (fun k hk => .inr (ht1 k hk))).trans hf6 (fun k hk => .inr (ht2 k hk))⟩
          rcases hF2 q hq2 with h | h
          · exact hd1 q hq h
          · have := l3 q hq; omega
        case measure => simp [intOf]; omega
      · have hki2 : ¬ (k : Int) < n2 := by omega
        go_wp2_with (go_at_call 23; refine hq1.mono ?_; rintro e w5 ⟨rfl, F1', hp1, hf5, hF1⟩)
        go_roundw
        case rel =>
          have l2 := hz2.lt
          refine ⟨k + 1, F1', F2, by omega, by go_num, hp1, hz2.fr hf5 (fun q hq hq2 => hd q hq2 hq), fun q hq hq2 => ?_, hf.trans hf5 (fun k hk => .inr (ht1 k hk))⟩
          rcases hF1 q hq with h | h
          · exact hd q h hq2
          · have := l2 q hq2; omega
        case measure => simp [intOf]; omega
    · have hki : ¬ (k : Int) < n1 := by omega
      by_cases hl2 : k < n2
      · obtain ⟨b2, o2, cap2, K2, N2, lev2, ao2, m2, x2, S2, hv, hcap2, hb2, e0, e1, e2, e3, hop2, hS2⟩ := hsr2.op hl2
        simp only [Value.slice.injEq, true_and] at hv
        obtain ⟨rfl, rfl⟩ := hv
        have hki2 : (k : Int) < n2 := by omega
        have hq2 := asks_pair hz2 hsz hop2 hS2
        go_wp2_with (go_at_call 23; refine hq2.mono ?_; rintro e w6 ⟨rfl, F2', hp2, hf6, hF2⟩)
        go_roundw
        case rel =>
          have l1 := hz1.lt
          refine ⟨k + 1, F1, F2', by omega, by go_num, hz1.fr hf6 hd, hp2, fun q hq hq2 => ?_, hf.trans hf6 (fun k hk => .inr (ht2 k hk))⟩
          rcases hF2 q hq2 with h | h
          · exact hd q hq h
          · have := l1 q hq; omega
        case measure => simp [intOf]; omega
      · have hki2 : ¬ (k : Int) < n2 := by omega
        have hlk1 := looks_pair hz1
        go_wp2_with (first
          | (go_at_call 22; refine hlk1.mono ?_; rintro e w5 ⟨rfl, hf5⟩; have hlk2 := looks_pair (hz2.fr hf5 (by simp)); clear hlk1)
          | (go_at_call 22; refine hlk2.mono ?_; rintro e w6 ⟨rfl, hf6⟩))
        go_ret
        exact ⟨rfl, (hf.trans hf5 (by simp)).trans hf6 (by simp)⟩

set_option maxHeartbeats 4000000 in
theorem two_good (room levels : Int) (v1 v2 : Value) (n1 n2 : Nat) (w : World) (hs1 : Script w w.heap.size v1 n1) (hs2 : Script w w.heap.size v2 n2) (h1 : 1 ≤ room) (h2 : room ≤ 65536) (h3 : 2 ≤ levels) (h4 : levels ≤ 16) :
    Calls Try.prog 7 #[.int .i64 room, .int .i64 levels, v1, v2] w fun e w' => e = .returned (.bool true) ∧ Fr [] w w' := by
  have hs' := hs1
  obtain ⟨sao1, scap1, hv, _⟩ := hs'
  subst hv
  have hs' := hs2
  obtain ⟨sao2, scap2, hv, _⟩ := hs'
  subst hv
  have hnm1 := hs1.bound
  have hnm2 := hs2.bound
  unfold maxLen at hnm1 hnm2
  go_enter Try.func7, Try.ntmps7
  have P1 := new_ok room levels w h1 h2 h3 h4
  go_wp2_with (first
    | (go_at_call 9; refine P1.mono ?_; rintro e w1 ⟨p, rfl, hp, hph, hf1⟩; clear P1; have P2 := new_ok 9 16 w1 (by omega) (by omega) (by omega) (by omega))
    | (go_at_call 9; refine P2.mono ?_; rintro e w2 ⟨g, rfl, hg, hgh, hf2⟩; clear P2; have P3 := rnew_ok room levels w2 h1 h2 h3 h4)
    | (go_at_call 21; refine P3.mono ?_; rintro e w3 ⟨q, rfl, hq, hqh, hf3⟩; clear P3; have P4 := rnew_ok 9 16 w3 (by omega) (by omega) (by omega) (by omega))
    | (go_at_call 21; refine P4.mono ?_; rintro e w4 ⟨h, rfl, hh, hhh, hf4⟩; clear P4)
    | (go_at_call 10; refine (num_any _ _).mono ?_; rintro e w' ⟨rfl, rfl⟩)
    | (go_at_call 11; refine (knows_ok _).mono ?_; rintro e w9 ⟨rfl, hf9⟩))
  have lp := hph.lt p (by simp)
  have lg := hgh.lt g (by simp)
  have lq := hqh.lt q (by simp)
  have z1 := hf1.size
  have z2 := hf2.size
  have z3 := hf3.size
  have hz1 : Pair w9 w.heap.size (.pointer (some ⟨p, 0, none⟩)) (.pointer (some ⟨q, 0, none⟩)) [p, q] := (Pair.mk' ((hph.fr hf2 (by simp)).fr (hf3.trans hf4 (by simp)) (by simp)) (hqh.fr hf4 (by simp)) (by omega) (by omega) (by omega)).fr hf9 (by simp)
  have hz2 : Pair w9 w.heap.size (.pointer (some ⟨g, 0, none⟩)) (.pointer (some ⟨h, 0, none⟩)) [g, h] := (Pair.mk' (hgh.fr (hf3.trans hf4 (by simp)) (by simp)) hhh (by omega) (by omega) (by omega)).fr hf9 (by simp)
  have hfall : Fr [] w w9 := (((hf1.trans hf2 (by simp)).trans hf3 (by simp)).trans hf4 (by simp)).trans hf9 (by simp)
  go_loopw [17] (fun i wr => ∃ (k : Nat) (F1 F2 : List Nat), (k ≤ n1 ∨ k ≤ n2) ∧ i = .int .i64 k ∧ Pair wr w.heap.size (.pointer (some ⟨p, 0, none⟩)) (.pointer (some ⟨q, 0, none⟩)) F1 ∧ Pair wr w.heap.size (.pointer (some ⟨g, 0, none⟩)) (.pointer (some ⟨h, 0, none⟩)) F2 ∧ (∀ k, k ∈ F1 → k ∉ F2) ∧ Fr [] w wr) (fun i _ => max n1 n2 - (intOf i).toNat)
  case atStart => exact ⟨0, _, _, by omega, rfl, hz1, hz2, by simp <;> omega, hfall⟩
  case round =>
    obtain ⟨k, F1, F2, hk1, rfl, hz1, hz2, hd, hf⟩ := hrel
    have hsz := hf.size
    have hsr1 := hs1.fr hf (Nat.le_refl _) (by simp)
    have hsr2 := hs2.fr hf (Nat.le_refl _) (by simp)
    have ht1 : ∀ k, k ∈ F1 → w.heap.size ≤ k := by obtain ⟨_, _, _, _, _, _, _, h4⟩ := hz1; exact h4
    have ht2 : ∀ k, k ∈ F2 → w.heap.size ≤ k := by obtain ⟨_, _, _, _, _, _, _, h4⟩ := hz2; exact h4
    by_cases hl1 : k < n1
    · obtain ⟨b, o, cap, K, N, lev, ao, m, c, S, hv, hcap, hb, c0, c1, c2, c3, hop, hS⟩ := hsr1.op hl1
      simp only [Value.slice.injEq, true_and] at hv
      obtain ⟨rfl, rfl⟩ := hv
      have hki : (k : Int) < n1 := by omega
      have hq1 := asks_pair hz1 hsz hop hS
      by_cases hl2 : k < n2
      · obtain ⟨b2, o2, cap2, K2, N2, lev2, ao2, m2, x2, S2, hv, hcap2, hb2, e0, e1, e2, e3, hop2, hS2⟩ := hsr2.op hl2
        simp only [Value.slice.injEq, true_and] at hv
        obtain ⟨rfl, rfl⟩ := hv
        have hki2 : (k : Int) < n2 := by omega
        go_wp2_with (first
          | (go_at_call 23; refine hq1.mono ?_; rintro e w5 ⟨rfl, F1', hp1, hf5, hF1⟩;
             have hno : ∀ q, q < w.heap.size → q ∉ F1 := (fun q hq hq2 => by have := ht1 q hq2; omega);
             have d0 := (hf5.cell (p := ⟨b2, o2 + k * 4, none⟩) (by show b2 < _; omega) (hno b2 hb2)).trans e0;
             have d1 := (hf5.cell (p := ⟨b2, o2 + k * 4 + 1, none⟩) (by show b2 < _; omega) (hno b2 hb2)).trans e1;
             have d2 := (hf5.cell (p := ⟨b2, o2 + k * 4 + 2, none⟩) (by show b2 < _; omega) (hno b2 hb2)).trans e2;
             have d3 := (hf5.cell (p := ⟨b2, o2 + k * 4 + 3, none⟩) (by show b2 < _; omega) (hno b2 hb2)).trans e3;
             have hop5 := hop2.fr hf5 (fun q hq => hno q (hS2 q hq));
             have hz5 := hz2.fr hf5 (fun q hq hq2 => hd q hq2 hq);
             have hq2 := asks_pair hz5 (Nat.le_trans hsz hf5.size) hop5 hS2; clear hq1)
          | (go_at_call 23; refine hq2.mono ?_; rintro e w6 ⟨rfl, F2', hp2, hf6, hF2⟩))
        go_roundw
        case rel =>
          have l1 := hz1.lt
          have l2 := hz2.lt
          have l3 := hp1.lt
          have hd1 : ∀ q, q ∈ F1' → q ∉ F2 := fun q hq hq2 => by
            rcases hF1 q hq with h | h
            · exact hd q h hq2
            · have := l2 q hq2; omega
          refine ⟨k + 1, F1', F2', by omega, by go_num, hp1.fr hf6 hd1, hp2, fun q hq hq2 => ?_, (hf.trans hf5 (fun k hk => .inr (ht1 k hk))).trans hf6 (fun k hk => .inr (ht2 k hk))⟩
          rcases hF2 q hq2 with h | h
          · exact hd1 q hq h
          · have := l3 q hq; omega
        case measure => simp [intOf]; omega
      · have hki2 : ¬ (k : Int) < n2 := by omega
        go_wp2_with (go_at_call 23; refine hq1.mono ?_; rintro e w5 ⟨rfl, F1', hp1, hf5, hF1⟩)
        go_roundw
        case rel =>
          have l2 := hz2.lt
          refine ⟨k + 1, F1', F2, by omega, by go_num, hp1, hz2.fr hf5 (fun q hq hq2 => hd q hq2 hq), fun q hq hq2 => ?_, hf.trans hf5 (fun k hk => .inr (ht1 k hk))⟩
          rcases hF1 q hq with h | h
          · exact hd q h hq2
          · have := l2 q hq2; omega
        case measure => simp [intOf]; omega
    · have hki : ¬ (k : Int) < n1 := by omega
      by_cases hl2 : k < n2
      · obtain ⟨b2, o2, cap2, K2, N2, lev2, ao2, m2, x2, S2, hv, hcap2, hb2, e0, e1, e2, e3, hop2, hS2⟩ := hsr2.op hl2
        simp only [Value.slice.injEq, true_and] at hv
        obtain ⟨rfl, rfl⟩ := hv
        have hki2 : (k : Int) < n2 := by omega
        have hq2 := asks_pair hz2 hsz hop2 hS2
        go_wp2_with (go_at_call 23; refine hq2.mono ?_; rintro e w6 ⟨rfl, F2', hp2, hf6, hF2⟩)
        go_roundw
        case rel =>
          have l1 := hz1.lt
          refine ⟨k + 1, F1, F2', by omega, by go_num, hz1.fr hf6 hd, hp2, fun q hq hq2 => ?_, hf.trans hf6 (fun k hk => .inr (ht2 k hk))⟩
          rcases hF2 q hq2 with h | h
          · exact hd q hq h
          · have := l1 q hq; omega
        case measure => simp [intOf]; omega
      · have hki2 : ¬ (k : Int) < n2 := by omega
        have hlk1 := looks_pair hz1
        go_wp2_with (first
          | (go_at_call 22; refine hlk1.mono ?_; rintro e w5 ⟨rfl, hf5⟩; have hlk2 := looks_pair (hz2.fr hf5 (by simp)); clear hlk1)
          | (go_at_call 22; refine hlk2.mono ?_; rintro e w6 ⟨rfl, hf6⟩))
        go_ret
        exact ⟨rfl, (hf.trans hf5 (by simp)).trans hf6 (by simp)⟩

theorem two_walk (room levels : Int) (v1 v2 : Value) (n1 n2 : Nat) (w : World) (hs1 : Script w w.heap.size v1 n1) (hs2 : Script w w.heap.size v2 n2) :
    Calls Try.prog 7 #[.int .i64 room, .int .i64 levels, v1, v2] w fun e w' => e = .returned (.bool true) ∧ Fr [] w w' := by
  by_cases h : 1 ≤ room ∧ room ≤ 65536 ∧ 2 ≤ levels ∧ levels ≤ 16
  · exact two_good room levels v1 v2 n1 n2 w hs1 hs2 h.1 h.2.1 h.2.2.1 h.2.2.2
  · exact two_bad room levels v1 v2 n1 n2 w hs1 hs2 h

end Go.Proofs.Ytlfchokafpodcaa
