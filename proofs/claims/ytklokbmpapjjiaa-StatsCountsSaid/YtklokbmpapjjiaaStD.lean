/- Contracts: Totals, Mirror, Symmetric. -/
import Derived.Test.YtklokbmpapjjiaaStC
open Go.RowKit Go.Own
namespace Go.Proofs.Ytklokbmpapjjiaa

theorem check_zero {s : SV} (h : check s = 0) : 2 ≤ s.lv ∧ s.lv ≤ 16 ∧ (∀ r, r < 16 → badAt s r = false) ∧ sumTo s.c 16 ≠ 0 ∧ sumTo (ones s.c) 16 ≠ 0 := by
  by_cases h1 : s.lv < 2 ∨ 16 < s.lv
  · rw [check_lv h1] at h; cases h
  · have hb : ∀ r, r < 16 → badAt s r = false := fun r hr => by
      cases e : badAt s r with
      | false => rfl
      | true => rw [check_bad hr e] at h; cases h
    rw [check_end h1 hb] at h
    by_cases h2 : sumTo s.c 16 = 0 ∨ sumTo (ones s.c) 16 = 0
    · rw [if_pos h2] at h; cases h
    · exact ⟨by omega, by omega, hb, by omega, by omega⟩

theorem check_cases (s : SV) : check s = 0 ∨ check s = 90 := by
  unfold check
  split
  · exact .inr rfl
  · split
    · exact .inr rfl
    · split
      · exact .inr rfl
      · exact .inl rfl

def totA (s : SV) : Nat := if check s = 0 then sumTo s.c s.lv.toNat else 0
def totB (s : SV) : Nat := if check s = 0 then sumTo (ones s.c) s.lv.toNat else 0

set_option maxHeartbeats 4000000 in
theorem totals_ok (s : SV) (hs : s.ok) (w : World) (L : List Asn) (h : Hold w L) :
    Calls Try.prog 12 #[.agg (enc s).toArray] w fun e w' => e = .returned (.tuple #[.int .u64 (totA s), .int .u64 (totB s), .int .i64 (check s)]) ∧ Hold w' L := by
  have hb := h.box 26 (enc s)
  rcases check_cases s with hc | hc
  · obtain ⟨c1, c2, c3, _, _⟩ := check_zero hc
    rw [totA, totB, if_pos hc, if_pos hc]
    obtain ⟨m, hm⟩ : ∃ m : Nat, m = s.lv.toNat := ⟨_, rfl⟩
    have hlv : s.lv = m := by omega
    rw [← hm]
    have C := check_ok s hs
    rw [hc] at C ⊢
    obtain ⟨lv, c⟩ := s
    simp only at hlv c1 c2
    subst hlv
    have C3 := Lib.hid c3
    clear hm hc h c3
    go_enter Try.func12, Try.ntmps12
    go_upto_region 1 with (fail)
    refine gen_world hb (fun w1 hb => ?_)
    generalize w.heap.size = b at *
    go_upto_region 2 with (first
      | (refine wp_load26 rfl _ (by rfl) b (by rfl) hb ?_)
      | (go_at_call 19; refine (C _ _ hb).mono ?_; rintro e w2 ⟨rfl, h2⟩))
    have g0 := h2.cell 0
    rw [enc_lv] at g0
    go_upto_block 0 with (fail)
    go_wp2
    clear g0
    go_loopw [2, 3, 14] (fun x y i wr => ∃ k : Nat, k ≤ m ∧ i = .int .i64 k ∧ x = .int .u64 (sumTo c k) ∧ y = .int .u64 (sumTo (ones c) k) ∧ Hold wr (cellsA b 26 (enc ⟨m, c⟩) :: L)) (fun _ _ i _ => m - (intOf i).toNat)
    case atStart => exact ⟨0, by omega, rfl, rfl, rfl, h2⟩
    case round =>
      obtain ⟨k, hk, rfl, rfl, rfl, hr⟩ := hrel
      clear h2 hb C
      have hs1 : sumTo c k ≤ k * 4095 := sumTo_le fun r hr => (good_at (C3.out r (by omega))).1
      have hs2 : sumTo (ones c) k ≤ k * 4095 := sumTo_le fun r hr => (good_at (C3.out r (by omega))).2.1
      by_cases hlt : k < m
      · have hki : (k : Int) < m := by omega
        have ga := (hr.cell (1 + k)).trans (enc_at (i := k) (by omega) (by omega))
        have gb := (hr.cell (17 + k)).trans (enc_at (i := 16 + k) (by omega) (by omega))
        have ha := hs.2.2 k (by omega)
        have hb := hs.2.2 (16 + k) (by omega)
        simp only at ga gb ha hb
        go_wp2
        go_roundw
        case rel => exact ⟨k + 1, by omega, by go_num, by simp [sumTo], by simp [sumTo, ones], hr⟩
        case measure => simp [intOf]; omega
      · obtain rfl : k = m := by omega
        go_wp2
        go_ret3
        exact ⟨rfl, hr.drop⟩
  · rw [totA, totB, if_neg (by omega), if_neg (by omega)]
    have C := check_ok s hs
    rw [hc] at C ⊢
    clear hc
    go_enter Try.func12, Try.ntmps12
    go_upto_region 1 with (fail)
    refine gen_world hb (fun w1 hb => ?_)
    generalize w.heap.size = b at *
    go_wp2_with (first
      | (refine wp_load26 rfl _ (by rfl) b (by rfl) hb ?_)
      | (go_at_call 19; refine (C _ _ hb).mono ?_; rintro e w2 ⟨rfl, h2⟩))
    go_ret3
    exact ⟨rfl, h2.drop⟩

set_option maxHeartbeats 4000000 in
theorem rtotals_ok (s : SV) (hs : s.ok) (w : World) (L : List Asn) (h : Hold w L) :
    Calls Try.prog 15 #[.agg (enc s).toArray] w fun e w' => e = .returned (.tuple #[.int .u64 (totA s), .int .u64 (totB s), .int .i64 (check s)]) ∧ Hold w' L := by
  have hb := h.box 26 (enc s)
  rcases check_cases s with hc | hc
  · obtain ⟨c1, c2, c3, _, _⟩ := check_zero hc
    rw [totA, totB, if_pos hc, if_pos hc]
    obtain ⟨m, hm⟩ : ∃ m : Nat, m = s.lv.toNat := ⟨_, rfl⟩
    have hlv : s.lv = m := by omega
    rw [← hm]
    have C := rcheck_ok s hs
    rw [hc] at C ⊢
    obtain ⟨lv, c⟩ := s
    simp only at hlv c1 c2
    subst hlv
    have C3 := Lib.hid c3
    clear hm hc h c3
    go_enter Try.func15, Try.ntmps15
    go_upto_region 1 with (fail)
    refine gen_world hb (fun w1 hb => ?_)
    generalize w.heap.size = b at *
    go_upto_region 2 with (first
      | (refine wp_load26 rfl _ (by rfl) b (by rfl) hb ?_)
      | (go_at_call 20; refine (C _ _ hb).mono ?_; rintro e w2 ⟨rfl, h2⟩))
    have g0 := h2.cell 0
    rw [enc_lv] at g0
    go_upto_block 0 with (fail)
    go_wp2
    clear g0
    go_loopw [6, 7, 8] (fun x y i wr => ∃ k : Nat, k ≤ m ∧ i = .int .i64 k ∧ x = .int .u64 (sumTo c k) ∧ y = .int .u64 (sumTo (ones c) k) ∧ Hold wr (cellsA b 26 (enc ⟨m, c⟩) :: L)) (fun _ _ i _ => m - (intOf i).toNat)
    case atStart => exact ⟨0, by omega, rfl, rfl, rfl, h2⟩
    case round =>
      obtain ⟨k, hk, rfl, rfl, rfl, hr⟩ := hrel
      clear h2 hb C
      have hs1 : sumTo c k ≤ k * 4095 := sumTo_le fun r hr => (good_at (C3.out r (by omega))).1
      have hs2 : sumTo (ones c) k ≤ k * 4095 := sumTo_le fun r hr => (good_at (C3.out r (by omega))).2.1
      by_cases hlt : k < m
      · have hki : (k : Int) < m := by omega
        have g0 := hr.cell 0
        rw [enc_lv] at g0
        have ga := (hr.cell (1 + k)).trans (enc_at (i := k) (by omega) (by omega))
        have gb := (hr.cell (17 + k)).trans (enc_at (i := 16 + k) (by omega) (by omega))
        have ha := hs.2.2 k (by omega)
        have hb := hs.2.2 (16 + k) (by omega)
        simp only at ga gb ha hb
        go_wp2
        go_roundw
        case rel => exact ⟨k + 1, by omega, by go_num, by simp [sumTo], by simp [sumTo, ones], hr⟩
        case measure => simp [intOf]; omega
      · obtain rfl : k = m := by omega
        have g0 := hr.cell 0
        rw [enc_lv] at g0
        go_wp2
        go_ret3
        exact ⟨rfl, hr.drop⟩
  · rw [totA, totB, if_neg (by omega), if_neg (by omega)]
    have C := rcheck_ok s hs
    rw [hc] at C ⊢
    clear hc
    go_enter Try.func15, Try.ntmps15
    go_upto_region 1 with (fail)
    refine gen_world hb (fun w1 hb => ?_)
    generalize w.heap.size = b at *
    go_wp2_with (first
      | (refine wp_load26 rfl _ (by rfl) b (by rfl) hb ?_)
      | (go_at_call 20; refine (C _ _ hb).mono ?_; rintro e w2 ⟨rfl, h2⟩))
    go_ret3
    exact ⟨rfl, h2.drop⟩

end Go.Proofs.Ytklokbmpapjjiaa
