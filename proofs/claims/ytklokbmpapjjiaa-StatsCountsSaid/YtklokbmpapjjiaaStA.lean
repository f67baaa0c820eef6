/- Contracts: Check. -/
import Derived.Test.YtklokbmpapjjiaaSt
open Go.RowKit Go.Own
namespace Go.Proofs.Ytklokbmpapjjiaa

set_option maxHeartbeats 4000000 in
theorem check_ok (s : SV) (hs : s.ok) (w : World) (L : List Asn) (h : Hold w L) :
    Calls Try.prog 19 #[.agg (enc s).toArray] w fun e w' => e = .returned (.int .i64 (check s)) ∧ Hold w' L := by
  obtain ⟨h1, h2, h3⟩ := hs
  have hb := h.box 26 (enc s)
  by_cases hlv : s.lv < 2 ∨ 16 < s.lv
  · have HC := Lib.hid (check_lv hlv)
    go_enter Try.func19, Try.ntmps19
    go_upto_region 1 with (fail)
    generalize w.alloc (Obj.cells (enc s).toArray 26) = w1 at *
    generalize w.heap.size = b at *
    have g0 := hb.cell 0
    rw [enc_lv] at g0
    rcases hlv with hlv | hlv
    all_goals
      go_wp2
      go_ret
      exact ⟨by rw [HC.out]; rfl, hb.drop⟩
  · have hl1 : 2 ≤ s.lv := by omega
    have hl2 : s.lv ≤ 16 := by omega
    have HC := Lib.hid (@check_end s hlv)
    clear hlv
    go_enter Try.func19, Try.ntmps19
    go_upto_region 1 with (fail)
    generalize w.alloc (Obj.cells (enc s).toArray 26) = w1 at *
    generalize w.heap.size = b at *
    have g0 := hb.cell 0
    rw [enc_lv] at g0
    go_upto_region 4 with (fail)
    have hn := hb.box 89 [.int .u32 0, .int .u32 0]
    simp only [List.toArray] at hn
    generalize w1.alloc _ = w2 at *
    generalize w1.heap.size = n at *
    have hbn := hn.ne
    clear g0 hb
    go_upto_block 0 with (fail)
    go_wp2
    go_loopw [15] (fun i wr => ∃ k : Nat, k ≤ 16 ∧ i = .int .i64 k ∧ (∀ r, r < k → badAt s r = false) ∧ Hold wr (cellsA n 89 [.int .u32 (sumTo s.c k), .int .u32 (sumTo (ones s.c) k)] :: cellsA b 26 (enc s) :: L)) (fun i _ => 16 - (intOf i).toNat)
    case atStart => exact ⟨0, by omega, rfl, fun r hr => by omega, hn⟩
    case round =>
      obtain ⟨k, hk, rfl, hbad, hr⟩ := hrel
      clear hn h
      have hs1 : sumTo s.c k ≤ k * 4095 := sumTo_le fun r hr => (good_at (hbad r hr)).1
      have hs2 : sumTo (ones s.c) k ≤ k * 4095 := sumTo_le fun r hr => (good_at (hbad r hr)).2.1
      have HB := Lib.hid hbad
      clear hbad
      have n0 := hr.cell 0
      have n1 := hr.cell 1
      simp at n0 n1
      by_cases hlt : k < 16
      · have hki : (k : Int) < 16 := by omega
        have g0 := (hr.mv 1).cell 0
        have ga := ((hr.mv 1).cell (1 + k)).trans (enc_at (i := k) (by omega) (by omega))
        have gb := ((hr.mv 1).cell (17 + k)).trans (enc_at (i := 16 + k) (by omega) (by omega))
        rw [enc_lv] at g0
        have f0 := hr.frozen 0
        have f1 := hr.frozen 1
        have ha := h3 k (by omega)
        have hb := h3 (16 + k) (by omega)
        go_upto_region 7 with (fail)
        go_quiet (fail)
        have HR := hr.drewN nq
        go_wp2_with fail
        all_goals (try simp only [beq_iff_eq, beq_eq_false_iff_ne] at *)
        all_goals first
          | (go_ret; exact ⟨by rw [check_bad hlt (bad_of (by omega))]; rfl, HR.drop.drop⟩)
          | (go_roundw
             case rel =>
               refine ⟨k + 1, by omega, by go_num, fun r hr => ?_, ?_⟩
               · by_cases e : r = k
                 · subst e; exact good_of (by omega)
                 · exact HB.out r (by omega)
               · exact ((HR.st 0 _).st 1 _).as (by simp [sumTo, ones]; try omega)
             case measure => simp [intOf]; omega)
      · obtain rfl : k = 16 := by omega
        have HE := Lib.hid (HC.out HB.out)
        clear HB HC
        go_wp2_with fail
        all_goals (try simp only [beq_iff_eq, beq_eq_false_iff_ne] at *)
        all_goals
          go_ret
          exact ⟨by rw [HE.out]; first | (rw [if_pos (by omega)]; rfl) | (rw [if_neg (by omega)]; rfl), hr.drop.drop⟩
end Go.Proofs.Ytklokbmpapjjiaa
