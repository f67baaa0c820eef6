/- The walk of StatsRises. -/
import Derived.Test.YtklokbmpapjjiaaQtB
open Go.RowKit Go.Own
namespace Go.Proofs.Ytklokbmpapjjiaa

def RisRel (n : Nat) (b : Nat) (xs : List Int) (C : Asn) (L : List Asn) (i : Value) (wr : World) : Prop := ∃ k : Nat, k ≤ n ∧ i = .int .i64 k ∧ Hold wr (quA 87 b xs :: C :: L)

set_option maxHeartbeats 1000000 in
set_option maxRecDepth 20000 in
theorem rises_ok (xs : List Int) (hI : Inc xs) (hF : Fits xs) (C : Asn) (ao : Option Addr) (n cap : Nat) (hR : Reads C 1 (.slice ao n cap) n (is xs)) (h1 : 1 ≤ n) (h15 : n ≤ 15) (a c : Int) (w : World) (L : List Asn) (h : Hold w (C :: L)) :
    Calls Try.prog 8 #[.slice ao n cap, .int .i64 a, .int .i64 c] w fun e w' => e = .returned (.bool true) ∧ Hold w' (C :: L) := by
  obtain ⟨S0, hrd0⟩ := h.reads hR
  have hb1 := hrd0.bounds.1
  rw [is_length, Nat.mul_one] at hb1
  clear hrd0
  have P1 := steps_ok xs C ao n cap hR h1 h15 hI
  have P2 := fun x b w L h => level_ok xs hI x b (by omega) w L h
  have P3 := fun b w L h => levels_ok xs b (by omega) w L h
  rw [if_neg (by omega), hb1] at P3
  have HI := Lib.hid hI
  have HF := Lib.hid hF
  clear hI hF
  have hn1 : (1 : Int) ≤ n := by omega
  have hn15 : (n : Int) ≤ 15 := by omega
  obtain ⟨lo, hlo⟩ : ∃ lo, lo = min a c := ⟨_, rfl⟩
  obtain ⟨hi, hhi⟩ : ∃ hi, hi = max a c := ⟨_, rfl⟩
  have hmm : lo ≤ hi := by omega
  have hv1 := lvl_mono xs hmm
  have hv2 := lvl_le xs hi
  rw [hb1] at hv2
  have Q1 := P2 lo
  have Q2 := P2 hi
  generalize lvl xs lo = u at *
  generalize lvl xs hi = v at *
  have HB := Lib.hid hb1
  have HL := Lib.hid hlo
  have HH := Lib.hid hhi
  clear hlo hhi hb1 h1 h15
  rcases Int.lt_trichotomy a c with hac | hac | hac
  · have k1 : a ≤ c := by omega
    have k2 : ¬ c < a := by omega
    have k3 : ¬ c ≤ a := by omega
    have el : lo = a := by have := HL.out; omega
    have eh : hi = c := by have := HH.out; omega
    clear HL HH
    subst el eh
    have d1 : decide (v < u) = false := by simp; omega
    have d2 : decide ((n : Int) + 1 ≤ v) = false := by simp; omega
    go_enter Try.func8, Try.ntmps8
    go_upto_region 4 with (first
      | (go_at_call 32; refine (P1 _ _ h).mono ?_; rintro e w1 ⟨b, rfl, h1⟩)
      | (go_at_call 18; refine (num_any _ _ _ h1).mono ?_; rintro e w' ⟨rfl, rfl⟩)
      | (go_at_call 21; refine (knows_ok _ _ h1).mono ?_; rintro e w2 ⟨rfl, h2⟩))
    clear h h1 P1
    go_upto_region 8 with (first
      | (go_at_call 34; first
          | (with_reducible refine (Q2 b _ _ h3).mono ?_; rintro e w4 ⟨rfl, h4⟩)
          | (with_reducible refine (Q1 b _ _ h2).mono ?_; rintro e w3 ⟨rfl, h3⟩))
      | (go_at_call 33; refine (P3 b _ _ h4).mono ?_; rintro e w' ⟨rfl, rfl⟩))
    clear h2 h3 Q1 Q2 P3
    go_wp2
    clear d1 d2

    go_loopw [11] (fun i wr => RisRel n b xs C L i wr) (fun i _ => n - (intOf i).toNat)
    case atStart => exact ⟨0, by omega, rfl, h4⟩
    case round =>
      clear h4
      obtain ⟨k, hk, rfl, hr⟩ := hrel
      by_cases hlt : k < n
      · have hki : (k : Int) < n := by omega
        obtain ⟨S, hrd⟩ := (hr.mv 1).reads hR
        obtain ⟨rb, ro, rfl, -, -, hcs⟩ := hrd.addr (by omega)
        have hkx : k < xs.length := by have := HB.out; omega
        have c0 := (hcs k (by omega)).trans (is_get hkx)
        have l1 := lvl_at HI.out k hkx
        have l2 := lvl_pre HI.out k hkx
        obtain ⟨f1, f2⟩ := HF.out k hkx
        have G : ∀ W, Hold W (quA 87 b xs :: C :: L) → W.cell? ⟨rb, ro + k, none⟩ = some (.int .i64 xs[k]) := fun W hW => by
          obtain ⟨S2, hrd2⟩ := (hW.mv 1).reads hR
          obtain ⟨rb2, ro2, he, -, -, hcs2⟩ := hrd2.addr (by omega)
          simp only [Option.some.injEq, Addr.mk.injEq, and_true] at he
          obtain ⟨rfl, rfl⟩ := he
          exact (hcs2 k (by omega)).trans (is_get hkx)
        have R1 := P2 (xs[k])
        have R2 := P2 (xs[k] - 1)
        rw [l1] at R1
        rw [l2] at R2
        generalize xs[k] = y at *
        have HG := Lib.hid G
        clear hcs hrd l1 l2 G
        go_upto_region 11 with (fail)
        have hS := hr.drew
        have g1 := HG.out _ hS
        have W0 : IntKind.i64.wrap (((k + 1 : Nat) : Int)) = ((k + 1 : Nat) : Int) := IntWalk.i64_in _ (by omega)
        have W1 : IntKind.i64.wrap ((k : Int) + 1) = (k : Int) + 1 := IntWalk.i64_in _ (by omega)
        have W2 : IntKind.i64.wrap (k : Int) = (k : Int) := IntWalk.i64_in _ (by omega)
        by_cases hy : y = -9223372036854775808
        · have W3 : IntKind.i64.wrap (y - 1) = 9223372036854775807 := by rw [hy]; decide
          have W4 : decide ((9223372036854775807 : Int) < y) = false := by simp; omega
          clear hy
          refine wp_region_Z (fun W => W.cell? ⟨rb, ro + k, none⟩ = some (.int .i64 y)) [4, 6, 14, 19, 26, 29] [] [0, 1, 2, 3, 7, 8, 9, 10, 11, 12, 13, 15, 16, 17, 18, 20, 21, 22, 23, 24, 25, 27, 30, 31, 32, 33] [0, 1, 2, 3, 4, 7, 8, 5, 6, 9, 10, 11, 12, 13, 14, 15, 16, 17, 18, 19, 20, 21, 22, 23, 24, 25, 26, 27, 30, 28, 29, 31, 32, 33] (by kernel_rfl) (by kernel_rfl) ?_
          (repeat (first | (refine wpZ_st (v := ?_) _ (by rfl) (by rfl) (by rfl) (fun W hW => ?_) g1 ?_; (rotate_left; (focus ((try dsimp only at hW); go_simp; (try with_reducible rfl); done))); try simp only [Act.put, List.getElem_toArray, List.getElem_cons_zero, List.getElem_cons_succ, List.setIfInBounds_toArray, List.set_cons_zero, List.set_cons_succ]) | (refine wpZ_pu (v := ?_) _ (by rfl) (by rfl) (by rfl) (by rfl) (fun W => ?_) ?_; (rotate_left; (focus ((try dsimp only at hW); go_simp; (try with_reducible rfl); done))); try simp only [Act.put, List.getElem_toArray, List.getElem_cons_zero, List.getElem_cons_succ, List.setIfInBounds_toArray, List.set_cons_zero, List.set_cons_succ]) | (refine wpZ_no _ (by rfl) (by rfl) (by rfl) (by rfl) ?_; try simp only [Act.put, List.getElem_toArray, List.getElem_cons_zero, List.getElem_cons_succ, List.setIfInBounds_toArray, List.set_cons_zero, List.set_cons_succ]) | (refine wpZ_noS _ (by rfl) (by rfl) (by rfl) g1 ?_; try simp only [Act.put, List.getElem_toArray, List.getElem_cons_zero, List.getElem_cons_succ, List.setIfInBounds_toArray, List.set_cons_zero, List.set_cons_succ])))
          refine wpZ_eff _ (by rfl) (by rfl) (by rfl) (by rfl) (fun K hK => ?_)
          go_simp
          refine (R1 b _ _ hS).mono ?_
          rintro e w5 ⟨rfl, h5⟩
          have g2 := HG.out _ h5
          dsimp only
          (refine hK _ _ (fun hl => ?_) ?_; (first | (focus (cases hl; done)) | exact g2); clear hK K; try simp only [Act.put, List.getElem_toArray, List.getElem_cons_zero, List.getElem_cons_succ, List.setIfInBounds_toArray, List.set_cons_zero, List.set_cons_succ])
          (repeat (first | (refine wpZ_st (v := ?_) _ (by rfl) (by rfl) (by rfl) (fun W hW => ?_) g2 ?_; (rotate_left; (focus ((try dsimp only at hW); go_simp; (try with_reducible rfl); done))); try simp only [Act.put, List.getElem_toArray, List.getElem_cons_zero, List.getElem_cons_succ, List.setIfInBounds_toArray, List.set_cons_zero, List.set_cons_succ]) | (refine wpZ_pu (v := ?_) _ (by rfl) (by rfl) (by rfl) (by rfl) (fun W => ?_) ?_; (rotate_left; (focus ((try dsimp only at hW); go_simp; (try with_reducible rfl); done))); try simp only [Act.put, List.getElem_toArray, List.getElem_cons_zero, List.getElem_cons_succ, List.setIfInBounds_toArray, List.set_cons_zero, List.set_cons_succ]) | (refine wpZ_no _ (by rfl) (by rfl) (by rfl) (by rfl) ?_; try simp only [Act.put, List.getElem_toArray, List.getElem_cons_zero, List.getElem_cons_succ, List.setIfInBounds_toArray, List.set_cons_zero, List.set_cons_succ]) | (refine wpZ_noS _ (by rfl) (by rfl) (by rfl) g2 ?_; try simp only [Act.put, List.getElem_toArray, List.getElem_cons_zero, List.getElem_cons_succ, List.setIfInBounds_toArray, List.set_cons_zero, List.set_cons_succ])))
          refine wpZ_noE _ (by rfl) (by rfl) (by rfl) (by rfl) (fun _ => g2) ?_
          try simp only [Act.put, List.getElem_toArray, List.getElem_cons_zero, List.getElem_cons_succ, List.setIfInBounds_toArray, List.set_cons_zero, List.set_cons_succ]
          (repeat (first | (refine wpZ_st (v := ?_) _ (by rfl) (by rfl) (by rfl) (fun W hW => ?_) g2 ?_; (rotate_left; (focus ((try dsimp only at hW); go_simp; (try with_reducible rfl); done))); try simp only [Act.put, List.getElem_toArray, List.getElem_cons_zero, List.getElem_cons_succ, List.setIfInBounds_toArray, List.set_cons_zero, List.set_cons_succ]) | (refine wpZ_pu (v := ?_) _ (by rfl) (by rfl) (by rfl) (by rfl) (fun W => ?_) ?_; (rotate_left; (focus ((try dsimp only at hW); go_simp; (try with_reducible rfl); done))); try simp only [Act.put, List.getElem_toArray, List.getElem_cons_zero, List.getElem_cons_succ, List.setIfInBounds_toArray, List.set_cons_zero, List.set_cons_succ]) | (refine wpZ_no _ (by rfl) (by rfl) (by rfl) (by rfl) ?_; try simp only [Act.put, List.getElem_toArray, List.getElem_cons_zero, List.getElem_cons_succ, List.setIfInBounds_toArray, List.set_cons_zero, List.set_cons_succ]) | (refine wpZ_noS _ (by rfl) (by rfl) (by rfl) g2 ?_; try simp only [Act.put, List.getElem_toArray, List.getElem_cons_zero, List.getElem_cons_succ, List.setIfInBounds_toArray, List.set_cons_zero, List.set_cons_succ])))
          (simp only [wpZ])
          clear W0 W1 W2 W3 W4
          go_wp2
          go_roundw
          case rel => exact ⟨k + 1, by omega, by go_num, h5⟩
          case measure => simp [intOf]; omega
        · have W3 : IntKind.i64.wrap (y - 1) = y - 1 := IntWalk.i64_in _ (by omega)
          have W4 : decide (y - 1 < y) = true := by simp; omega
          have W5 : y - 1 < y := by omega
          clear hy
          refine wp_region_Z (fun W => W.cell? ⟨rb, ro + k, none⟩ = some (.int .i64 y)) [4, 6, 14, 19, 26, 29] [] [0, 1, 2, 3, 7, 8, 9, 10, 11, 12, 13, 15, 16, 17, 18, 20, 21, 22, 23, 24, 25, 27, 30, 31, 32, 33] [0, 1, 2, 3, 4, 7, 8, 5, 6, 9, 10, 11, 12, 13, 14, 15, 16, 17, 18, 19, 20, 21, 22, 23, 24, 25, 26, 27, 30, 28, 29, 31, 32, 33] (by kernel_rfl) (by kernel_rfl) ?_
          (repeat (first | (refine wpZ_st (v := ?_) _ (by rfl) (by rfl) (by rfl) (fun W hW => ?_) g1 ?_; (rotate_left; (focus ((try dsimp only at hW); go_simp; (try with_reducible rfl); done))); try simp only [Act.put, List.getElem_toArray, List.getElem_cons_zero, List.getElem_cons_succ, List.setIfInBounds_toArray, List.set_cons_zero, List.set_cons_succ]) | (refine wpZ_pu (v := ?_) _ (by rfl) (by rfl) (by rfl) (by rfl) (fun W => ?_) ?_; (rotate_left; (focus ((try dsimp only at hW); go_simp; (try with_reducible rfl); done))); try simp only [Act.put, List.getElem_toArray, List.getElem_cons_zero, List.getElem_cons_succ, List.setIfInBounds_toArray, List.set_cons_zero, List.set_cons_succ]) | (refine wpZ_no _ (by rfl) (by rfl) (by rfl) (by rfl) ?_; try simp only [Act.put, List.getElem_toArray, List.getElem_cons_zero, List.getElem_cons_succ, List.setIfInBounds_toArray, List.set_cons_zero, List.set_cons_succ]) | (refine wpZ_noS _ (by rfl) (by rfl) (by rfl) g1 ?_; try simp only [Act.put, List.getElem_toArray, List.getElem_cons_zero, List.getElem_cons_succ, List.setIfInBounds_toArray, List.set_cons_zero, List.set_cons_succ])))
          refine wpZ_eff _ (by rfl) (by rfl) (by rfl) (by rfl) (fun K hK => ?_)
          go_simp
          refine (R1 b _ _ hS).mono ?_
          rintro e w5 ⟨rfl, h5⟩
          have g2 := HG.out _ h5
          dsimp only
          (refine hK _ _ (fun hl => ?_) ?_; (first | (focus (cases hl; done)) | exact g2); clear hK K; try simp only [Act.put, List.getElem_toArray, List.getElem_cons_zero, List.getElem_cons_succ, List.setIfInBounds_toArray, List.set_cons_zero, List.set_cons_succ])
          (repeat (first | (refine wpZ_st (v := ?_) _ (by rfl) (by rfl) (by rfl) (fun W hW => ?_) g2 ?_; (rotate_left; (focus ((try dsimp only at hW); go_simp; (try with_reducible rfl); done))); try simp only [Act.put, List.getElem_toArray, List.getElem_cons_zero, List.getElem_cons_succ, List.setIfInBounds_toArray, List.set_cons_zero, List.set_cons_succ]) | (refine wpZ_pu (v := ?_) _ (by rfl) (by rfl) (by rfl) (by rfl) (fun W => ?_) ?_; (rotate_left; (focus ((try dsimp only at hW); go_simp; (try with_reducible rfl); done))); try simp only [Act.put, List.getElem_toArray, List.getElem_cons_zero, List.getElem_cons_succ, List.setIfInBounds_toArray, List.set_cons_zero, List.set_cons_succ]) | (refine wpZ_no _ (by rfl) (by rfl) (by rfl) (by rfl) ?_; try simp only [Act.put, List.getElem_toArray, List.getElem_cons_zero, List.getElem_cons_succ, List.setIfInBounds_toArray, List.set_cons_zero, List.set_cons_succ]) | (refine wpZ_noS _ (by rfl) (by rfl) (by rfl) g2 ?_; try simp only [Act.put, List.getElem_toArray, List.getElem_cons_zero, List.getElem_cons_succ, List.setIfInBounds_toArray, List.set_cons_zero, List.set_cons_succ])))
          refine wpZ_eff _ (by rfl) (by rfl) (by rfl) (by rfl) (fun K hK => ?_)
          go_simp
          refine (R2 b _ _ h5).mono ?_
          rintro e w6 ⟨rfl, h6⟩
          have g3 := HG.out _ h6
          dsimp only
          (refine hK _ _ (fun hl => ?_) ?_; (first | (focus (cases hl; done)) | exact g3); clear hK K; try simp only [Act.put, List.getElem_toArray, List.getElem_cons_zero, List.getElem_cons_succ, List.setIfInBounds_toArray, List.set_cons_zero, List.set_cons_succ])
          (repeat (first | (refine wpZ_st (v := ?_) _ (by rfl) (by rfl) (by rfl) (fun W hW => ?_) g3 ?_; (rotate_left; (focus ((try dsimp only at hW); go_simp; (try with_reducible rfl); done))); try simp only [Act.put, List.getElem_toArray, List.getElem_cons_zero, List.getElem_cons_succ, List.setIfInBounds_toArray, List.set_cons_zero, List.set_cons_succ]) | (refine wpZ_pu (v := ?_) _ (by rfl) (by rfl) (by rfl) (by rfl) (fun W => ?_) ?_; (rotate_left; (focus ((try dsimp only at hW); go_simp; (try with_reducible rfl); done))); try simp only [Act.put, List.getElem_toArray, List.getElem_cons_zero, List.getElem_cons_succ, List.setIfInBounds_toArray, List.set_cons_zero, List.set_cons_succ]) | (refine wpZ_no _ (by rfl) (by rfl) (by rfl) (by rfl) ?_; try simp only [Act.put, List.getElem_toArray, List.getElem_cons_zero, List.getElem_cons_succ, List.setIfInBounds_toArray, List.set_cons_zero, List.set_cons_succ]) | (refine wpZ_noS _ (by rfl) (by rfl) (by rfl) g3 ?_; try simp only [Act.put, List.getElem_toArray, List.getElem_cons_zero, List.getElem_cons_succ, List.setIfInBounds_toArray, List.set_cons_zero, List.set_cons_succ])))
          (simp only [wpZ])
          clear W0 W1 W2 W3 W4
          go_wp2
          go_roundw
          case rel => exact ⟨k + 1, by omega, by go_num, h6⟩
          case measure => simp [intOf]; omega
      · obtain rfl : n = k := by omega
        go_wp2
        go_ret
        exact ⟨rfl, hr.drop⟩
  · subst hac
    have el : lo = a := by have := HL.out; omega
    have eh : hi = a := by have := HH.out; omega
    clear HL HH
    subst el eh
    have d1 : decide (v < u) = false := by simp; omega
    have d2 : decide ((n : Int) + 1 ≤ v) = false := by simp; omega
    go_enter Try.func8, Try.ntmps8
    go_upto_region 4 with (first
      | (go_at_call 32; refine (P1 _ _ h).mono ?_; rintro e w1 ⟨b, rfl, h1⟩)
      | (go_at_call 18; refine (num_any _ _ _ h1).mono ?_; rintro e w' ⟨rfl, rfl⟩)
      | (go_at_call 21; refine (knows_ok _ _ h1).mono ?_; rintro e w2 ⟨rfl, h2⟩))
    clear h h1 P1
    go_upto_region 8 with (first
      | (go_at_call 34; first
          | (with_reducible refine (Q2 b _ _ h3).mono ?_; rintro e w4 ⟨rfl, h4⟩)
          | (with_reducible refine (Q1 b _ _ h2).mono ?_; rintro e w3 ⟨rfl, h3⟩))
      | (go_at_call 33; refine (P3 b _ _ h4).mono ?_; rintro e w' ⟨rfl, rfl⟩))
    clear h2 h3 Q1 Q2 P3
    go_wp2
    clear d1 d2

    go_loopw [11] (fun i wr => RisRel n b xs C L i wr) (fun i _ => n - (intOf i).toNat)
    case atStart => exact ⟨0, by omega, rfl, h4⟩
    case round =>
      clear h4
      obtain ⟨k, hk, rfl, hr⟩ := hrel
      by_cases hlt : k < n
      · have hki : (k : Int) < n := by omega
        obtain ⟨S, hrd⟩ := (hr.mv 1).reads hR
        obtain ⟨rb, ro, rfl, -, -, hcs⟩ := hrd.addr (by omega)
        have hkx : k < xs.length := by have := HB.out; omega
        have c0 := (hcs k (by omega)).trans (is_get hkx)
        have l1 := lvl_at HI.out k hkx
        have l2 := lvl_pre HI.out k hkx
        obtain ⟨f1, f2⟩ := HF.out k hkx
        have G : ∀ W, Hold W (quA 87 b xs :: C :: L) → W.cell? ⟨rb, ro + k, none⟩ = some (.int .i64 xs[k]) := fun W hW => by
          obtain ⟨S2, hrd2⟩ := (hW.mv 1).reads hR
          obtain ⟨rb2, ro2, he, -, -, hcs2⟩ := hrd2.addr (by omega)
          simp only [Option.some.injEq, Addr.mk.injEq, and_true] at he
          obtain ⟨rfl, rfl⟩ := he
          exact (hcs2 k (by omega)).trans (is_get hkx)
        have R1 := P2 (xs[k])
        have R2 := P2 (xs[k] - 1)
        rw [l1] at R1
        rw [l2] at R2
        generalize xs[k] = y at *
        have HG := Lib.hid G
        clear hcs hrd l1 l2 G
        go_upto_region 11 with (fail)
        have hS := hr.drew
        have g1 := HG.out _ hS
        have W0 : IntKind.i64.wrap (((k + 1 : Nat) : Int)) = ((k + 1 : Nat) : Int) := IntWalk.i64_in _ (by omega)
        have W1 : IntKind.i64.wrap ((k : Int) + 1) = (k : Int) + 1 := IntWalk.i64_in _ (by omega)
        have W2 : IntKind.i64.wrap (k : Int) = (k : Int) := IntWalk.i64_in _ (by omega)
        by_cases hy : y = -9223372036854775808
        · have W3 : IntKind.i64.wrap (y - 1) = 9223372036854775807 := by rw [hy]; decide
          have W4 : decide ((9223372036854775807 : Int) < y) = false := by simp; omega
          clear hy
          refine wp_region_Z (fun W => W.cell? ⟨rb, ro + k, none⟩ = some (.int .i64 y)) [4, 6, 14, 19, 26, 29] [] [0, 1, 2, 3, 7, 8, 9, 10, 11, 12, 13, 15, 16, 17, 18, 20, 21, 22, 23, 24, 25, 27, 30, 31, 32, 33] [0, 1, 2, 3, 4, 7, 8, 5, 6, 9, 10, 11, 12, 13, 14, 15, 16, 17, 18, 19, 20, 21, 22, 23, 24, 25, 26, 27, 30, 28, 29, 31, 32, 33] (by kernel_rfl) (by kernel_rfl) ?_
          (repeat (first | (refine wpZ_st (v := ?_) _ (by rfl) (by rfl) (by rfl) (fun W hW => ?_) g1 ?_; (rotate_left; (focus ((try dsimp only at hW); go_simp; (try with_reducible rfl); done))); try simp only [Act.put, List.getElem_toArray, List.getElem_cons_zero, List.getElem_cons_succ, List.setIfInBounds_toArray, List.set_cons_zero, List.set_cons_succ]) | (refine wpZ_pu (v := ?_) _ (by rfl) (by rfl) (by rfl) (by rfl) (fun W => ?_) ?_; (rotate_left; (focus ((try dsimp only at hW); go_simp; (try with_reducible rfl); done))); try simp only [Act.put, List.getElem_toArray, List.getElem_cons_zero, List.getElem_cons_succ, List.setIfInBounds_toArray, List.set_cons_zero, List.set_cons_succ]) | (refine wpZ_no _ (by rfl) (by rfl) (by rfl) (by rfl) ?_; try simp only [Act.put, List.getElem_toArray, List.getElem_cons_zero, List.getElem_cons_succ, List.setIfInBounds_toArray, List.set_cons_zero, List.set_cons_succ]) | (refine wpZ_noS _ (by rfl) (by rfl) (by rfl) g1 ?_; try simp only [Act.put, List.getElem_toArray, List.getElem_cons_zero, List.getElem_cons_succ, List.setIfInBounds_toArray, List.set_cons_zero, List.set_cons_succ])))
          refine wpZ_eff _ (by rfl) (by rfl) (by rfl) (by rfl) (fun K hK => ?_)
          go_simp
          refine (R1 b _ _ hS).mono ?_
          rintro e w5 ⟨rfl, h5⟩
          have g2 := HG.out _ h5
          dsimp only
          (refine hK _ _ (fun hl => ?_) ?_; (first | (focus (cases hl; done)) | exact g2); clear hK K; try simp only [Act.put, List.getElem_toArray, List.getElem_cons_zero, List.getElem_cons_succ, List.setIfInBounds_toArray, List.set_cons_zero, List.set_cons_succ])
          (repeat (first | (refine wpZ_st (v := ?_) _ (by rfl) (by rfl) (by rfl) (fun W hW => ?_) g2 ?_; (rotate_left; (focus ((try dsimp only at hW); go_simp; (try with_reducible rfl); done))); try simp only [Act.put, List.getElem_toArray, List.getElem_cons_zero, List.getElem_cons_succ, List.setIfInBounds_toArray, List.set_cons_zero, List.set_cons_succ]) | (refine wpZ_pu (v := ?_) _ (by rfl) (by rfl) (by rfl) (by rfl) (fun W => ?_) ?_; (rotate_left; (focus ((try dsimp only at hW); go_simp; (try with_reducible rfl); done))); try simp only [Act.put, List.getElem_toArray, List.getElem_cons_zero, List.getElem_cons_succ, List.setIfInBounds_toArray, List.set_cons_zero, List.set_cons_succ]) | (refine wpZ_no _ (by rfl) (by rfl) (by rfl) (by rfl) ?_; try simp only [Act.put, List.getElem_toArray, List.getElem_cons_zero, List.getElem_cons_succ, List.setIfInBounds_toArray, List.set_cons_zero, List.set_cons_succ]) | (refine wpZ_noS _ (by rfl) (by rfl) (by rfl) g2 ?_; try simp only [Act.put, List.getElem_toArray, List.getElem_cons_zero, List.getElem_cons_succ, List.setIfInBounds_toArray, List.set_cons_zero, List.set_cons_succ])))
          refine wpZ_noE _ (by rfl) (by rfl) (by rfl) (by rfl) (fun _ => g2) ?_
          try simp only [Act.put, List.getElem_toArray, List.getElem_cons_zero, List.getElem_cons_succ, List.setIfInBounds_toArray, List.set_cons_zero, List.set_cons_succ]
          (repeat (first | (refine wpZ_st (v := ?_) _ (by rfl) (by rfl) (by rfl) (fun W hW => ?_) g2 ?_; (rotate_left; (focus ((try dsimp only at hW); go_simp; (try with_reducible rfl); done))); try simp only [Act.put, List.getElem_toArray, List.getElem_cons_zero, List.getElem_cons_succ, List.setIfInBounds_toArray, List.set_cons_zero, List.set_cons_succ]) | (refine wpZ_pu (v := ?_) _ (by rfl) (by rfl) (by rfl) (by rfl) (fun W => ?_) ?_; (rotate_left; (focus ((try dsimp only at hW); go_simp; (try with_reducible rfl); done))); try simp only [Act.put, List.getElem_toArray, List.getElem_cons_zero, List.getElem_cons_succ, List.setIfInBounds_toArray, List.set_cons_zero, List.set_cons_succ]) | (refine wpZ_no _ (by rfl) (by rfl) (by rfl) (by rfl) ?_; try simp only [Act.put, List.getElem_toArray, List.getElem_cons_zero, List.getElem_cons_succ, List.setIfInBounds_toArray, List.set_cons_zero, List.set_cons_succ]) | (refine wpZ_noS _ (by rfl) (by rfl) (by rfl) g2 ?_; try simp only [Act.put, List.getElem_toArray, List.getElem_cons_zero, List.getElem_cons_succ, List.setIfInBounds_toArray, List.set_cons_zero, List.set_cons_succ])))
          (simp only [wpZ])
          clear W0 W1 W2 W3 W4
          go_wp2
          go_roundw
          case rel => exact ⟨k + 1, by omega, by go_num, h5⟩
          case measure => simp [intOf]; omega
        · have W3 : IntKind.i64.wrap (y - 1) = y - 1 := IntWalk.i64_in _ (by omega)
          have W4 : decide (y - 1 < y) = true := by simp; omega
          have W5 : y - 1 < y := by omega
          clear hy
          refine wp_region_Z (fun W => W.cell? ⟨rb, ro + k, none⟩ = some (.int .i64 y)) [4, 6, 14, 19, 26, 29] [] [0, 1, 2, 3, 7, 8, 9, 10, 11, 12, 13, 15, 16, 17, 18, 20, 21, 22, 23, 24, 25, 27, 30, 31, 32, 33] [0, 1, 2, 3, 4, 7, 8, 5, 6, 9, 10, 11, 12, 13, 14, 15, 16, 17, 18, 19, 20, 21, 22, 23, 24, 25, 26, 27, 30, 28, 29, 31, 32, 33] (by kernel_rfl) (by kernel_rfl) ?_
          (repeat (first | (refine wpZ_st (v := ?_) _ (by rfl) (by rfl) (by rfl) (fun W hW => ?_) g1 ?_; (rotate_left; (focus ((try dsimp only at hW); go_simp; (try with_reducible rfl); done))); try simp only [Act.put, List.getElem_toArray, List.getElem_cons_zero, List.getElem_cons_succ, List.setIfInBounds_toArray, List.set_cons_zero, List.set_cons_succ]) | (refine wpZ_pu (v := ?_) _ (by rfl) (by rfl) (by rfl) (by rfl) (fun W => ?_) ?_; (rotate_left; (focus ((try dsimp only at hW); go_simp; (try with_reducible rfl); done))); try simp only [Act.put, List.getElem_toArray, List.getElem_cons_zero, List.getElem_cons_succ, List.setIfInBounds_toArray, List.set_cons_zero, List.set_cons_succ]) | (refine wpZ_no _ (by rfl) (by rfl) (by rfl) (by rfl) ?_; try simp only [Act.put, List.getElem_toArray, List.getElem_cons_zero, List.getElem_cons_succ, List.setIfInBounds_toArray, List.set_cons_zero, List.set_cons_succ]) | (refine wpZ_noS _ (by rfl) (by rfl) (by rfl) g1 ?_; try simp only [Act.put, List.getElem_toArray, List.getElem_cons_zero, List.getElem_cons_succ, List.setIfInBounds_toArray, List.set_cons_zero, List.set_cons_succ])))
          refine wpZ_eff _ (by rfl) (by rfl) (by rfl) (by rfl) (fun K hK => ?_)
          go_simp
          refine (R1 b _ _ hS).mono ?_
          rintro e w5 ⟨rfl, h5⟩
          have g2 := HG.out _ h5
          dsimp only
          (refine hK _ _ (fun hl => ?_) ?_; (first | (focus (cases hl; done)) | exact g2); clear hK K; try simp only [Act.put, List.getElem_toArray, List.getElem_cons_zero, List.getElem_cons_succ, List.setIfInBounds_toArray, List.set_cons_zero, List.set_cons_succ])
          (repeat (first | (refine wpZ_st (v := ?_) _ (by rfl) (by rfl) (by rfl) (fun W hW => ?_) g2 ?_; (rotate_left; (focus ((try dsimp only at hW); go_simp; (try with_reducible rfl); done))); try simp only [Act.put, List.getElem_toArray, List.getElem_cons_zero, List.getElem_cons_succ, List.setIfInBounds_toArray, List.set_cons_zero, List.set_cons_succ]) | (refine wpZ_pu (v := ?_) _ (by rfl) (by rfl) (by rfl) (by rfl) (fun W => ?_) ?_; (rotate_left; (focus ((try dsimp only at hW); go_simp; (try with_reducible rfl); done))); try simp only [Act.put, List.getElem_toArray, List.getElem_cons_zero, List.getElem_cons_succ, List.setIfInBounds_toArray, List.set_cons_zero, List.set_cons_succ]) | (refine wpZ_no _ (by rfl) (by rfl) (by rfl) (by rfl) ?_; try simp only [Act.put, List.getElem_toArray, List.getElem_cons_zero, List.getElem_cons_succ, List.setIfInBounds_toArray, List.set_cons_zero, List.set_cons_succ]) | (refine wpZ_noS _ (by rfl) (by rfl) (by rfl) g2 ?_; try simp only [Act.put, List.getElem_toArray, List.getElem_cons_zero, List.getElem_cons_succ, List.setIfInBounds_toArray, List.set_cons_zero, List.set_cons_succ])))
          refine wpZ_eff _ (by rfl) (by rfl) (by rfl) (by rfl) (fun K hK => ?_)
          go_simp
          refine (R2 b _ _ h5).mono ?_
          rintro e w6 ⟨rfl, h6⟩
          have g3 := HG.out _ h6
          dsimp only
          (refine hK _ _ (fun hl => ?_) ?_; (first | (focus (cases hl; done)) | exact g3); clear hK K; try simp only [Act.put, List.getElem_toArray, List.getElem_cons_zero, List.getElem_cons_succ, List.setIfInBounds_toArray, List.set_cons_zero, List.set_cons_succ])
          (repeat (first | (refine wpZ_st (v := ?_) _ (by rfl) (by rfl) (by rfl) (fun W hW => ?_) g3 ?_; (rotate_left; (focus ((try dsimp only at hW); go_simp; (try with_reducible rfl); done))); try simp only [Act.put, List.getElem_toArray, List.getElem_cons_zero, List.getElem_cons_succ, List.setIfInBounds_toArray, List.set_cons_zero, List.set_cons_succ]) | (refine wpZ_pu (v := ?_) _ (by rfl) (by rfl) (by rfl) (by rfl) (fun W => ?_) ?_; (rotate_left; (focus ((try dsimp only at hW); go_simp; (try with_reducible rfl); done))); try simp only [Act.put, List.getElem_toArray, List.getElem_cons_zero, List.getElem_cons_succ, List.setIfInBounds_toArray, List.set_cons_zero, List.set_cons_succ]) | (refine wpZ_no _ (by rfl) (by rfl) (by rfl) (by rfl) ?_; try simp only [Act.put, List.getElem_toArray, List.getElem_cons_zero, List.getElem_cons_succ, List.setIfInBounds_toArray, List.set_cons_zero, List.set_cons_succ]) | (refine wpZ_noS _ (by rfl) (by rfl) (by rfl) g3 ?_; try simp only [Act.put, List.getElem_toArray, List.getElem_cons_zero, List.getElem_cons_succ, List.setIfInBounds_toArray, List.set_cons_zero, List.set_cons_succ])))
          (simp only [wpZ])
          clear W0 W1 W2 W3 W4
          go_wp2
          go_roundw
          case rel => exact ⟨k + 1, by omega, by go_num, h6⟩
          case measure => simp [intOf]; omega
      · obtain rfl : n = k := by omega
        go_wp2
        go_ret
        exact ⟨rfl, hr.drop⟩
  · have k1 : c ≤ a := by omega
    have k2 : ¬ a < c := by omega
    have k3 : ¬ a ≤ c := by omega
    have el : lo = c := by have := HL.out; omega
    have eh : hi = a := by have := HH.out; omega
    clear HL HH
    subst el eh
    have d1 : decide (v < u) = false := by simp; omega
    have d2 : decide ((n : Int) + 1 ≤ v) = false := by simp; omega
    go_enter Try.func8, Try.ntmps8
    go_upto_region 4 with (first
      | (go_at_call 32; refine (P1 _ _ h).mono ?_; rintro e w1 ⟨b, rfl, h1⟩)
      | (go_at_call 18; refine (num_any _ _ _ h1).mono ?_; rintro e w' ⟨rfl, rfl⟩)
      | (go_at_call 21; refine (knows_ok _ _ h1).mono ?_; rintro e w2 ⟨rfl, h2⟩))
    clear h h1 P1
    go_upto_region 8 with (first
      | (go_at_call 34; first
          | (with_reducible refine (Q2 b _ _ h3).mono ?_; rintro e w4 ⟨rfl, h4⟩)
          | (with_reducible refine (Q1 b _ _ h2).mono ?_; rintro e w3 ⟨rfl, h3⟩))
      | (go_at_call 33; refine (P3 b _ _ h4).mono ?_; rintro e w' ⟨rfl, rfl⟩))
    clear h2 h3 Q1 Q2 P3
    go_wp2
    clear d1 d2

    go_loopw [11] (fun i wr => RisRel n b xs C L i wr) (fun i _ => n - (intOf i).toNat)
    case atStart => exact ⟨0, by omega, rfl, h4⟩
    case round =>
      clear h4
      obtain ⟨k, hk, rfl, hr⟩ := hrel
      by_cases hlt : k < n
      · have hki : (k : Int) < n := by omega
        obtain ⟨S, hrd⟩ := (hr.mv 1).reads hR
        obtain ⟨rb, ro, rfl, -, -, hcs⟩ := hrd.addr (by omega)
        have hkx : k < xs.length := by have := HB.out; omega
        have c0 := (hcs k (by omega)).trans (is_get hkx)
        have l1 := lvl_at HI.out k hkx
        have l2 := lvl_pre HI.out k hkx
        obtain ⟨f1, f2⟩ := HF.out k hkx
        have G : ∀ W, Hold W (quA 87 b xs :: C :: L) → W.cell? ⟨rb, ro + k, none⟩ = some (.int .i64 xs[k]) := fun W hW => by
          obtain ⟨S2, hrd2⟩ := (hW.mv 1).reads hR
          obtain ⟨rb2, ro2, he, -, -, hcs2⟩ := hrd2.addr (by omega)
          simp only [Option.some.injEq, Addr.mk.injEq, and_true] at he
          obtain ⟨rfl, rfl⟩ := he
          exact (hcs2 k (by omega)).trans (is_get hkx)
        have R1 := P2 (xs[k])
        have R2 := P2 (xs[k] - 1)
        rw [l1] at R1
        rw [l2] at R2
        generalize xs[k] = y at *
        have HG := Lib.hid G
        clear hcs hrd l1 l2 G
        go_upto_region 11 with (fail)
        have hS := hr.drew
        have g1 := HG.out _ hS
        have W0 : IntKind.i64.wrap (((k + 1 : Nat) : Int)) = ((k + 1 : Nat) : Int) := IntWalk.i64_in _ (by omega)
        have W1 : IntKind.i64.wrap ((k : Int) + 1) = (k : Int) + 1 := IntWalk.i64_in _ (by omega)
        have W2 : IntKind.i64.wrap (k : Int) = (k : Int) := IntWalk.i64_in _ (by omega)
        by_cases hy : y = -9223372036854775808
        · have W3 : IntKind.i64.wrap (y - 1) = 9223372036854775807 := by rw [hy]; decide
          have W4 : decide ((9223372036854775807 : Int) < y) = false := by simp; omega
          clear hy
          refine wp_region_Z (fun W => W.cell? ⟨rb, ro + k, none⟩ = some (.int .i64 y)) [4, 6, 14, 19, 26, 29] [] [0, 1, 2, 3, 7, 8, 9, 10, 11, 12, 13, 15, 16, 17, 18, 20, 21, 22, 23, 24, 25, 27, 30, 31, 32, 33] [0, 1, 2, 3, 4, 7, 8, 5, 6, 9, 10, 11, 12, 13, 14, 15, 16, 17, 18, 19, 20, 21, 22, 23, 24, 25, 26, 27, 30, 28, 29, 31, 32, 33] (by kernel_rfl) (by kernel_rfl) ?_
          (repeat (first | (refine wpZ_st (v := ?_) _ (by rfl) (by rfl) (by rfl) (fun W hW => ?_) g1 ?_; (rotate_left; (focus ((try dsimp only at hW); go_simp; (try with_reducible rfl); done))); try simp only [Act.put, List.getElem_toArray, List.getElem_cons_zero, List.getElem_cons_succ, List.setIfInBounds_toArray, List.set_cons_zero, List.set_cons_succ]) | (refine wpZ_pu (v := ?_) _ (by rfl) (by rfl) (by rfl) (by rfl) (fun W => ?_) ?_; (rotate_left; (focus ((try dsimp only at hW); go_simp; (try with_reducible rfl); done))); try simp only [Act.put, List.getElem_toArray, List.getElem_cons_zero, List.getElem_cons_succ, List.setIfInBounds_toArray, List.set_cons_zero, List.set_cons_succ]) | (refine wpZ_no _ (by rfl) (by rfl) (by rfl) (by rfl) ?_; try simp only [Act.put, List.getElem_toArray, List.getElem_cons_zero, List.getElem_cons_succ, List.setIfInBounds_toArray, List.set_cons_zero, List.set_cons_succ]) | (refine wpZ_noS _ (by rfl) (by rfl) (by rfl) g1 ?_; try simp only [Act.put, List.getElem_toArray, List.getElem_cons_zero, List.getElem_cons_succ, List.setIfInBounds_toArray, List.set_cons_zero, List.set_cons_succ])))
          refine wpZ_eff _ (by rfl) (by rfl) (by rfl) (by rfl) (fun K hK => ?_)
          go_simp
          refine (R1 b _ _ hS).mono ?_
          rintro e w5 ⟨rfl, h5⟩
          have g2 := HG.out _ h5
          dsimp only
          (refine hK _ _ (fun hl => ?_) ?_; (first | (focus (cases hl; done)) | exact g2); clear hK K; try simp only [Act.put, List.getElem_toArray, List.getElem_cons_zero, List.getElem_cons_succ, List.setIfInBounds_toArray, List.set_cons_zero, List.set_cons_succ])
          (repeat (first | (refine wpZ_st (v := ?_) _ (by rfl) (by rfl) (by rfl) (fun W hW => ?_) g2 ?_; (rotate_left; (focus ((try dsimp only at hW); go_simp; (try with_reducible rfl); done))); try simp only [Act.put, List.getElem_toArray, List.getElem_cons_zero, List.getElem_cons_succ, List.setIfInBounds_toArray, List.set_cons_zero, List.set_cons_succ]) | (refine wpZ_pu (v := ?_) _ (by rfl) (by rfl) (by rfl) (by rfl) (fun W => ?_) ?_; (rotate_left; (focus ((try dsimp only at hW); go_simp; (try with_reducible rfl); done))); try simp only [Act.put, List.getElem_toArray, List.getElem_cons_zero, List.getElem_cons_succ, List.setIfInBounds_toArray, List.set_cons_zero, List.set_cons_succ]) | (refine wpZ_no _ (by rfl) (by rfl) (by rfl) (by rfl) ?_; try simp only [Act.put, List.getElem_toArray, List.getElem_cons_zero, List.getElem_cons_succ, List.setIfInBounds_toArray, List.set_cons_zero, List.set_cons_succ]) | (refine wpZ_noS _ (by rfl) (by rfl) (by rfl) g2 ?_; try simp only [Act.put, List.getElem_toArray, List.getElem_cons_zero, List.getElem_cons_succ, List.setIfInBounds_toArray, List.set_cons_zero, List.set_cons_succ])))
          refine wpZ_noE _ (by rfl) (by rfl) (by rfl) (by rfl) (fun _ => g2) ?_
          try simp only [Act.put, List.getElem_toArray, List.getElem_cons_zero, List.getElem_cons_succ, List.setIfInBounds_toArray, List.set_cons_zero, List.set_cons_succ]
          (repeat (first | (refine wpZ_st (v := ?_) _ (by rfl) (by rfl) (by rfl) (fun W hW => ?_) g2 ?_; (rotate_left; (focus ((try dsimp only at hW); go_simp; (try with_reducible rfl); done))); try simp only [Act.put, List.getElem_toArray, List.getElem_cons_zero, List.getElem_cons_succ, List.setIfInBounds_toArray, List.set_cons_zero, List.set_cons_succ]) | (refine wpZ_pu (v := ?_) _ (by rfl) (by rfl) (by rfl) (by rfl) (fun W => ?_) ?_; (rotate_left; (focus ((try dsimp only at hW); go_simp; (try with_reducible rfl); done))); try simp only [Act.put, List.getElem_toArray, List.getElem_cons_zero, List.getElem_cons_succ, List.setIfInBounds_toArray, List.set_cons_zero, List.set_cons_succ]) | (refine wpZ_no _ (by rfl) (by rfl) (by rfl) (by rfl) ?_; try simp only [Act.put, List.getElem_toArray, List.getElem_cons_zero, List.getElem_cons_succ, List.setIfInBounds_toArray, List.set_cons_zero, List.set_cons_succ]) | (refine wpZ_noS _ (by rfl) (by rfl) (by rfl) g2 ?_; try simp only [Act.put, List.getElem_toArray, List.getElem_cons_zero, List.getElem_cons_succ, List.setIfInBounds_toArray, List.set_cons_zero, List.set_cons_succ])))
          (simp only [wpZ])
          clear W0 W1 W2 W3 W4
          go_wp2
          go_roundw
          case rel => exact ⟨k + 1, by omega, by go_num, h5⟩
          case measure => simp [intOf]; omega
        · have W3 : IntKind.i64.wrap (y - 1) = y - 1 := IntWalk.i64_in _ (by omega)
          have W4 : decide (y - 1 < y) = true := by simp; omega
          have W5 : y - 1 < y := by omega
          clear hy
          refine wp_region_Z (fun W => W.cell? ⟨rb, ro + k, none⟩ = some (.int .i64 y)) [4, 6, 14, 19, 26, 29] [] [0, 1, 2, 3, 7, 8, 9, 10, 11, 12, 13, 15, 16, 17, 18, 20, 21, 22, 23, 24, 25, 27, 30, 31, 32, 33] [0, 1, 2, 3, 4, 7, 8, 5, 6, 9, 10, 11, 12, 13, 14, 15, 16, 17, 18, 19, 20, 21, 22, 23, 24, 25, 26, 27, 30, 28, 29, 31, 32, 33] (by kernel_rfl) (by kernel_rfl) ?_
          (repeat (first | (refine wpZ_st (v := ?_) _ (by rfl) (by rfl) (by rfl) (fun W hW => ?_) g1 ?_; (rotate_left; (focus ((try dsimp only at hW); go_simp; (try with_reducible rfl); done))); try simp only [Act.put, List.getElem_toArray, List.getElem_cons_zero, List.getElem_cons_succ, List.setIfInBounds_toArray, List.set_cons_zero, List.set_cons_succ]) | (refine wpZ_pu (v := ?_) _ (by rfl) (by rfl) (by rfl) (by rfl) (fun W => ?_) ?_; (rotate_left; (focus ((try dsimp only at hW); go_simp; (try with_reducible rfl); done))); try simp only [Act.put, List.getElem_toArray, List.getElem_cons_zero, List.getElem_cons_succ, List.setIfInBounds_toArray, List.set_cons_zero, List.set_cons_succ]) | (refine wpZ_no _ (by rfl) (by rfl) (by rfl) (by rfl) ?_; try simp only [Act.put, List.getElem_toArray, List.getElem_cons_zero, List.getElem_cons_succ, List.setIfInBounds_toArray, List.set_cons_zero, List.set_cons_succ]) | (refine wpZ_noS _ (by rfl) (by rfl) (by rfl) g1 ?_; try simp only [Act.put, List.getElem_toArray, List.getElem_cons_zero, List.getElem_cons_succ, List.setIfInBounds_toArray, List.set_cons_zero, List.set_cons_succ])))
          refine wpZ_eff _ (by rfl) (by rfl) (by rfl) (by rfl) (fun K hK => ?_)
          go_simp
          refine (R1 b _ _ hS).mono ?_
          rintro e w5 ⟨rfl, h5⟩
          have g2 := HG.out _ h5
          dsimp only
          (refine hK _ _ (fun hl => ?_) ?_; (first | (focus (cases hl; done)) | exact g2); clear hK K; try simp only [Act.put, List.getElem_toArray, List.getElem_cons_zero, List.getElem_cons_succ, List.setIfInBounds_toArray, List.set_cons_zero, List.set_cons_succ])
          (repeat (first | (refine wpZ_st (v := ?_) _ (by rfl) (by rfl) (by rfl) (fun W hW => ?_) g2 ?_; (rotate_left; (focus ((try dsimp only at hW); go_simp; (try with_reducible rfl); done))); try simp only [Act.put, List.getElem_toArray, List.getElem_cons_zero, List.getElem_cons_succ, List.setIfInBounds_toArray, List.set_cons_zero, List.set_cons_succ]) | (refine wpZ_pu (v := ?_) _ (by rfl) (by rfl) (by rfl) (by rfl) (fun W => ?_) ?_; (rotate_left; (focus ((try dsimp only at hW); go_simp; (try with_reducible rfl); done))); try simp only [Act.put, List.getElem_toArray, List.getElem_cons_zero, List.getElem_cons_succ, List.setIfInBounds_toArray, List.set_cons_zero, List.set_cons_succ]) | (refine wpZ_no _ (by rfl) (by rfl) (by rfl) (by rfl) ?_; try simp only [Act.put, List.getElem_toArray, List.getElem_cons_zero, List.getElem_cons_succ, List.setIfInBounds_toArray, List.set_cons_zero, List.set_cons_succ]) | (refine wpZ_noS _ (by rfl) (by rfl) (by rfl) g2 ?_; try simp only [Act.put, List.getElem_toArray, List.getElem_cons_zero, List.getElem_cons_succ, List.setIfInBounds_toArray, List.set_cons_zero, List.set_cons_succ])))
          refine wpZ_eff _ (by rfl) (by rfl) (by rfl) (by rfl) (fun K hK => ?_)
          go_simp
          refine (R2 b _ _ h5).mono ?_
          rintro e w6 ⟨rfl, h6⟩
          have g3 := HG.out _ h6
          dsimp only
          (refine hK _ _ (fun hl => ?_) ?_; (first | (focus (cases hl; done)) | exact g3); clear hK K; try simp only [Act.put, List.getElem_toArray, List.getElem_cons_zero, List.getElem_cons_succ, List.setIfInBounds_toArray, List.set_cons_zero, List.set_cons_succ])
          (repeat (first | (refine wpZ_st (v := ?_) _ (by rfl) (by rfl) (by rfl) (fun W hW => ?_) g3 ?_; (rotate_left; (focus ((try dsimp only at hW); go_simp; (try with_reducible rfl); done))); try simp only [Act.put, List.getElem_toArray, List.getElem_cons_zero, List.getElem_cons_succ, List.setIfInBounds_toArray, List.set_cons_zero, List.set_cons_succ]) | (refine wpZ_pu (v := ?_) _ (by rfl) (by rfl) (by rfl) (by rfl) (fun W => ?_) ?_; (rotate_left; (focus ((try dsimp only at hW); go_simp; (try with_reducible rfl); done))); try simp only [Act.put, List.getElem_toArray, List.getElem_cons_zero, List.getElem_cons_succ, List.setIfInBounds_toArray, List.set_cons_zero, List.set_cons_succ]) | (refine wpZ_no _ (by rfl) (by rfl) (by rfl) (by rfl) ?_; try simp only [Act.put, List.getElem_toArray, List.getElem_cons_zero, List.getElem_cons_succ, List.setIfInBounds_toArray, List.set_cons_zero, List.set_cons_succ]) | (refine wpZ_noS _ (by rfl) (by rfl) (by rfl) g3 ?_; try simp only [Act.put, List.getElem_toArray, List.getElem_cons_zero, List.getElem_cons_succ, List.setIfInBounds_toArray, List.set_cons_zero, List.set_cons_succ])))
          (simp only [wpZ])
          clear W0 W1 W2 W3 W4
          go_wp2
          go_roundw
          case rel => exact ⟨k + 1, by omega, by go_num, h6⟩
          case measure => simp [intOf]; omega
      · obtain rfl : n = k := by omega
        go_wp2
        go_ret
        exact ⟨rfl, hr.drop⟩

end Go.Proofs.Ytklokbmpapjjiaa
