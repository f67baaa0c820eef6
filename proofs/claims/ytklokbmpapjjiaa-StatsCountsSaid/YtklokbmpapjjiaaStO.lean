/- Contracts: Coarse. -/
import Derived.Test.YtklokbmpapjjiaaStN
open Go.RowKit Go.Own
namespace Go.Proofs.Ytklokbmpapjjiaa

def pairC (c : Nat → Nat) (i : Nat) : Nat := c (16 * (i / 16) + 2 * (i % 16)) + c (16 * (i / 16) + 2 * (i % 16) + 1)
def coaD (c : Nat → Nat) (h q k : Nat) : Nat → Nat := fun i => if (i / 16 < q ∧ i % 16 < h) ∨ (i / 16 = q ∧ i % 16 < k) then pairC c i else 0
theorem coaD_zero (c : Nat → Nat) (h : Nat) : coaD c h 0 0 = fun _ => 0 := by funext i; simp [coaD]
theorem coaD_step (c : Nat → Nat) (h q k i j x : Nat) (hk : k < 16) (hj : j = 16 * q + k) (hx : x = pairC c j) : upd (coaD c h q k) j x i = coaD c h q (k + 1) i := by
  unfold upd coaD
  by_cases h1 : i = j
  · rw [if_pos h1, if_pos (.inr (by omega)), h1]; exact hx
  · rw [if_neg h1]
    by_cases h2 : (i / 16 < q ∧ i % 16 < h) ∨ (i / 16 = q ∧ i % 16 < k)
    · rw [if_pos h2, if_pos (by omega)]
    · rw [if_neg h2, if_neg (by omega)]
theorem coaD_next (c : Nat → Nat) (h q i : Nat) : coaD c h q h i = coaD c h (q + 1) 0 i := by
  unfold coaD
  by_cases h1 : (i / 16 < q ∧ i % 16 < h) ∨ (i / 16 = q ∧ i % 16 < h)
  · rw [if_pos h1, if_pos (by omega)]
  · rw [if_neg h1, if_neg (by omega)]
theorem coaD_at (c : Nat → Nat) (h q k i : Nat) (hi : i = 16 * q + k) (hk : k < 16) : coaD c h q k i = 0 := by
  unfold coaD; rw [if_neg (by omega)]
def coaC (c : Nat → Nat) (h : Nat) : Nat → Nat := fun i => if i % 16 < h then pairC c i else 0
theorem coaD_end (c : Nat → Nat) (h i : Nat) (hi : i < 32) : coaD c h 2 0 i = coaC c h i := by
  unfold coaD coaC
  by_cases h1 : i % 16 < h
  · rw [if_pos (by omega), if_pos h1]
  · rw [if_neg (by omega), if_neg h1]
def overC (c : Nat → Nat) (h : Nat) : Bool := (List.range 32).any fun i => decide (i % 16 < h) && decide (4095 < pairC c i)
theorem overC_true {c : Nat → Nat} {h : Nat} (i : Nat) (hi : i < 32) (hh : i % 16 < h) (hp : 4095 < pairC c i) : overC c h = true := List.any_eq_true.2 ⟨i, by simpa using hi, by simp [hh, hp]⟩
theorem overC_false {c : Nat → Nat} {h : Nat} (hp : ∀ i, i < 32 → i % 16 < h → pairC c i ≤ 4095) : overC c h = false := by
  rw [overC, List.any_eq_false]
  intro i hi
  have := hp i (by simpa using hi)
  simp; omega
def coaE (s : SV) : Nat := if check s ≠ 0 then 90 else if s.lv % 2 ≠ 0 ∨ s.lv = 2 then 5 else if overC s.c (s.lv.toNat / 2) = true then 2 else 0
def coaV (s : SV) : SV := if coaE s = 0 then ⟨(s.lv.toNat / 2 : Nat), coaC s.c (s.lv.toNat / 2)⟩ else ⟨0, fun _ => 0⟩
theorem coa_of {s : SV} {e : Nat} (h : coaE s = e) (he : e ≠ 0) : coaE s = e ∧ coaV s = ⟨0, fun _ => 0⟩ := ⟨h, by rw [coaV, if_neg (by omega)]⟩
theorem coa_1 {s : SV} (h : check s ≠ 0) : coaE s = 90 := by rw [coaE, if_pos h]
theorem coa_2 {s : SV} (h : check s = 0) (h3 : s.lv % 2 ≠ 0 ∨ s.lv = 2) : coaE s = 5 := by rw [coaE, if_neg (by omega), if_pos h3]
theorem coa_3 {s : SV} (h : check s = 0) (h3 : ¬ (s.lv % 2 ≠ 0 ∨ s.lv = 2)) (h4 : overC s.c (s.lv.toNat / 2) = true) : coaE s = 2 := by rw [coaE, if_neg (by omega), if_neg h3, if_pos h4]
theorem coa_4 {s : SV} (h : check s = 0) (h3 : ¬ (s.lv % 2 ≠ 0 ∨ s.lv = 2)) (h4 : overC s.c (s.lv.toNat / 2) = false) : coaE s = 0 ∧ coaV s = ⟨(s.lv.toNat / 2 : Nat), coaC s.c (s.lv.toNat / 2)⟩ := by
  have : coaE s = 0 := by rw [coaE, if_neg (by omega), if_neg h3, if_neg (by rw [h4]; simp)]
  exact ⟨this, by rw [coaV, if_pos this]⟩
theorem coaV_ok {s : SV} (hs : s.ok) : (coaV s).ok := by
  unfold coaV
  split
  · rename_i h
    by_cases h1 : check s ≠ 0
    · rw [coa_1 h1] at h; cases h
    · have h0 : check s = 0 := by omega
      obtain ⟨h2, h3, -, -, -⟩ := check_zero h0
      refine ⟨by show -9223372036854775808 ≤ ((s.lv.toNat / 2 : Nat) : Int); omega, by show ((s.lv.toNat / 2 : Nat) : Int) ≤ 9223372036854775807; omega, fun i hi => ?_⟩
      show coaC s.c (s.lv.toNat / 2) i < _
      unfold coaC
      split
      · unfold pairC
        have := check_le (s := s) h0 (i := 16 * (i / 16) + 2 * (i % 16)) (by omega)
        have := check_le (s := s) h0 (i := 16 * (i / 16) + 2 * (i % 16) + 1) (by omega)
        omega
      · omega
  · exact zero_ok

set_option maxHeartbeats 8000000 in
set_option maxRecDepth 20000 in
theorem coarse_ok (s : SV) (hs : s.ok) (w : World) (L : List Asn) (h : Hold w L) :
    Calls Try.prog 24 #[.agg (enc s).toArray] w fun e w' => e = .returned (.tuple #[.agg (enc (coaV s)).toArray, .int .i64 (coaE s)]) ∧ Hold w' L := by
  have hb := h.box2Z s 0
  have C := check_ok s hs
  clear h
  rcases check_cases s with hc | hc
  · obtain ⟨c1, c2, -, -, -⟩ := check_zero hc
    by_cases hl : s.lv % 2 ≠ 0 ∨ s.lv = 2
    · obtain ⟨e1, e2⟩ := coa_of (coa_2 hc hl) (by omega)
      rw [e1, e2]
      rw [hc] at C
      clear hc e1 e2
      obtain ⟨lv, c⟩ := s
      simp only at hl c1 c2
      go_enter Try.func24, Try.ntmps24
      go_upto_region 1 with (fail)
      refine gen_world hb (fun w1 hb => ?_)
      generalize w.heap.size + 1 = r at *
      generalize w.heap.size = b at *
      go_upto_region 2 with (first
        | (refine wpList_yw (by rfl) (exec_load26 (by rfl) (by rfl) (hb.mv 1)) ?_)
        | (go_at_call 19; refine (C _ _ hb).mono ?_; rintro e w2 ⟨rfl, h2⟩))
      have g0 := ((h2.mv 1).cell 0).trans (enc_lv _)
      simp only at g0
      have hm : lv % 2 = 0 ∨ lv % 2 = 1 := by omega
      have hT : lv.tmod 2 = lv % 2 := Int.tmod_eq_emod_of_nonneg (by omega)
      rcases hm with hm | hm
      · obtain rfl : lv = 2 := by omega
        go_wp2_with (first
          | (refine wp_store26 rfl _ _ (by rfl) r (by rfl) ⟨0, fun _ => 0⟩ (by rfl) h2 (fun w4 h4 => ?_)))
        exact bodyPost_ret (res_cell_tmp (loadV26 h4) (by rfl) (by rfl) (by rfl)) rfl ⟨rfl, h4.drop.drop⟩
      · have hl : True := trivial
        go_wp2_with (first
          | (refine wp_store26 rfl _ _ (by rfl) r (by rfl) ⟨0, fun _ => 0⟩ (by rfl) h2 (fun w4 h4 => ?_)))
        exact bodyPost_ret (res_cell_tmp (loadV26 h4) (by rfl) (by rfl) (by rfl)) rfl ⟨rfl, h4.drop.drop⟩
    · have E3 := Lib.hid (fun h => coa_of (coa_3 hc hl h) (by omega))
      have E4 := Lib.hid (coa_4 hc hl)
      have B1 := Lib.hid (fun i hi => @check_le _ hc i hi)
      obtain ⟨lv, c⟩ := s
      simp only at B1 c1 c2 hl E3 E4
      obtain ⟨H, hH⟩ : ∃ H : Nat, H = lv.toNat / 2 := ⟨_, rfl⟩
      rw [← hH] at E3 E4
      have hlv : lv = 2 * (H : Int) := by omega
      have hH1 : 2 ≤ H := by omega
      have hH8 : H ≤ 8 := by omega
      generalize coaE ⟨lv, c⟩ = E at *
      generalize coaV ⟨lv, c⟩ = V at *
      rw [hc] at C
      clear hc hs hl hH
      have hm : lv % 2 = 0 := by omega
      have hT : lv.tmod 2 = 0 := by rw [Int.tmod_eq_emod_of_nonneg (by omega)]; exact hm
      have hq : lv.tdiv 2 = (H : Int) := by rw [Int.tdiv_eq_ediv_of_nonneg (by omega)]; omega
      have hq2 : lv / 2 = (H : Int) := by omega
      have hne : (lv == 2) = false := by simp; omega
      have HLV := Lib.hid hlv
      clear hlv
      go_enter Try.func24, Try.ntmps24
      go_upto_region 1 with (fail)
      refine gen_world hb (fun w1 hb => ?_)
      generalize w.heap.size + 1 = r at *
      generalize w.heap.size = b at *
      go_upto_region 2 with (first
        | (refine wpList_yw (by rfl) (exec_load26 (by rfl) (by rfl) (hb.mv 1)) ?_)
        | (go_at_call 19; refine (C _ _ hb).mono ?_; rintro e w2 ⟨rfl, h2⟩))
      have g0 := ((h2.mv 1).cell 0).trans (enc_lv _)
      simp only at g0
      have hb1 := h2.boxZ 0
      go_upto_region 7 with (refine wp_store26 rfl _ _ (by rfl) w2.heap.size (by rfl) ⟨H, fun _ => 0⟩ (by rfl) hb1 (fun w3 h3 => ?_))
      clear hb1 g0 C hb h2 hm hT hq hq2 hne
      have hlv := HLV.out
      clear HLV
      generalize w2.heap.size = t at *
      go_wp2
      have HLV := Lib.hid hlv
      clear hlv
      go_loopw [28] (fun i wr => ∃ q : Nat, q ≤ 2 ∧ i = .int .i64 q ∧ (∀ i, i < 32 → ((i / 16 < q ∧ i % 16 < H) ∨ (i / 16 = q ∧ i % 16 < 0)) → pairC c i ≤ 4095) ∧ Hold wr (cellsA t 26 (enc ⟨H, coaD c H q 0⟩) :: cellsA r 26 (enc ⟨0, fun _ => 0⟩) :: cellsA b 26 (enc ⟨lv, c⟩) :: L)) (fun i _ => 2 - (intOf i).toNat)
      case atStart => exact ⟨0, by omega, rfl, fun i _ h => by omega, by rw [coaD_zero]; exact h3⟩
      case round =>
        obtain ⟨q, hq, hi, hf, hr⟩ := hrel
        clear h3
        have HF := Lib.hid hf
        clear hf
        by_cases hlt : q < 2
        · obtain ⟨wo, rfl⟩ : ∃ wo : World, wo = wr := ⟨_, rfl⟩
          obtain rfl | rfl : q = 0 ∨ q = 1 := by omega
          · have hi : _ = Value.int IntKind.i64 0 := hi
            subst hi
            have g0 := (hr.cell 0).trans (enc_lv _)
            go_wp2
            go_loopw [33] (fun i wr => ∃ k : Nat, k ≤ H ∧ i = .int .i64 k ∧ (∀ i, i < 32 → ((i / 16 < 0 ∧ i % 16 < H) ∨ (i / 16 = 0 ∧ i % 16 < k)) → pairC c i ≤ 4095) ∧ Hold wr (cellsA t 26 (enc ⟨H, coaD c H 0 k⟩) :: cellsA r 26 (enc ⟨0, fun _ => 0⟩) :: cellsA b 26 (enc ⟨lv, c⟩) :: L)) (fun i _ => H - (intOf i).toNat)
            case atStart => exact ⟨0, by omega, rfl, HF.out, hr⟩
            case round =>
              clear g0
              obtain ⟨k, hk, rfl, hf2, hr2⟩ := hrel
              have HG := Lib.hid hf2
              clear hf2
              have g0 := (hr2.cell 0).trans (enc_lv _)
              simp only at g0
              by_cases hlt2 : k < H
              · have hki : (k : Int) < H := by omega
                have hk16 : (k : Int) < 16 := by omega
                have ga := ((hr2.mv 2).cell (1 + 2 * k)).trans (enc_at (i := 2 * k) (by omega) (by omega))
                have gb := ((hr2.mv 2).cell (1 + (2 * k + 1))).trans (enc_at (i := 2 * k + 1) (by omega) (by omega))
                have gc := (hr2.cell (1 + k)).trans (enc_at (i := k) (by omega) (by omega))
                simp only at ga gb gc
                have fa := hr2.frozen (1 + k)
                have hx1 := B1.out (2 * k) (by omega)
                have hx2 := B1.out (2 * k + 1) (by omega)
                have hpc : pairC c (k) = c (2 * k) + c (2 * k + 1) := by unfold pairC; congr 2 <;> omega
                have W1 : IntKind.u32.wrap ((c (2 * k) : Int) + c (2 * k + 1)) = (c (2 * k) : Int) + c (2 * k + 1) := IntWalk.u32_in _ (by omega)
                have W2 : IntKind.i64.wrap (2 * (k : Int)) = 2 * (k : Int) := IntWalk.i64_in _ (by omega)
                have W3 : IntKind.i64.wrap (2 * (k : Int) + 1) = 2 * (k : Int) + 1 := IntWalk.i64_in _ (by omega)
                have W4 : (2 * (k : Int)).toNat = 2 * k := by omega
                have W5 : (2 * (k : Int) + 1).toNat = 2 * k + 1 := by omega
                have W6 : 0 ≤ 2 * (k : Int) := by omega
                have W7 : 2 * (k : Int) < 16 := by omega
                have W8 : 0 ≤ 2 * (k : Int) + 1 := by omega
                have W9 : 2 * (k : Int) + 1 < 16 := by omega
                have HP := Lib.hid hpc
                clear hpc
                go_upto_region 13 with (fail)
                refine wp_region_Z (fun W => W.cell? ⟨b, 1 + 2 * k, none⟩ = some (.int .u32 (c (2 * k))) ∧ W.cell? ⟨b, 1 + (2 * k + 1), none⟩ = some (.int .u32 (c (2 * k + 1)))) [8, 16] [21] [0, 1, 2, 3, 4, 5, 6, 7, 9, 10, 11, 12, 13, 14, 15, 17, 18, 19, 20] [0, 1, 2, 3, 4, 5, 6, 7, 8, 9, 10, 11, 12, 13, 14, 15, 16, 17, 18, 19, 20, 21] (by kernel_rfl) (by kernel_rfl) ?_
                (repeat (first | (refine wpZ_st (v := ?_) _ (by rfl) (by rfl) (by rfl) (fun W hW => ?_) ⟨ga, gb⟩ ?_; (rotate_left; (focus ((try dsimp only at hW); go_simp; (try with_reducible rfl); done))); try simp only [Act.put, List.getElem_toArray, List.getElem_cons_zero, List.getElem_cons_succ, List.setIfInBounds_toArray, List.set_cons_zero, List.set_cons_succ]) | (refine wpZ_pu (v := ?_) _ (by rfl) (by rfl) (by rfl) (by rfl) (fun W => ?_) ?_; (rotate_left; (focus ((try dsimp only at hW); go_simp; (try with_reducible rfl); done))); try simp only [Act.put, List.getElem_toArray, List.getElem_cons_zero, List.getElem_cons_succ, List.setIfInBounds_toArray, List.set_cons_zero, List.set_cons_succ]) | (refine wpZ_no _ (by rfl) (by rfl) (by rfl) (by rfl) ?_; try simp only [Act.put, List.getElem_toArray, List.getElem_cons_zero, List.getElem_cons_succ, List.setIfInBounds_toArray, List.set_cons_zero, List.set_cons_succ]) | (refine wpZ_noS _ (by rfl) (by rfl) (by rfl) ⟨ga, gb⟩ ?_; try simp only [Act.put, List.getElem_toArray, List.getElem_cons_zero, List.getElem_cons_succ, List.setIfInBounds_toArray, List.set_cons_zero, List.set_cons_succ])))
                (refine wpZ_eff _ (by rfl) (by rfl) (by rfl) (by rfl) (fun K hK => ?_); go_simp; refine hK _ _ (fun hl => ?_) ?_; (first | (focus (cases hl; done)) | trivial); clear hK K; try simp only [Act.put, List.getElem_toArray, List.getElem_cons_zero, List.getElem_cons_succ, List.setIfInBounds_toArray, List.set_cons_zero, List.set_cons_succ])
                (simp only [wpZ])
                clear W1 W2 W3 W4 W5 W6 W7 W8 W9
                have HX := (hr2.seta (k) (c (2 * k) + c (2 * k + 1))).drew
                rw [show k + 1 = 1 + k from by omega] at HX
                simp only [Int.natCast_add] at HX
                by_cases hov : c (2 * k) + c (2 * k + 1) ≤ 4095
                · have hov' : (c (2 * k) : Int) + c (2 * k + 1) ≤ 4095 := by omega
                  have g0 := (HX.cell 0).trans (enc_lv _)
                  go_wp2
                  go_roundw
                  case rel =>
                    refine ⟨k + 1, by omega, by go_num, fun i hi h => ?_, HX.as (ds := enc ⟨H, coaD c H 0 (k + 1)⟩) (enc_congr rfl fun i hi => coaD_step c H 0 k i (k) _ (by omega) (by omega) HP.out.symm)⟩
                    by_cases e : i = k
                    · rw [e, HP.out]; exact hov
                    · exact HG.out i hi (by omega)
                  case measure => simp [intOf]; omega
                · have hov' : 4095 < (c (2 * k) : Int) + c (2 * k + 1) := by omega
                  obtain ⟨e1, e2⟩ := E3.out (overC_true (k) (by omega) (by omega) (by rw [HP.out]; omega))
                  subst e1 e2
                  clear E3 E4
                  go_wp2_with (first
                    | (refine wp_store26 rfl _ _ (by rfl) r (by rfl) ⟨0, fun _ => 0⟩ (by rfl) (HX.mv 1) (fun w4 h4 => ?_)))
                  exact bodyPost_ret (res_cell_tmp (loadV26 h4) (by rfl) (by rfl) (by rfl)) rfl ⟨rfl, h4.drop.drop.drop⟩
              · obtain rfl : H = k := by omega
                go_wp2
                go_roundw
                case rel => exact ⟨1, by omega, by go_num, fun i hi h => HG.out i hi (by omega), hr2.as (ds := enc ⟨H, coaD c H 1 0⟩) (enc_congr rfl fun i hi => coaD_next c H 0 i)⟩
                case measure => simp [intOf]
          · have hi : _ = Value.int IntKind.i64 1 := hi
            subst hi
            have g0 := (hr.cell 0).trans (enc_lv _)
            go_wp2
            go_loopw [33] (fun i wr => ∃ k : Nat, k ≤ H ∧ i = .int .i64 k ∧ (∀ i, i < 32 → ((i / 16 < 1 ∧ i % 16 < H) ∨ (i / 16 = 1 ∧ i % 16 < k)) → pairC c i ≤ 4095) ∧ Hold wr (cellsA t 26 (enc ⟨H, coaD c H 1 k⟩) :: cellsA r 26 (enc ⟨0, fun _ => 0⟩) :: cellsA b 26 (enc ⟨lv, c⟩) :: L)) (fun i _ => H - (intOf i).toNat)
            case atStart => exact ⟨0, by omega, rfl, HF.out, hr⟩
            case round =>
              clear g0
              obtain ⟨k, hk, rfl, hf2, hr2⟩ := hrel
              have HG := Lib.hid hf2
              clear hf2
              have g0 := (hr2.cell 0).trans (enc_lv _)
              simp only at g0
              by_cases hlt2 : k < H
              · have hki : (k : Int) < H := by omega
                have hk16 : (k : Int) < 16 := by omega
                have ga := ((hr2.mv 2).cell (17 + 2 * k)).trans (enc_at (i := 16 + 2 * k) (by omega) (by omega))
                have gb := ((hr2.mv 2).cell (17 + (2 * k + 1))).trans (enc_at (i := 16 + (2 * k + 1)) (by omega) (by omega))
                have gc := (hr2.cell (17 + k)).trans (enc_at (i := 16 + k) (by omega) (by omega))
                simp only at ga gb gc
                have fa := hr2.frozen (17 + k)
                have hx1 := B1.out (16 + 2 * k) (by omega)
                have hx2 := B1.out (16 + (2 * k + 1)) (by omega)
                have hpc : pairC c (16 + k) = c (16 + 2 * k) + c (16 + (2 * k + 1)) := by unfold pairC; congr 2 <;> omega
                have W1 : IntKind.u32.wrap ((c (16 + 2 * k) : Int) + c (16 + (2 * k + 1))) = (c (16 + 2 * k) : Int) + c (16 + (2 * k + 1)) := IntWalk.u32_in _ (by omega)
                have W2 : IntKind.i64.wrap (2 * (k : Int)) = 2 * (k : Int) := IntWalk.i64_in _ (by omega)
                have W3 : IntKind.i64.wrap (2 * (k : Int) + 1) = 2 * (k : Int) + 1 := IntWalk.i64_in _ (by omega)
                have W4 : (2 * (k : Int)).toNat = 2 * k := by omega
                have W5 : (2 * (k : Int) + 1).toNat = 2 * k + 1 := by omega
                have W6 : 0 ≤ 2 * (k : Int) := by omega
                have W7 : 2 * (k : Int) < 16 := by omega
                have W8 : 0 ≤ 2 * (k : Int) + 1 := by omega
                have W9 : 2 * (k : Int) + 1 < 16 := by omega
                have HP := Lib.hid hpc
                clear hpc
                go_upto_region 13 with (fail)
                refine wp_region_Z (fun W => W.cell? ⟨b, 17 + 2 * k, none⟩ = some (.int .u32 (c (16 + 2 * k))) ∧ W.cell? ⟨b, 17 + (2 * k + 1), none⟩ = some (.int .u32 (c (16 + (2 * k + 1))))) [8, 16] [21] [0, 1, 2, 3, 4, 5, 6, 7, 9, 10, 11, 12, 13, 14, 15, 17, 18, 19, 20] [0, 1, 2, 3, 4, 5, 6, 7, 8, 9, 10, 11, 12, 13, 14, 15, 16, 17, 18, 19, 20, 21] (by kernel_rfl) (by kernel_rfl) ?_
                (repeat (first | (refine wpZ_st (v := ?_) _ (by rfl) (by rfl) (by rfl) (fun W hW => ?_) ⟨ga, gb⟩ ?_; (rotate_left; (focus ((try dsimp only at hW); go_simp; (try with_reducible rfl); done))); try simp only [Act.put, List.getElem_toArray, List.getElem_cons_zero, List.getElem_cons_succ, List.setIfInBounds_toArray, List.set_cons_zero, List.set_cons_succ]) | (refine wpZ_pu (v := ?_) _ (by rfl) (by rfl) (by rfl) (by rfl) (fun W => ?_) ?_; (rotate_left; (focus ((try dsimp only at hW); go_simp; (try with_reducible rfl); done))); try simp only [Act.put, List.getElem_toArray, List.getElem_cons_zero, List.getElem_cons_succ, List.setIfInBounds_toArray, List.set_cons_zero, List.set_cons_succ]) | (refine wpZ_no _ (by rfl) (by rfl) (by rfl) (by rfl) ?_; try simp only [Act.put, List.getElem_toArray, List.getElem_cons_zero, List.getElem_cons_succ, List.setIfInBounds_toArray, List.set_cons_zero, List.set_cons_succ]) | (refine wpZ_noS _ (by rfl) (by rfl) (by rfl) ⟨ga, gb⟩ ?_; try simp only [Act.put, List.getElem_toArray, List.getElem_cons_zero, List.getElem_cons_succ, List.setIfInBounds_toArray, List.set_cons_zero, List.set_cons_succ])))
                (refine wpZ_eff _ (by rfl) (by rfl) (by rfl) (by rfl) (fun K hK => ?_); go_simp; refine hK _ _ (fun hl => ?_) ?_; (first | (focus (cases hl; done)) | trivial); clear hK K; try simp only [Act.put, List.getElem_toArray, List.getElem_cons_zero, List.getElem_cons_succ, List.setIfInBounds_toArray, List.set_cons_zero, List.set_cons_succ])
                (simp only [wpZ])
                clear W1 W2 W3 W4 W5 W6 W7 W8 W9
                have HX := (hr2.seta (16 + k) (c (16 + 2 * k) + c (16 + (2 * k + 1)))).drew
                rw [show 16 + k + 1 = 17 + k from by omega] at HX
                simp only [Int.natCast_add] at HX
                by_cases hov : c (16 + 2 * k) + c (16 + (2 * k + 1)) ≤ 4095
                · have hov' : (c (16 + 2 * k) : Int) + c (16 + (2 * k + 1)) ≤ 4095 := by omega
                  have g0 := (HX.cell 0).trans (enc_lv _)
                  go_wp2
                  go_roundw
                  case rel =>
                    refine ⟨k + 1, by omega, by go_num, fun i hi h => ?_, HX.as (ds := enc ⟨H, coaD c H 1 (k + 1)⟩) (enc_congr rfl fun i hi => coaD_step c H 1 k i (16 + k) _ (by omega) (by omega) HP.out.symm)⟩
                    by_cases e : i = 16 + k
                    · rw [e, HP.out]; exact hov
                    · exact HG.out i hi (by omega)
                  case measure => simp [intOf]; omega
                · have hov' : 4095 < (c (16 + 2 * k) : Int) + c (16 + (2 * k + 1)) := by omega
                  obtain ⟨e1, e2⟩ := E3.out (overC_true (16 + k) (by omega) (by omega) (by rw [HP.out]; omega))
                  subst e1 e2
                  clear E3 E4
                  go_wp2_with (first
                    | (refine wp_store26 rfl _ _ (by rfl) r (by rfl) ⟨0, fun _ => 0⟩ (by rfl) (HX.mv 1) (fun w4 h4 => ?_)))
                  exact bodyPost_ret (res_cell_tmp (loadV26 h4) (by rfl) (by rfl) (by rfl)) rfl ⟨rfl, h4.drop.drop.drop⟩
              · obtain rfl : H = k := by omega
                go_wp2
                go_roundw
                case rel => exact ⟨2, by omega, by go_num, fun i hi h => HG.out i hi (by omega), hr2.as (ds := enc ⟨H, coaD c H 2 0⟩) (enc_congr rfl fun i hi => coaD_next c H 1 i)⟩
                case measure => simp [intOf]
        · obtain rfl : q = 2 := by omega
          subst hi
          have HO := overC_false (c := c) (h := H) (fun i hi hh => HF.out i hi (.inl ⟨by omega, hh⟩))
          obtain ⟨e1, e2⟩ := E4.out HO
          subst e1 e2
          clear HO E4 E3
          have hr := (hr.as (ds := enc ⟨H, coaC c H⟩) (enc_congr rfl fun i hi => coaD_end c H i hi))
          go_wp2_with (first
            | (refine wp_load26 rfl _ (by rfl) t (by rfl) hr ?_)
            | (refine wp_store26 rfl _ _ (by rfl) r (by rfl) ⟨H, coaC c H⟩ (by rfl) (hr.mv 1) (fun w4 h4 => ?_)))
          exact bodyPost_ret (res_cell_tmp (loadV26 h4) (by rfl) (by rfl) (by rfl)) rfl ⟨rfl, h4.drop.drop.drop⟩
  · obtain ⟨e1, e2⟩ := coa_of (coa_1 (s := s) (by omega)) (by omega)
    rw [e1, e2]
    rw [hc] at C
    clear hc e1 e2
    go_enter Try.func24, Try.ntmps24
    go_upto_region 1 with (fail)
    refine gen_world hb (fun w1 hb => ?_)
    generalize w.heap.size + 1 = r at *
    generalize w.heap.size = b at *
    go_wp2_with (first
      | (refine wpList_yw (by rfl) (exec_load26 (by rfl) (by rfl) (hb.mv 1)) ?_)
      | (go_at_call 19; refine (C _ _ hb).mono ?_; rintro e w2 ⟨rfl, h2⟩)
      | (refine wp_store26 rfl _ _ (by rfl) r (by rfl) ⟨0, fun _ => 0⟩ (by rfl) h2 (fun w4 h4 => ?_)))
    exact bodyPost_ret (res_cell_tmp (loadV26 h4) (by rfl) (by rfl) (by rfl)) rfl ⟨rfl, h4.drop.drop⟩

end Go.Proofs.Ytklokbmpapjjiaa
