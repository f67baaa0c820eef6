/- Contracts: the reference's Mirror. -/
import Derived.Test.YtklokbmpapjjiaaStE
open Go.RowKit Go.Own
namespace Go.Proofs.Ytklokbmpapjjiaa

set_option maxHeartbeats 4000000 in
set_option maxRecDepth 20000 in
theorem rmirror_ok (s : SV) (hs : s.ok) (w : World) (L : List Asn) (h : Hold w L) :
    Calls Try.prog 17 #[.agg (enc s).toArray] w fun e w' => e = .returned (.tuple #[.agg (enc (mirV s)).toArray, .int .i64 (check s)]) ∧ Hold w' L := by
  have hb := h.box2Z s 0
  have C := rcheck_ok s hs
  rcases check_cases s with hc | hc
  · obtain ⟨c1, c2, _, _, _⟩ := check_zero hc
    rw [mirV, if_pos hc]
    rw [hc] at C ⊢
    obtain ⟨m, hm⟩ : ∃ m : Nat, m = s.lv.toNat := ⟨_, rfl⟩
    have hlv : s.lv = m := by omega
    have hM : mir s = ⟨s.lv, mirC s.c m m⟩ := by rw [mir, hm]
    rw [hM]
    obtain ⟨lv, c⟩ := s
    simp only at hlv c1 c2 hM ⊢
    subst hlv
    clear hc h hM hm
    obtain ⟨x1, x2, x3⟩ := hs
    simp only at x1 x2 x3
    go_enter Try.func17, Try.ntmps17
    go_upto_region 1 with (fail)
    refine gen_world hb (fun w1 hb => ?_)
    generalize w.heap.size + 1 = r at *
    generalize w.heap.size = b at *
    go_upto_region 4 with (first
      | (refine wp_load26 rfl _ (by rfl) b (by rfl) (hb.mv 1) ?_)
      | (go_at_call 20; refine (C _ _ hb).mono ?_; rintro e w2 ⟨rfl, h2⟩))
    have g0 := (h2.mv 1).cell 0
    rw [enc_lv] at g0
    have hb1 := h2.boxZ 0
    go_upto_region 5 with (refine wp_store26 rfl _ _ (by rfl) w2.heap.size (by rfl) ⟨m, fun _ => 0⟩ (by rfl) hb1 (fun w3 h3 => ?_))
    clear hb1 g0 C hb h2
    generalize w2.heap.size = t at *
    go_wp2
    go_loopw [6] (fun i wr => ∃ q : Nat, q ≤ 2 ∧ i = .int .i64 q ∧ Hold wr (cellsA t 26 (enc ⟨m, mirD c m q 0⟩) :: cellsA r 26 (enc ⟨0, fun _ => 0⟩) :: cellsA b 26 (enc ⟨m, c⟩) :: L)) (fun i _ => 2 - (intOf i).toNat)
    case atStart => exact ⟨0, by omega, rfl, by rw [mirD_zero]; exact h3⟩
    case round =>
      obtain ⟨q, hq, rfl, hr⟩ := hrel
      clear h3
      by_cases hlt : q < 2
      · obtain ⟨wo, rfl⟩ : ∃ wo : World, wo = wr := ⟨_, rfl⟩
        obtain rfl | rfl : q = 0 ∨ q = 1 := by omega
        · go_wp2
          go_loopw [7] (fun i wr => ∃ k : Nat, k ≤ m ∧ i = .int .i64 k ∧ Hold wr (cellsA t 26 (enc ⟨m, mirD c m 0 k⟩) :: cellsA r 26 (enc ⟨0, fun _ => 0⟩) :: cellsA b 26 (enc ⟨m, c⟩) :: L)) (fun i _ => m - (intOf i).toNat)
          case atStart => exact ⟨0, by omega, rfl, hr⟩
          case round =>
            obtain ⟨k, hk, rfl, hr2⟩ := hrel
            have g0 := (hr2.mv 2).cell 0
            rw [enc_lv] at g0
            by_cases hlt2 : k < m
            · have hki : (k : Int) < m := by omega
              have ga := ((hr2.mv 2).cell (17 + (m - 1 - k))).trans (enc_at (i := 16 + (m - 1 - k)) (by omega) (by omega))
              have ka := (hr2.cell (1 + k)).trans (enc_at (i := k) (by omega) (by omega))
              have fa := hr2.frozen (1 + k)
              simp only at g0 ga ka
              go_upto_region 11 with (fail)
              have hS : Hold wr.drew (cellsA t 26 (enc ⟨m, mirD c m 0 k⟩) :: cellsA r 26 (enc ⟨0, fun _ => 0⟩) :: cellsA b 26 (enc ⟨m, c⟩) :: L) := hr2.drew
              refine wp_region_X (fun W => W.cell? ⟨b, 0, none⟩ = some (.int .i64 m) ∧ W.cell? ⟨b, 17 + (m - 1 - k), none⟩ = some (.int .u32 (c (16 + (m - 1 - k))))) [0, 1, 2, 3, 4, 5, 6, 7, 8, 9, 10, 11, 12, 13, 14] [] [0, 1, 2, 3, 4, 5, 6, 7, 8, 9, 10, 11, 12, 13, 14, 15, 16] (by kernel_rfl) (by kernel_rfl) ?_
              have W1 : IntKind.i64.wrap 1 = 1 := by decide
              have W0 : IntKind.i64.wrap 0 = 0 := by decide
              have W2 : IntKind.i64.wrap ((m : Int) - 1) = (m : Int) - 1 := IntWalk.i64_in _ (by omega)
              have W3 : IntKind.i64.wrap ((m : Int) - 1 - k) = (m : Int) - 1 - k := IntWalk.i64_in _ (by omega)
              have W4 : ((m : Int) - 1 - k).toNat = m - 1 - k := by omega
              have W7 : (k : Int) ≤ m - 1 := by omega
              have W8 : (k : Int) < 16 := by omega
              have W5 : 0 ≤ (m : Int) - 1 - k := by omega
              have W6 : (m : Int) - 1 - k < 16 := by omega
              (repeat (refine wpX_st (v := ?_) _ (by rfl) (by rfl) (by rfl) (fun W hW => ?_) ⟨g0, ga⟩ ?_; rotate_left; (focus ((try dsimp only at hW); go_simp; (try with_reducible rfl); done)); try simp only [Act.put, List.getElem_toArray, List.getElem_cons_zero, List.getElem_cons_succ, List.setIfInBounds_toArray, List.set_cons_zero, List.set_cons_succ]))
              have HX := hS.seta (k) (c (16 + (m - 1 - k)))
              rw [show k + 1 = 1 + k from by omega] at HX
              (refine wpX_eff _ (by rfl) (by rfl) (by rfl) (fun K hK => ?_); go_simp; refine hK _ _ (fun hl => ?_) ?_; (first | (focus (cases hl; done)) | exact ⟨g0, ga⟩); clear hK K; try simp only [Act.put, List.getElem_toArray, List.getElem_cons_zero, List.getElem_cons_succ, List.setIfInBounds_toArray, List.set_cons_zero, List.set_cons_succ])
              (refine wpX_eff _ (by rfl) (by rfl) (by rfl) (fun K hK => ?_); go_simp; refine hK _ _ (fun hl => ?_) ?_; (first | (focus (cases hl; done)) | exact ⟨((HX.mv 2).cell 0).trans (enc_lv _), ((HX.mv 2).cell _).trans (enc_at (i := 16 + (m - 1 - k)) (by omega) (by omega))⟩); clear hK K; try simp only [Act.put, List.getElem_toArray, List.getElem_cons_zero, List.getElem_cons_succ, List.setIfInBounds_toArray, List.set_cons_zero, List.set_cons_succ])
              (simp only [wpX])
              clear W1 W0 W2 W3 W4 W5 W6 W7
              have g0 := ((HX.mv 2).cell 0).trans (enc_lv _)
              have HY := hr2.seta (k) (c (16 + (m - 1 - k)))
              rw [show k + 1 = 1 + k from by omega] at HY
              go_wp2
              go_roundw
              case rel =>
                refine ⟨k + 1, by omega, by go_num, HY.drew.as (enc_congr rfl fun i hi => ?_)⟩
                have hx : c (16 + (m - 1 - k)) = mirC c m m (16 * 0 + k) := by unfold mirC; rw [if_pos (by omega), if_pos (by omega)]; congr 1; omega
                have := mirD_step c m 0 k i _ (by omega) hx
                rwa [show 16 * 0 + k = k from by omega] at this
              case measure => simp [intOf]; omega
            · obtain rfl : k = m := by omega
              go_wp2
              go_roundw
              case rel => exact ⟨1, by omega, by go_num, hr2.as (enc_congr rfl fun i hi => mirD_next c k 0 i (by omega) hi)⟩
              case measure => simp [intOf]
        · go_wp2
          go_loopw [7] (fun i wr => ∃ k : Nat, k ≤ m ∧ i = .int .i64 k ∧ Hold wr (cellsA t 26 (enc ⟨m, mirD c m 1 k⟩) :: cellsA r 26 (enc ⟨0, fun _ => 0⟩) :: cellsA b 26 (enc ⟨m, c⟩) :: L)) (fun i _ => m - (intOf i).toNat)
          case atStart => exact ⟨0, by omega, rfl, hr⟩
          case round =>
            obtain ⟨k, hk, rfl, hr2⟩ := hrel
            have g0 := (hr2.mv 2).cell 0
            rw [enc_lv] at g0
            by_cases hlt2 : k < m
            · have hki : (k : Int) < m := by omega
              have ga := ((hr2.mv 2).cell (1 + (m - 1 - k))).trans (enc_at (i := m - 1 - k) (by omega) (by omega))
              have ka := (hr2.cell (17 + k)).trans (enc_at (i := 16 + k) (by omega) (by omega))
              have fa := hr2.frozen (17 + k)
              simp only at g0 ga ka
              go_upto_region 11 with (fail)
              have hS : Hold wr.drew (cellsA t 26 (enc ⟨m, mirD c m 1 k⟩) :: cellsA r 26 (enc ⟨0, fun _ => 0⟩) :: cellsA b 26 (enc ⟨m, c⟩) :: L) := hr2.drew
              refine wp_region_X (fun W => W.cell? ⟨b, 0, none⟩ = some (.int .i64 m) ∧ W.cell? ⟨b, 1 + (m - 1 - k), none⟩ = some (.int .u32 (c (m - 1 - k)))) [0, 1, 2, 3, 4, 5, 6, 7, 8, 9, 10, 11, 12, 13, 14] [] [0, 1, 2, 3, 4, 5, 6, 7, 8, 9, 10, 11, 12, 13, 14, 15, 16] (by kernel_rfl) (by kernel_rfl) ?_
              have W1 : IntKind.i64.wrap 1 = 1 := by decide
              have W0 : IntKind.i64.wrap 0 = 0 := by decide
              have W2 : IntKind.i64.wrap ((m : Int) - 1) = (m : Int) - 1 := IntWalk.i64_in _ (by omega)
              have W3 : IntKind.i64.wrap ((m : Int) - 1 - k) = (m : Int) - 1 - k := IntWalk.i64_in _ (by omega)
              have W4 : ((m : Int) - 1 - k).toNat = m - 1 - k := by omega
              have W7 : (k : Int) ≤ m - 1 := by omega
              have W8 : (k : Int) < 16 := by omega
              have W5 : 0 ≤ (m : Int) - 1 - k := by omega
              have W6 : (m : Int) - 1 - k < 16 := by omega
              (repeat (refine wpX_st (v := ?_) _ (by rfl) (by rfl) (by rfl) (fun W hW => ?_) ⟨g0, ga⟩ ?_; rotate_left; (focus ((try dsimp only at hW); go_simp; (try with_reducible rfl); done)); try simp only [Act.put, List.getElem_toArray, List.getElem_cons_zero, List.getElem_cons_succ, List.setIfInBounds_toArray, List.set_cons_zero, List.set_cons_succ]))
              have HX := hS.seta (16 + k) (c (m - 1 - k))
              rw [show 16 + k + 1 = 17 + k from by omega] at HX
              (refine wpX_eff _ (by rfl) (by rfl) (by rfl) (fun K hK => ?_); go_simp; refine hK _ _ (fun hl => ?_) ?_; (first | (focus (cases hl; done)) | exact ⟨g0, ga⟩); clear hK K; try simp only [Act.put, List.getElem_toArray, List.getElem_cons_zero, List.getElem_cons_succ, List.setIfInBounds_toArray, List.set_cons_zero, List.set_cons_succ])
              (refine wpX_eff _ (by rfl) (by rfl) (by rfl) (fun K hK => ?_); go_simp; refine hK _ _ (fun hl => ?_) ?_; (first | (focus (cases hl; done)) | exact ⟨((HX.mv 2).cell 0).trans (enc_lv _), ((HX.mv 2).cell _).trans (enc_at (i := m - 1 - k) (by omega) (by omega))⟩); clear hK K; try simp only [Act.put, List.getElem_toArray, List.getElem_cons_zero, List.getElem_cons_succ, List.setIfInBounds_toArray, List.set_cons_zero, List.set_cons_succ])
              (simp only [wpX])
              clear W1 W0 W2 W3 W4 W5 W6 W7
              have g0 := ((HX.mv 2).cell 0).trans (enc_lv _)
              have HY := hr2.seta (16 + k) (c (m - 1 - k))
              rw [show 16 + k + 1 = 17 + k from by omega] at HY
              go_wp2
              go_roundw
              case rel =>
                refine ⟨k + 1, by omega, by go_num, HY.drew.as (enc_congr rfl fun i hi => ?_)⟩
                have hx : c (m - 1 - k) = mirC c m m (16 * 1 + k) := by unfold mirC; rw [if_neg (by omega), if_pos (by omega)]; congr 1; omega
                have := mirD_step c m 1 k i _ (by omega) hx
                rwa [show 16 * 1 + k = 16 + k from by omega] at this
              case measure => simp [intOf]; omega
            · obtain rfl : k = m := by omega
              go_wp2
              go_roundw
              case rel => exact ⟨2, by omega, by go_num, hr2.as (enc_congr rfl fun i hi => mirD_next c k 1 i (by omega) hi)⟩
              case measure => simp [intOf]
      · obtain rfl : q = 2 := by omega
        have hr := hr.as (ds := enc ⟨m, mirC c m m⟩) (enc_congr rfl fun i hi => mirD_end c m i hi)
        go_wp2_with (first
          | (refine wp_load26 rfl _ (by rfl) t (by rfl) hr ?_)
          | (refine wp_store26 rfl _ _ (by rfl) r (by rfl) ⟨m, mirC c m m⟩ (by rfl) (hr.mv 1) (fun w4 h4 => ?_)))
        exact bodyPost_ret (res_cell_tmp (loadV26 h4) (by rfl) (by rfl) (by rfl)) rfl ⟨rfl, h4.drop.drop.drop⟩
  · rw [mirV, if_neg (by omega)]
    rw [hc] at C ⊢
    clear hc h
    go_enter Try.func17, Try.ntmps17
    go_upto_region 1 with (fail)
    refine gen_world hb (fun w1 hb => ?_)
    generalize w.heap.size + 1 = r at *
    generalize w.heap.size = b at *
    go_upto_region 3 with (first
      | (refine wp_load26 rfl _ (by rfl) b (by rfl) (hb.mv 1) ?_)
      | (go_at_call 20; refine (C _ _ hb).mono ?_; rintro e w2 ⟨rfl, h2⟩))
    go_wp2_with (first
      | (refine wp_store26 rfl _ _ (by rfl) r (by rfl) ⟨0, fun _ => 0⟩ (by rfl) h2 (fun w4 h4 => ?_)))
    exact bodyPost_ret (res_cell_tmp (loadV26 h4) (by rfl) (by rfl) (by rfl)) rfl ⟨rfl, h4.drop.drop⟩

end Go.Proofs.Ytklokbmpapjjiaa
