/- The walk of StatsSteps. -/
import Derived.Test.YtklokbmpapjjiaaQtF
import Derived.Test.YtklokbmpapjjiaaBk
open Go.RowKit Go.Own
namespace Go.Proofs.Ytklokbmpapjjiaa

def ClrRel (n : Nat) (xs : List Int) (ao : Option Addr) (cap : Nat) (R : List Asn) (i : Value) (wr : World) : Prop := ∃ (k : Nat) (zs : List Value), k ≤ n ∧ i = .int .i64 k ∧ (∀ j, k ≤ j → zs[j]? = (is xs)[j]?) ∧ Hold wr (rowA 3 1 ao n cap zs :: R)
def SamRel (n : Nat) (R : List Asn) (i : Value) (wr : World) : Prop := ∃ k : Nat, k ≤ n ∧ i = .int .i64 k ∧ Hold wr R

set_option maxHeartbeats 4000000 in
set_option maxRecDepth 20000 in
theorem steps_walk (xs ys : List Int) (C : Asn) (ao : Option Addr) (n cap : Nat) (hR : Reads C 1 (.slice ao n cap) n (is xs)) (hn : n * 8 ≤ 140737488351232)
    (ao2 : Option Addr) (n2 cap2 : Nat) (hR2 : Reads C 1 (.slice ao2 n2 cap2) n2 (is ys)) (hn2 : n2 * 8 ≤ 140737488351232) (w : World) (L : List Asn) (h : Hold w (C :: L)) :
    Calls Try.prog 10 #[.slice ao n cap, .slice ao2 n2 cap2] w fun e w' => e = .returned (.bool true) ∧ Hold w' (C :: L) := by
  obtain ⟨i3, hi, hz0, hz1, hz2⟩ := info_parts info3
  obtain ⟨S0, hrd0⟩ := h.reads hR
  have hb1 := hrd0.bounds.1
  rw [is_length, Nat.mul_one] at hb1
  obtain ⟨o, er, ho, hmade, P1, P2⟩ := msteps xs C ao n cap hb1 (by omega)
  obtain ⟨S2, hrd2⟩ := h.reads hR2
  have hb2 := hrd2.bounds.1
  rw [is_length, Nat.mul_one] at hb2
  have HB2 := Lib.hid hb2
  have HB1 := Lib.hid hb1
  have hmd := Lib.hid hmade
  clear hb1 hb2 hmade hrd2
  have hoc : (o = none ∧ (er = 1 ∨ er = 11)) ∨ (o = some xs ∧ er = 0) := ho
  clear ho
  have PA := fun (pv : Value) w L h => mrow o ys hmd.out pv C ao2 n2 cap2 hR2 (by omega) w L h
  have PB := fun (pv : Value) w L h => mrrow o ys hmd.out pv C ao2 n2 cap2 hR2 (by omega) w L h
  go_enter Try.func10, Try.ntmps10
  go_upto_region 4 with (first
    | ((with_reducible refine wpList_plain (o := ⟨some 15, _, _, _, _, _⟩) rfl (fun K hK => ?_)); refine wp_append_new_h (w := w) (L := C :: L) _ _ 61 (by rfl) 3 i3 (.int .i64 0) 1 8 Try.underlying61 hi hz0 hz1 hz2 (by rfl) h (by rfl) ⟨rfl, rfl, rfl, rfl⟩ _ (by rfl) n (is xs) S0 hrd0 (is_one xs) (by unfold maxLen; omega) (by omega) (fun ao1 cap1 w1 h1 hc1 => ?_); refine hK _ _ ?_; clear hK K)
    | (go_at_call 32; refine (P1 _ _ _ (Reads.row _ _ _ _ _ _) _ _ h1).mono ?_; rintro e w2 ⟨pv, rfl, hpv, h2⟩)
    | (go_at_call 38; refine (P2 _ _ _ hR _ _ (h2.mv 2)).mono ?_; rintro e w3 ⟨qv, rfl, hqv, h3⟩))
  clear P1 P2 hrd0 h h1 h2
  have h4 : Hold w3 (rowA 3 1 ao1 n cap1 (is xs) :: mqA 101 qv o :: C :: mqA 87 pv o :: L) := h3.mv 3
  clear h3
  have hcase : (pv = .pointer none ∧ qv = .pointer none) ∨ ∃ b c, pv = .pointer (some ⟨b, 0, none⟩) ∧ qv = .pointer (some ⟨c, 0, none⟩) := by
    rcases mq_cases (h4.mv 3) with ⟨h1, h2, _⟩ | ⟨x1, b, h1, h2, _⟩
    · exact .inl ⟨h2, hqv.2 h1⟩
    · rcases mq_cases (h4.mv 1) with ⟨h3, h5, _⟩ | ⟨x2, c, h3, h5, _⟩
      · rw [h1] at h3; simp at h3
      · exact .inr ⟨b, c, h2, h5⟩
  clear hpv hqv hoc
  rcases hcase with ⟨rfl, rfl⟩ | ⟨b, c, rfl, rfl⟩
  · go_upto_region 6 with (first
      | (go_at_call 18; refine (num_any _ _ _ h4).mono ?_; rintro e w' ⟨rfl, rfl⟩)
      | (go_at_call 21; refine (knows_ok _ _ h4).mono ?_; rintro e w5 ⟨rfl, h5⟩))
    clear h4
    go_wp2
    go_loopw [10] (fun i wr => ClrRel n xs ao1 cap1 (mqA 101 (.pointer none) o :: C :: mqA 87 (.pointer none) o :: L) i wr) (fun i _ => n - (intOf i).toNat)
    case atStart => exact ⟨0, _, by omega, rfl, fun _ _ => rfl, h5⟩
    case round =>
      clear h5
      obtain ⟨k, zs, hk, rfl, hz, hr⟩ := hrel
      by_cases hlt : k < n
      · have hki : (k : Int) < n := by omega
        obtain ⟨S, hrd⟩ := (hr.mv 2).reads hR
        obtain ⟨rb, ro, rfl, -, -, hcs⟩ := hrd.addr (by omega)
        have hkx : k < xs.length := by have := HB1.out; omega
        have c0 := (hcs k (by omega)).trans (is_get hkx)
        obtain ⟨tb, tq, rfl, hct, hft⟩ := hr.at (by omega)
        have c1 := ((hct k (by omega)).trans (hz k (Nat.le_refl _))).trans (is_get hkx)
        have f1 := hft (tq + k)
        have HX := hr.put k (by omega) (.int .i64 0)
        have HZ := Lib.hid hz
        generalize xs[k] = y at *
        clear hcs hct hft hrd hz
        go_upto_region 9 with (fail)
        go_quiet (fail)
        have HX := HX.drewN nq
        go_wp2
        go_roundw
        case rel =>
          refine ⟨k + 1, zs.set k (.int .i64 0), by omega, by go_num, fun j hj => ?_, HX⟩
          rw [List.getElem?_set_ne (by omega)]
          exact HZ.out j (by omega)
        case measure => simp [intOf]; omega
      · obtain rfl : n = k := by omega
        have h6 := ((hr.mv 2).mv 3)
        go_upto_region 13 with (go_at_call 39; refine (PA _ _ _ h6).mono ?_; rintro e w7 ⟨ao7, n7, cap7, rfl, h7⟩)
        clear h6
        have hS := h7.drew
        have TX : ∀ (a : Option Addr) (m cp : Nat) (W : World) (R : List Asn), Hold W (rowA 5 1 a m cp (ub (rowO o ys)) :: R) → Sem.run Try.prog (convert 73 9 (.slice a m cp)) W = .ok (.string ⟨(rowO o ys).toArray⟩) W := fun a m cp W R hW => by
          obtain ⟨S, hrd⟩ := hW.rd
          exact run_text Try.underlying73 Try.underlying5 Try.underlying9 hrd
        refine wp_region_Z (fun W => Hold W (rowA 5 1 ao7 n7 cap7 (ub (rowO o ys)) :: mqA 87 (.pointer none) o :: C :: rowA 3 1 ao1 n cap1 zs :: mqA 101 (.pointer none) o :: L)) [7] [] [0, 2, 4, 5, 6, 8, 9, 12, 13] [0, 2, 1, 3, 4, 5, 6, 7, 8, 9, 10, 11, 12, 13] (by kernel_rfl) (by kernel_rfl) ?_
        generalize w7.drew = w8 at *
        have HTX := Lib.hid TX
        clear TX h7
        have L1 := mlevels o hmd.out _ w8 _ (hS.mv 1)
        have L2 := mrlevels o hmd.out _ w8 _ (hS.mv 4)
        iterate 2 (refine wpZ_pu (v := ?_) _ (by rfl) (by rfl) (by rfl) (by rfl) (fun W => ?_) ?_; (rotate_left; (focus (go_simp; (try with_reducible rfl); done))); try simp only [Act.put, List.getElem_toArray, List.getElem_cons_zero, List.getElem_cons_succ, List.setIfInBounds_toArray, List.set_cons_zero, List.set_cons_succ])
        refine wpZ_eff _ (by rfl) (by rfl) (by rfl) (by rfl) (fun K hK => ?_)
        go_simp
        refine L1.mono ?_
        rintro e w' ⟨rfl, rfl⟩
        dsimp only
        (refine hK _ _ (fun hl => ?_) ?_; (first | (focus (cases hl; done)) | exact hS); clear hK K; try simp only [Act.put, List.getElem_toArray, List.getElem_cons_zero, List.getElem_cons_succ, List.setIfInBounds_toArray, List.set_cons_zero, List.set_cons_succ])
        refine wpZ_eff _ (by rfl) (by rfl) (by rfl) (by rfl) (fun K hK => ?_)
        go_simp
        refine L2.mono ?_
        rintro e w' ⟨rfl, rfl⟩
        dsimp only
        (refine hK _ _ (fun hl => ?_) ?_; (first | (focus (cases hl; done)) | exact hS); clear hK K; try simp only [Act.put, List.getElem_toArray, List.getElem_cons_zero, List.getElem_cons_succ, List.setIfInBounds_toArray, List.set_cons_zero, List.set_cons_succ])
        iterate 3 (refine wpZ_pu (v := ?_) _ (by rfl) (by rfl) (by rfl) (by rfl) (fun W => ?_) ?_; (rotate_left; (focus (go_simp; (try with_reducible rfl); done))); try simp only [Act.put, List.getElem_toArray, List.getElem_cons_zero, List.getElem_cons_succ, List.setIfInBounds_toArray, List.set_cons_zero, List.set_cons_succ])
        refine wpZ_st _ (.string ⟨(rowO o ys).toArray⟩) (by rfl) (by rfl) (by rfl) (fun W hW => by have := HTX.out ao7 n7 cap7 W _ hW; go_simp) hS ?_
        try simp only [Act.put, List.getElem_toArray, List.getElem_cons_zero, List.getElem_cons_succ, List.setIfInBounds_toArray, List.set_cons_zero, List.set_cons_succ]
        iterate 2 (refine wpZ_pu (v := ?_) _ (by rfl) (by rfl) (by rfl) (by rfl) (fun W => ?_) ?_; (rotate_left; (focus (go_simp; (try with_reducible rfl); done))); try simp only [Act.put, List.getElem_toArray, List.getElem_cons_zero, List.getElem_cons_succ, List.setIfInBounds_toArray, List.set_cons_zero, List.set_cons_succ])
        refine wpZ_eff _ (by rfl) (by rfl) (by rfl) (by rfl) (fun K hK => ?_)
        go_simp
        refine (PB _ _ _ ((hS.mv 2).mv 4)).mono ?_
        rintro e w9 ⟨ao9, n9, cap9, rfl, h9⟩
        have hS9 : Hold w9 (rowA 5 1 ao7 n7 cap7 (ub (rowO o ys)) :: mqA 87 (.pointer none) o :: C :: rowA 3 1 ao1 n cap1 zs :: mqA 101 (.pointer none) o :: L) := Hold.bk 2 (Hold.bk 4 h9.drop)
        dsimp only
        (refine hK _ _ (fun hl => ?_) ?_; (first | (focus (cases hl; done)) | exact hS9); clear hK K; try simp only [Act.put, List.getElem_toArray, List.getElem_cons_zero, List.getElem_cons_succ, List.setIfInBounds_toArray, List.set_cons_zero, List.set_cons_succ])
        have T9 := HTX.out ao9 n9 cap9 w9 _ h9
        (refine wpZ_eff _ (by rfl) (by rfl) (by rfl) (by rfl) (fun K hK => ?_); go_simp; refine hK _ _ (fun hl => ?_) ?_; (first | (focus (cases hl; done)) | exact hS9); clear hK K; try simp only [Act.put, List.getElem_toArray, List.getElem_cons_zero, List.getElem_cons_succ, List.setIfInBounds_toArray, List.set_cons_zero, List.set_cons_succ])
        clear T9
        iterate 2 (refine wpZ_pu (v := ?_) _ (by rfl) (by rfl) (by rfl) (by rfl) (fun W => ?_) ?_; (rotate_left; (focus (go_simp; (try with_reducible rfl); done))); try simp only [Act.put, List.getElem_toArray, List.getElem_cons_zero, List.getElem_cons_succ, List.setIfInBounds_toArray, List.set_cons_zero, List.set_cons_succ])
        (simp only [wpZ])
        go_wp2
        clear hS h9 HTX L1 L2 PA PB
        go_loopw [12] (fun i wr => SamRel n2 (rowA 5 1 ao7 n7 cap7 (ub (rowO o ys)) :: mqA 87 (.pointer none) o :: C :: rowA 3 1 ao1 n cap1 zs :: mqA 101 (.pointer none) o :: L) i wr) (fun i _ => n2 - (intOf i).toNat)
        case atStart => exact ⟨0, by omega, rfl, hS9⟩
        case round =>
          clear hS9 hr hz
          obtain ⟨k, hk2, rfl, hr⟩ := hrel
          by_cases hlt2 : k < n2
          · have hki : (k : Int) < n2 := by omega
            have hkx : k < ys.length := by have := HB2.out; omega
            obtain ⟨S, hrd⟩ := (hr.mv 2).reads hR2
            obtain ⟨rb, ro, rfl, -, -, hcs⟩ := hrd.addr (by omega)
            have G : ∀ W R, Hold W (C :: R) → W.cell? ⟨rb, ro + k, none⟩ = some (.int .i64 ys[k]) := fun W R hW => by
              obtain ⟨S2, hrd2⟩ := hW.reads hR2
              obtain ⟨rb2, ro2, he, -, -, hcs2⟩ := hrd2.addr (by omega)
              simp only [Option.some.injEq, Addr.mk.injEq, and_true] at he
              obtain ⟨rfl, rfl⟩ := he
              exact (hcs2 k (by omega)).trans (is_get hkx)
            have hS := hr.drew
            have g1 := G _ _ (hS.mv 2)
            generalize ys[k] = y at *
            have HG := Lib.hid G
            clear hcs hrd G
            go_upto_region 18 with (fail)
            refine wp_region_Z (fun W => W.cell? ⟨rb, ro + k, none⟩ = some (.int .i64 y)) [4, 10] [] [0, 1, 2, 3, 6, 7, 8, 9, 12] [0, 1, 2, 3, 4, 6, 7, 8, 9, 10, 5, 11, 12] (by kernel_rfl) (by kernel_rfl) ?_
            (repeat (first | (refine wpZ_st (v := ?_) _ (by rfl) (by rfl) (by rfl) (fun W hW => ?_) g1 ?_; (rotate_left; (focus ((try dsimp only at hW); go_simp; (try with_reducible rfl); done))); try simp only [Act.put, List.getElem_toArray, List.getElem_cons_zero, List.getElem_cons_succ, List.setIfInBounds_toArray, List.set_cons_zero, List.set_cons_succ]) | (refine wpZ_pu (v := ?_) _ (by rfl) (by rfl) (by rfl) (by rfl) (fun W => ?_) ?_; (rotate_left; (focus ((try dsimp only at hW); go_simp; (try with_reducible rfl); done))); try simp only [Act.put, List.getElem_toArray, List.getElem_cons_zero, List.getElem_cons_succ, List.setIfInBounds_toArray, List.set_cons_zero, List.set_cons_succ]) | (refine wpZ_no _ (by rfl) (by rfl) (by rfl) (by rfl) ?_; try simp only [Act.put, List.getElem_toArray, List.getElem_cons_zero, List.getElem_cons_succ, List.setIfInBounds_toArray, List.set_cons_zero, List.set_cons_succ]) | (refine wpZ_noS _ (by rfl) (by rfl) (by rfl) g1 ?_; try simp only [Act.put, List.getElem_toArray, List.getElem_cons_zero, List.getElem_cons_succ, List.setIfInBounds_toArray, List.set_cons_zero, List.set_cons_succ])))
            refine wpZ_eff _ (by rfl) (by rfl) (by rfl) (by rfl) (fun K hK => ?_)
            go_simp
            refine (mlevel o hmd.out _ y _ _ (hS.mv 1)).mono ?_
            rintro e w10 ⟨rfl, h10⟩
            have h10 := Hold.bk (L := rowA 5 1 ao7 n7 cap7 (ub (rowO o ys)) :: mqA 87 (.pointer none) o :: C :: rowA 3 1 ao1 n cap1 zs :: mqA 101 (.pointer none) o :: L) 1 h10
            have g2 := HG.out _ _ (h10.mv 2)
            dsimp only
            (refine hK _ _ (fun hl => ?_) ?_; (first | (focus (cases hl; done)) | exact g2); clear hK K; try simp only [Act.put, List.getElem_toArray, List.getElem_cons_zero, List.getElem_cons_succ, List.setIfInBounds_toArray, List.set_cons_zero, List.set_cons_succ])
            refine wpZ_eff _ (by rfl) (by rfl) (by rfl) (by rfl) (fun K hK => ?_)
            go_simp
            refine (mrlevel o hmd.out _ y _ _ (h10.mv 4)).mono ?_
            rintro e w11 ⟨rfl, h11⟩
            have h11 := Hold.bk (L := rowA 5 1 ao7 n7 cap7 (ub (rowO o ys)) :: mqA 87 (.pointer none) o :: C :: rowA 3 1 ao1 n cap1 zs :: mqA 101 (.pointer none) o :: L) 4 h11
            have g3 := HG.out _ _ (h11.mv 2)
            dsimp only
            (refine hK _ _ (fun hl => ?_) ?_; (first | (focus (cases hl; done)) | exact g3); clear hK K; try simp only [Act.put, List.getElem_toArray, List.getElem_cons_zero, List.getElem_cons_succ, List.setIfInBounds_toArray, List.set_cons_zero, List.set_cons_succ])
            (repeat (first | (refine wpZ_st (v := ?_) _ (by rfl) (by rfl) (by rfl) (fun W hW => ?_) g3 ?_; (rotate_left; (focus ((try dsimp only at hW); go_simp; (try with_reducible rfl); done))); try simp only [Act.put, List.getElem_toArray, List.getElem_cons_zero, List.getElem_cons_succ, List.setIfInBounds_toArray, List.set_cons_zero, List.set_cons_succ]) | (refine wpZ_pu (v := ?_) _ (by rfl) (by rfl) (by rfl) (by rfl) (fun W => ?_) ?_; (rotate_left; (focus ((try dsimp only at hW); go_simp; (try with_reducible rfl); done))); try simp only [Act.put, List.getElem_toArray, List.getElem_cons_zero, List.getElem_cons_succ, List.setIfInBounds_toArray, List.set_cons_zero, List.set_cons_succ]) | (refine wpZ_no _ (by rfl) (by rfl) (by rfl) (by rfl) ?_; try simp only [Act.put, List.getElem_toArray, List.getElem_cons_zero, List.getElem_cons_succ, List.setIfInBounds_toArray, List.set_cons_zero, List.set_cons_succ]) | (refine wpZ_noS _ (by rfl) (by rfl) (by rfl) g3 ?_; try simp only [Act.put, List.getElem_toArray, List.getElem_cons_zero, List.getElem_cons_succ, List.setIfInBounds_toArray, List.set_cons_zero, List.set_cons_succ])))
            (simp only [wpZ])
            go_wp2
            go_roundw
            case rel => exact ⟨k + 1, by omega, by go_num, h11⟩
            case measure => simp [intOf]; omega
          · obtain rfl : n2 = k := by omega
            go_wp2
            go_ret
            exact ⟨rfl, (((hr.mv 4).drop.drop.drop.mv 1).drop.mv 0)⟩
  · go_upto_region 6 with (first
      | (go_at_call 18; refine (num_any _ _ _ h4).mono ?_; rintro e w' ⟨rfl, rfl⟩)
      | (go_at_call 21; refine (knows_ok _ _ h4).mono ?_; rintro e w5 ⟨rfl, h5⟩))
    clear h4
    go_wp2
    go_loopw [10] (fun i wr => ClrRel n xs ao1 cap1 (mqA 101 (.pointer (some ⟨c, 0, none⟩)) o :: C :: mqA 87 (.pointer (some ⟨b, 0, none⟩)) o :: L) i wr) (fun i _ => n - (intOf i).toNat)
    case atStart => exact ⟨0, _, by omega, rfl, fun _ _ => rfl, h5⟩
    case round =>
      clear h5
      obtain ⟨k, zs, hk, rfl, hz, hr⟩ := hrel
      by_cases hlt : k < n
      · have hki : (k : Int) < n := by omega
        obtain ⟨S, hrd⟩ := (hr.mv 2).reads hR
        obtain ⟨rb, ro, rfl, -, -, hcs⟩ := hrd.addr (by omega)
        have hkx : k < xs.length := by have := HB1.out; omega
        have c0 := (hcs k (by omega)).trans (is_get hkx)
        obtain ⟨tb, tq, rfl, hct, hft⟩ := hr.at (by omega)
        have c1 := ((hct k (by omega)).trans (hz k (Nat.le_refl _))).trans (is_get hkx)
        have f1 := hft (tq + k)
        have HX := hr.put k (by omega) (.int .i64 0)
        have HZ := Lib.hid hz
        generalize xs[k] = y at *
        clear hcs hct hft hrd hz
        go_upto_region 9 with (fail)
        go_quiet (fail)
        have HX := HX.drewN nq
        go_wp2
        go_roundw
        case rel =>
          refine ⟨k + 1, zs.set k (.int .i64 0), by omega, by go_num, fun j hj => ?_, HX⟩
          rw [List.getElem?_set_ne (by omega)]
          exact HZ.out j (by omega)
        case measure => simp [intOf]; omega
      · obtain rfl : n = k := by omega
        have h6 := ((hr.mv 2).mv 3)
        go_upto_region 13 with (go_at_call 39; refine (PA _ _ _ h6).mono ?_; rintro e w7 ⟨ao7, n7, cap7, rfl, h7⟩)
        clear h6
        have hS := h7.drew
        have TX : ∀ (a : Option Addr) (m cp : Nat) (W : World) (R : List Asn), Hold W (rowA 5 1 a m cp (ub (rowO o ys)) :: R) → Sem.run Try.prog (convert 73 9 (.slice a m cp)) W = .ok (.string ⟨(rowO o ys).toArray⟩) W := fun a m cp W R hW => by
          obtain ⟨S, hrd⟩ := hW.rd
          exact run_text Try.underlying73 Try.underlying5 Try.underlying9 hrd
        refine wp_region_Z (fun W => Hold W (rowA 5 1 ao7 n7 cap7 (ub (rowO o ys)) :: mqA 87 (.pointer (some ⟨b, 0, none⟩)) o :: C :: rowA 3 1 ao1 n cap1 zs :: mqA 101 (.pointer (some ⟨c, 0, none⟩)) o :: L)) [7] [] [0, 2, 4, 5, 6, 8, 9, 12, 13] [0, 2, 1, 3, 4, 5, 6, 7, 8, 9, 10, 11, 12, 13] (by kernel_rfl) (by kernel_rfl) ?_
        generalize w7.drew = w8 at *
        have HTX := Lib.hid TX
        clear TX h7
        have L1 := mlevels o hmd.out _ w8 _ (hS.mv 1)
        have L2 := mrlevels o hmd.out _ w8 _ (hS.mv 4)
        iterate 2 (refine wpZ_pu (v := ?_) _ (by rfl) (by rfl) (by rfl) (by rfl) (fun W => ?_) ?_; (rotate_left; (focus (go_simp; (try with_reducible rfl); done))); try simp only [Act.put, List.getElem_toArray, List.getElem_cons_zero, List.getElem_cons_succ, List.setIfInBounds_toArray, List.set_cons_zero, List.set_cons_succ])
        refine wpZ_eff _ (by rfl) (by rfl) (by rfl) (by rfl) (fun K hK => ?_)
        go_simp
        refine L1.mono ?_
        rintro e w' ⟨rfl, rfl⟩
        dsimp only
        (refine hK _ _ (fun hl => ?_) ?_; (first | (focus (cases hl; done)) | exact hS); clear hK K; try simp only [Act.put, List.getElem_toArray, List.getElem_cons_zero, List.getElem_cons_succ, List.setIfInBounds_toArray, List.set_cons_zero, List.set_cons_succ])
        refine wpZ_eff _ (by rfl) (by rfl) (by rfl) (by rfl) (fun K hK => ?_)
        go_simp
        refine L2.mono ?_
        rintro e w' ⟨rfl, rfl⟩
        dsimp only
        (refine hK _ _ (fun hl => ?_) ?_; (first | (focus (cases hl; done)) | exact hS); clear hK K; try simp only [Act.put, List.getElem_toArray, List.getElem_cons_zero, List.getElem_cons_succ, List.setIfInBounds_toArray, List.set_cons_zero, List.set_cons_succ])
        iterate 3 (refine wpZ_pu (v := ?_) _ (by rfl) (by rfl) (by rfl) (by rfl) (fun W => ?_) ?_; (rotate_left; (focus (go_simp; (try with_reducible rfl); done))); try simp only [Act.put, List.getElem_toArray, List.getElem_cons_zero, List.getElem_cons_succ, List.setIfInBounds_toArray, List.set_cons_zero, List.set_cons_succ])
        refine wpZ_st _ (.string ⟨(rowO o ys).toArray⟩) (by rfl) (by rfl) (by rfl) (fun W hW => by have := HTX.out ao7 n7 cap7 W _ hW; go_simp) hS ?_
        try simp only [Act.put, List.getElem_toArray, List.getElem_cons_zero, List.getElem_cons_succ, List.setIfInBounds_toArray, List.set_cons_zero, List.set_cons_succ]
        iterate 2 (refine wpZ_pu (v := ?_) _ (by rfl) (by rfl) (by rfl) (by rfl) (fun W => ?_) ?_; (rotate_left; (focus (go_simp; (try with_reducible rfl); done))); try simp only [Act.put, List.getElem_toArray, List.getElem_cons_zero, List.getElem_cons_succ, List.setIfInBounds_toArray, List.set_cons_zero, List.set_cons_succ])
        refine wpZ_eff _ (by rfl) (by rfl) (by rfl) (by rfl) (fun K hK => ?_)
        go_simp
        refine (PB _ _ _ ((hS.mv 2).mv 4)).mono ?_
        rintro e w9 ⟨ao9, n9, cap9, rfl, h9⟩
        have hS9 : Hold w9 (rowA 5 1 ao7 n7 cap7 (ub (rowO o ys)) :: mqA 87 (.pointer (some ⟨b, 0, none⟩)) o :: C :: rowA 3 1 ao1 n cap1 zs :: mqA 101 (.pointer (some ⟨c, 0, none⟩)) o :: L) := Hold.bk 2 (Hold.bk 4 h9.drop)
        dsimp only
        (refine hK _ _ (fun hl => ?_) ?_; (first | (focus (cases hl; done)) | exact hS9); clear hK K; try simp only [Act.put, List.getElem_toArray, List.getElem_cons_zero, List.getElem_cons_succ, List.setIfInBounds_toArray, List.set_cons_zero, List.set_cons_succ])
        have T9 := HTX.out ao9 n9 cap9 w9 _ h9
        (refine wpZ_eff _ (by rfl) (by rfl) (by rfl) (by rfl) (fun K hK => ?_); go_simp; refine hK _ _ (fun hl => ?_) ?_; (first | (focus (cases hl; done)) | exact hS9); clear hK K; try simp only [Act.put, List.getElem_toArray, List.getElem_cons_zero, List.getElem_cons_succ, List.setIfInBounds_toArray, List.set_cons_zero, List.set_cons_succ])
        clear T9
        iterate 2 (refine wpZ_pu (v := ?_) _ (by rfl) (by rfl) (by rfl) (by rfl) (fun W => ?_) ?_; (rotate_left; (focus (go_simp; (try with_reducible rfl); done))); try simp only [Act.put, List.getElem_toArray, List.getElem_cons_zero, List.getElem_cons_succ, List.setIfInBounds_toArray, List.set_cons_zero, List.set_cons_succ])
        (simp only [wpZ])
        go_wp2
        clear hS h9 HTX L1 L2 PA PB
        go_loopw [12] (fun i wr => SamRel n2 (rowA 5 1 ao7 n7 cap7 (ub (rowO o ys)) :: mqA 87 (.pointer (some ⟨b, 0, none⟩)) o :: C :: rowA 3 1 ao1 n cap1 zs :: mqA 101 (.pointer (some ⟨c, 0, none⟩)) o :: L) i wr) (fun i _ => n2 - (intOf i).toNat)
        case atStart => exact ⟨0, by omega, rfl, hS9⟩
        case round =>
          clear hS9 hr hz
          obtain ⟨k, hk2, rfl, hr⟩ := hrel
          by_cases hlt2 : k < n2
          · have hki : (k : Int) < n2 := by omega
            have hkx : k < ys.length := by have := HB2.out; omega
            obtain ⟨S, hrd⟩ := (hr.mv 2).reads hR2
            obtain ⟨rb, ro, rfl, -, -, hcs⟩ := hrd.addr (by omega)
            have G : ∀ W R, Hold W (C :: R) → W.cell? ⟨rb, ro + k, none⟩ = some (.int .i64 ys[k]) := fun W R hW => by
              obtain ⟨S2, hrd2⟩ := hW.reads hR2
              obtain ⟨rb2, ro2, he, -, -, hcs2⟩ := hrd2.addr (by omega)
              simp only [Option.some.injEq, Addr.mk.injEq, and_true] at he
              obtain ⟨rfl, rfl⟩ := he
              exact (hcs2 k (by omega)).trans (is_get hkx)
            have hS := hr.drew
            have g1 := G _ _ (hS.mv 2)
            generalize ys[k] = y at *
            have HG := Lib.hid G
            clear hcs hrd G
            go_upto_region 18 with (fail)
            refine wp_region_Z (fun W => W.cell? ⟨rb, ro + k, none⟩ = some (.int .i64 y)) [4, 10] [] [0, 1, 2, 3, 6, 7, 8, 9, 12] [0, 1, 2, 3, 4, 6, 7, 8, 9, 10, 5, 11, 12] (by kernel_rfl) (by kernel_rfl) ?_
            (repeat (first | (refine wpZ_st (v := ?_) _ (by rfl) (by rfl) (by rfl) (fun W hW => ?_) g1 ?_; (rotate_left; (focus ((try dsimp only at hW); go_simp; (try with_reducible rfl); done))); try simp only [Act.put, List.getElem_toArray, List.getElem_cons_zero, List.getElem_cons_succ, List.setIfInBounds_toArray, List.set_cons_zero, List.set_cons_succ]) | (refine wpZ_pu (v := ?_) _ (by rfl) (by rfl) (by rfl) (by rfl) (fun W => ?_) ?_; (rotate_left; (focus ((try dsimp only at hW); go_simp; (try with_reducible rfl); done))); try simp only [Act.put, List.getElem_toArray, List.getElem_cons_zero, List.getElem_cons_succ, List.setIfInBounds_toArray, List.set_cons_zero, List.set_cons_succ]) | (refine wpZ_no _ (by rfl) (by rfl) (by rfl) (by rfl) ?_; try simp only [Act.put, List.getElem_toArray, List.getElem_cons_zero, List.getElem_cons_succ, List.setIfInBounds_toArray, List.set_cons_zero, List.set_cons_succ]) | (refine wpZ_noS _ (by rfl) (by rfl) (by rfl) g1 ?_; try simp only [Act.put, List.getElem_toArray, List.getElem_cons_zero, List.getElem_cons_succ, List.setIfInBounds_toArray, List.set_cons_zero, List.set_cons_succ])))
            refine wpZ_eff _ (by rfl) (by rfl) (by rfl) (by rfl) (fun K hK => ?_)
            go_simp
            refine (mlevel o hmd.out _ y _ _ (hS.mv 1)).mono ?_
            rintro e w10 ⟨rfl, h10⟩
            have h10 := Hold.bk (L := rowA 5 1 ao7 n7 cap7 (ub (rowO o ys)) :: mqA 87 (.pointer (some ⟨b, 0, none⟩)) o :: C :: rowA 3 1 ao1 n cap1 zs :: mqA 101 (.pointer (some ⟨c, 0, none⟩)) o :: L) 1 h10
            have g2 := HG.out _ _ (h10.mv 2)
            dsimp only
            (refine hK _ _ (fun hl => ?_) ?_; (first | (focus (cases hl; done)) | exact g2); clear hK K; try simp only [Act.put, List.getElem_toArray, List.getElem_cons_zero, List.getElem_cons_succ, List.setIfInBounds_toArray, List.set_cons_zero, List.set_cons_succ])
            refine wpZ_eff _ (by rfl) (by rfl) (by rfl) (by rfl) (fun K hK => ?_)
            go_simp
            refine (mrlevel o hmd.out _ y _ _ (h10.mv 4)).mono ?_
            rintro e w11 ⟨rfl, h11⟩
            have h11 := Hold.bk (L := rowA 5 1 ao7 n7 cap7 (ub (rowO o ys)) :: mqA 87 (.pointer (some ⟨b, 0, none⟩)) o :: C :: rowA 3 1 ao1 n cap1 zs :: mqA 101 (.pointer (some ⟨c, 0, none⟩)) o :: L) 4 h11
            have g3 := HG.out _ _ (h11.mv 2)
            dsimp only
            (refine hK _ _ (fun hl => ?_) ?_; (first | (focus (cases hl; done)) | exact g3); clear hK K; try simp only [Act.put, List.getElem_toArray, List.getElem_cons_zero, List.getElem_cons_succ, List.setIfInBounds_toArray, List.set_cons_zero, List.set_cons_succ])
            (repeat (first | (refine wpZ_st (v := ?_) _ (by rfl) (by rfl) (by rfl) (fun W hW => ?_) g3 ?_; (rotate_left; (focus ((try dsimp only at hW); go_simp; (try with_reducible rfl); done))); try simp only [Act.put, List.getElem_toArray, List.getElem_cons_zero, List.getElem_cons_succ, List.setIfInBounds_toArray, List.set_cons_zero, List.set_cons_succ]) | (refine wpZ_pu (v := ?_) _ (by rfl) (by rfl) (by rfl) (by rfl) (fun W => ?_) ?_; (rotate_left; (focus ((try dsimp only at hW); go_simp; (try with_reducible rfl); done))); try simp only [Act.put, List.getElem_toArray, List.getElem_cons_zero, List.getElem_cons_succ, List.setIfInBounds_toArray, List.set_cons_zero, List.set_cons_succ]) | (refine wpZ_no _ (by rfl) (by rfl) (by rfl) (by rfl) ?_; try simp only [Act.put, List.getElem_toArray, List.getElem_cons_zero, List.getElem_cons_succ, List.setIfInBounds_toArray, List.set_cons_zero, List.set_cons_succ]) | (refine wpZ_noS _ (by rfl) (by rfl) (by rfl) g3 ?_; try simp only [Act.put, List.getElem_toArray, List.getElem_cons_zero, List.getElem_cons_succ, List.setIfInBounds_toArray, List.set_cons_zero, List.set_cons_succ])))
            (simp only [wpZ])
            go_wp2
            go_roundw
            case rel => exact ⟨k + 1, by omega, by go_num, h11⟩
            case measure => simp [intOf]; omega
          · obtain rfl : n2 = k := by omega
            go_wp2
            go_ret
            exact ⟨rfl, (((hr.mv 4).drop.drop.drop.mv 1).drop.mv 0)⟩

end Go.Proofs.Ytklokbmpapjjiaa
