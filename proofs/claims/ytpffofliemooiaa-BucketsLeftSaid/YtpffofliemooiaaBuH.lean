/- Contracts: Pop. -/
import Derived.Test.YtpffofliemooiaaBuD
open Go.RowKit Go.Own
namespace Go.Proofs.Ytpffofliemooiaa

/-- The newest of the highest bucket goes. -/
def popS (S : BS) : BS := { S with top := hiAt S.rows S.top, rows := S.rows.set (hiAt S.rows S.top) (S.rows.getD (hiAt S.rows S.top) []).dropLast, n := S.n - 1 }
def popV (S : BS) : Int := (S.rows.getD (hiAt S.rows S.top) []).getLastD 0
theorem hiAt_spec {rows : List (List Int)} : ∀ {t : Nat}, (∃ j, j ≤ t ∧ rows.getD j [] ≠ []) → hiAt rows t ≤ t ∧ rows.getD (hiAt rows t) [] ≠ []
  | 0, ⟨j, h1, h2⟩ => by
    obtain rfl : j = 0 := by omega
    exact ⟨by simp [hiAt], by simpa [hiAt] using h2⟩
  | t + 1, ⟨j, h1, h2⟩ => by
    rw [hiAt]
    by_cases h : rows.getD (t + 1) [] = []
    · rw [if_pos h]
      have := hiAt_spec (rows := rows) (t := t) ⟨j, by
        rcases Nat.lt_or_ge j (t + 1) with h4 | h4
        · omega
        · obtain rfl : j = t + 1 := by omega
          exact absurd h h2, h2⟩
      exact ⟨by omega, this.2⟩
    · rw [if_neg h]
      exact ⟨by omega, h⟩

set_option maxHeartbeats 4000000 in
set_option maxRecDepth 20000 in
theorem pop_ok (b : Nat) (S : BS) (hc : 1 ≤ S.cp) (hn : 0 < S.n) (hn9 : (S.n : Int) ≤ 65536) (ht : S.low ≤ S.top ∧ S.top < S.rows.length) (hN : ∃ j, j ≤ S.top ∧ S.rows.getD j [] ≠ []) (hR : S.rows.length ≤ 65536) (hB : ∀ t : Nat, t < S.rows.length → I64 ((t : Int) + S.base)) (hb0 : I64 S.base) (hx : ∀ xs ∈ S.rows, xs.length ≤ 65536) (w : World) (L : List Asn) (h : Hold w (bkA b S :: L)) :
    Calls Try.prog 16 #[.pointer (some ⟨b, 0, none⟩)] w fun e w' => e = .returned (.tuple #[.int .i64 (popV S), .int .i64 ((hiAt S.rows S.top : Nat) + S.base), .bool true]) ∧ Hold w' (bkA b (popS S) :: L) := by
  have PH := fun w L h => highest_ok b S hc hn ht hN hR hB w L h
  obtain ⟨hq1, hq2⟩ := hiAt_spec hN
  obtain ⟨q, hq⟩ : ∃ q, hiAt S.rows S.top = q := ⟨_, rfl⟩
  rw [hq] at PH hq1 hq2
  have hqr : q < S.rows.length := by omega
  obtain ⟨qb1, qb2⟩ := hB q hqr
  obtain ⟨sb1, sb2⟩ := hb0
  obtain ⟨ys, hys⟩ : ∃ ys, S.rows[q]? = some ys := ⟨S.rows[q], List.getElem?_eq_getElem hqr⟩
  have hgd : S.rows.getD q [] = ys := by simp [List.getD, hys]
  rw [hgd] at hq2
  have hyx : ys.length ≤ 65536 := hx ys (List.mem_of_getElem? hys)
  have hyl : 0 < ys.length := List.length_pos_iff.2 hq2
  have HQ := Lib.hid hq
  have HGD := Lib.hid hgd
  have HYS := Lib.hid hys
  clear hq hgd hys hB hx hq2 hN
  go_enter Try.func16, Try.ntmps16
  go_upto_region 4 with (go_at_call 30; refine (PH _ _ h).mono ?_; rintro e wg ⟨rfl, hg⟩)
  clear PH h
  obtain ⟨ro5, rc5, vs5, hl5, h5⟩ := bk_open hg
  have h5 : Hold wg (cellsA b 67 ({ S with top := q }.cells (.slice ro5 S.rows.length rc5)) :: rowA 24 1 ro5 S.rows.length rc5 (sl S.rows vs5) :: starL (rws S.rows vs5) :: L) := h5
  have hl5 : vs5.length = S.rows.length := hl5
  clear hg
  obtain ⟨v5, -, hv2, hv3⟩ := sl_get hl5 HYS.out
  obtain ⟨rb5, rp5, rfl, -, -⟩ := (h5.mv 1).at (by omega)
  have F : ∀ W A R, Hold W (A :: R :: cellsA b 67 ({ S with top := q }.cells (.slice (some ⟨rb5, rp5, none⟩) S.rows.length rc5)) :: rowA 24 1 (some ⟨rb5, rp5, none⟩) S.rows.length rc5 (sl S.rows vs5) :: L) → W.cell? ⟨b, 5, none⟩ = some (.slice (some ⟨rb5, rp5, none⟩) S.rows.length rc5) ∧ W.cell? ⟨b, 4, none⟩ = some (.int .i64 S.base) ∧ W.cell? ⟨rb5, rp5 + q, none⟩ = some (.slice v5.1 ys.length v5.2) ∧ W.frozen? ⟨rb5, rp5 + q, none⟩ = false := fun W A R hW => by
    obtain ⟨rb', ro', he, hct', hft'⟩ := (hW.mv 3).at (by omega)
    simp only [Option.some.injEq, Addr.mk.injEq, and_true] at he
    obtain ⟨rfl, rfl⟩ := he
    exact ⟨(hW.mv 2).cell 5, (hW.mv 2).cell 4, by rw [hct' q (by omega)]; exact hv2, hft' _⟩
  have ho := (h5.mv 2).out hv3
  (try dsimp only [Go.Own.front, Go.Own.arrA, Go.Own.atA, Go.Own.dropA, List.length_cons, List.length_nil, Nat.zero_add, Nat.reduceAdd] at ho)
  obtain ⟨vb, vcap⟩ := v5
  simp only at ho F
  obtain ⟨cb, co, rfl, hcy, -⟩ := ho.at hyl
  obtain ⟨y, hy⟩ : ∃ y, ys[ys.length - 1]? = some y := ⟨ys[ys.length - 1], List.getElem?_eq_getElem (by omega)⟩
  have cy : wg.cell? ⟨cb, co + (ys.length - 1), none⟩ = some (.int .i64 y) := by rw [hcy _ (by omega), is, List.getElem?_map, hy]; rfl
  have HY := Lib.hid hy
  have hcapb := ho.bounds.2.1
  have hS := ho.drew
  obtain ⟨d5, d4, dq, -⟩ := F _ _ _ hS
  obtain ⟨-, -, -, fq⟩ := F _ _ _ ho
  have HF := Lib.hid F
  have HV2 := Lib.hid hv2
  have HL5 := Lib.hid hl5
  have hqi : (q : Int) < S.rows.length := by omega
  have hq0 : 0 ≤ (q : Int) := by omega
  have hq9 : (q : Int) ≤ 9223372036854775807 := by omega
  have W1 : IntKind.i64.wrap (q : Int) = q := IntWalk.i64_in _ (by omega)
  clear F hv2 hv3 hl5 hcy hy
  refine wp_region_Z (fun W => W.cell? ⟨b, 5, none⟩ = some (.slice (some ⟨rb5, rp5, none⟩) S.rows.length rc5) ∧ W.cell? ⟨b, 4, none⟩ = some (.int .i64 S.base) ∧ W.cell? ⟨rb5, rp5 + q, none⟩ = some (.slice (some ⟨cb, co, none⟩) ys.length vcap)) [3, 8, 11] [] [0, 1, 2, 4, 5, 6, 7, 9, 10, 12] [0, 1, 2, 3, 4, 5, 6, 7, 8, 9, 10, 11, 12] (by kernel_rfl) (by kernel_rfl) ?_
  (repeat (first | (refine wpZ_st (v := ?_) _ (by rfl) (by rfl) (by rfl) (fun W hW => ?_) (by exact ⟨d5, d4, dq⟩) ?_; (rotate_left; (focus ((try dsimp only at hW); go_simp; (try with_reducible rfl); done))); try simp only [Act.put, List.getElem_toArray, List.getElem_cons_zero, List.getElem_cons_succ, List.setIfInBounds_toArray, List.set_cons_zero, List.set_cons_succ]) | (refine wpZ_pu (v := ?_) _ (by rfl) (by rfl) (by rfl) (by rfl) (fun W => ?_) ?_; (rotate_left; (focus ((try dsimp only at hW); go_simp; (try with_reducible rfl); done))); try simp only [Act.put, List.getElem_toArray, List.getElem_cons_zero, List.getElem_cons_succ, List.setIfInBounds_toArray, List.set_cons_zero, List.set_cons_succ]) | (refine wpZ_no _ (by rfl) (by rfl) (by rfl) (by rfl) ?_; try simp only [Act.put, List.getElem_toArray, List.getElem_cons_zero, List.getElem_cons_succ, List.setIfInBounds_toArray, List.set_cons_zero, List.set_cons_succ]) | (refine wpZ_noS _ (by rfl) (by rfl) (by rfl) (by exact ⟨d5, d4, dq⟩) ?_; try simp only [Act.put, List.getElem_toArray, List.getElem_cons_zero, List.getElem_cons_succ, List.setIfInBounds_toArray, List.set_cons_zero, List.set_cons_succ])))
  (simp only [wpZ])
  have hrow : Hold wg (rowA 3 1 (some ⟨cb, co, none⟩) (ys.length - 1) vcap (is ys.dropLast) :: starL ((rws S.rows vs5).eraseIdx q) :: cellsA b 67 ({ S with top := q }.cells (.slice (some ⟨rb5, rp5, none⟩) S.rows.length rc5)) :: rowA 24 1 (some ⟨rb5, rp5, none⟩) S.rows.length rc5 (sl S.rows vs5) :: L) := by
    have h1 := ho.imp (A' := rowA 3 1 (some ⟨cb, co, none⟩) (ys.length - 1) vcap ((is ys).take (ys.length - 1))) (fun B hB => Own.first hB (ys.length - 1) (by omega))
    rwa [show (is ys).take (ys.length - 1) = is ys.dropLast by rw [List.dropLast_eq_take, is, is, List.map_take]] at h1
  have HP := (hrow.mv 3).put q (by omega) (.slice (some ⟨cb, co, none⟩) (ys.length - 1) vcap)
  have HQ2 := HP.arr [1, 2, 0, 3]
  (try dsimp only [Go.Own.front, Go.Own.arrA, Go.Own.atA, Go.Own.dropA, List.length_cons, List.length_nil, Nat.zero_add, Nat.reduceAdd] at HQ2)
  have hdl : ys.dropLast.length = ys.length - 1 := by simp
  have HT := HQ2.back (by rw [rws_length HL5.out]; exact hqr)
  have e1 := rws_set S.rows vs5 q ys.dropLast (some ⟨cb, co, none⟩, vcap)
  have e2 := sl_set S.rows vs5 q ys.dropLast (some ⟨cb, co, none⟩, vcap)
  simp only [hdl] at e1 e2
  rw [← e1, ← e2] at HT
  have HU := (HT.arr [2, 1, 0]).drew.drew
  (try dsimp only [Go.Own.front, Go.Own.arrA, Go.Own.atA, Go.Own.dropA, List.length_cons, List.length_nil, Nat.zero_add, Nat.reduceAdd] at HU)
  have HHU := Lib.hid HU
  clear hrow HP HQ2 HT e1 e2 HU hdl ho h5
  have hlm : ((ys.length : Int) - 1).toNat = ys.length - 1 := by omega
  have hl0 : 0 ≤ (ys.length : Int) - 1 := by omega
  have hl1 : (ys.length : Int) - 1 < ys.length := by omega
  have hl9 : (ys.length : Int) ≤ 65536 := by omega
  have hl2 : (ys.length : Int) - 1 ≤ vcap := by omega
  have hl3 : 1 ≤ (ys.length : Int) := by omega
  have W2 : IntKind.i64.wrap ((ys.length : Int) - 1) = (ys.length : Int) - 1 := IntWalk.i64_in _ (by omega)
  have hS2 := hS.drew
  obtain ⟨d5', d4', dq', -⟩ := HF.out _ _ _ hS2
  go_upto_region 6 with (fail)
  refine wp_region_Z (fun W => W.cell? ⟨b, 5, none⟩ = some (.slice (some ⟨rb5, rp5, none⟩) S.rows.length rc5) ∧ W.cell? ⟨b, 4, none⟩ = some (.int .i64 S.base)) [3, 8] [16] [0, 1, 2, 4, 5, 6, 7, 9, 10, 11, 12, 13, 14, 15] [0, 1, 2, 3, 4, 5, 6, 7, 8, 9, 10, 11, 12, 13, 14, 15, 16] (by kernel_rfl) (by kernel_rfl) ?_
  (repeat (first | (refine wpZ_st (v := ?_) _ (by rfl) (by rfl) (by rfl) (fun W hW => ?_) (by exact ⟨d5', d4'⟩) ?_; (rotate_left; (focus ((try dsimp only at hW); go_simp; (try with_reducible rfl); done))); try simp only [Act.put, List.getElem_toArray, List.getElem_cons_zero, List.getElem_cons_succ, List.setIfInBounds_toArray, List.set_cons_zero, List.set_cons_succ]) | (refine wpZ_pu (v := ?_) _ (by rfl) (by rfl) (by rfl) (by rfl) (fun W => ?_) ?_; (rotate_left; (focus ((try dsimp only at hW); go_simp; (try with_reducible rfl); done))); try simp only [Act.put, List.getElem_toArray, List.getElem_cons_zero, List.getElem_cons_succ, List.setIfInBounds_toArray, List.set_cons_zero, List.set_cons_succ]) | (refine wpZ_no _ (by rfl) (by rfl) (by rfl) (by rfl) ?_; try simp only [Act.put, List.getElem_toArray, List.getElem_cons_zero, List.getElem_cons_succ, List.setIfInBounds_toArray, List.set_cons_zero, List.set_cons_succ]) | (refine wpZ_noS _ (by rfl) (by rfl) (by rfl) (by exact ⟨d5', d4'⟩) ?_; try simp only [Act.put, List.getElem_toArray, List.getElem_cons_zero, List.getElem_cons_succ, List.setIfInBounds_toArray, List.set_cons_zero, List.set_cons_succ])))
  have cq : wg.cell? ⟨rb5, rp5 + q, none⟩ = some (.slice (some ⟨cb, co, none⟩) ys.length vcap) := dq
  (refine wpZ_eff _ (by rfl) (by rfl) (by rfl) (by rfl) (fun K hK => ?_); go_simp; refine hK _ _ (fun hl => ?_) ?_; (first | (focus (cases hl; done)) | trivial); clear hK K; try simp only [Act.put, List.getElem_toArray, List.getElem_cons_zero, List.getElem_cons_succ, List.setIfInBounds_toArray, List.set_cons_zero, List.set_cons_succ])
  (simp only [wpZ])
  go_upto_region 7 with (fail)
  refine gen_world HHU.out (fun wh HV => ?_)
  clear HHU d5 d4 dq cq fq d5' d4' dq' hS hS2 cy
  have hn17 : wh.cell? ⟨b, 6, none⟩ = some (.int .i64 S.n) := HV.cell 6
  have f6 := HV.frozen 6
  have HW := HV.st 6 (.int .i64 ((S.n : Int) - 1))
  have hS1n : 1 ≤ (S.n : Int) := by omega
  go_wp2
  go_ret3
  have hk : (popS S).rows = S.rows.set q ys.dropLast := by
    show S.rows.set (hiAt S.rows S.top) (S.rows.getD (hiAt S.rows S.top) []).dropLast = _
    rw [HQ.out, HGD.out]
  have hout : popV S = y := by
    unfold popV
    rw [HQ.out, HGD.out, List.getLastD_eq_getLast?, List.getLast?_eq_getElem?, HY.out]; rfl
  have hkl2 : (popS S).rows.length = S.rows.length := by rw [hk]; simp
  refine ⟨by rw [hout, HQ.out]; rfl, ?_⟩
  refine bk_close (S := popS S) (ro := some ⟨rb5, rp5, none⟩) (rc := rc5) (vs := vs5.set q (some ⟨cb, co, none⟩, vcap)) (by rw [hkl2, List.length_set]; exact HL5.out) ?_
  rw [hkl2, hk]
  refine (HW.as ?_)
  simp only [BS.cells, popS, HQ.out, List.set_cons_succ, List.set_cons_zero]
  rw [show ((S.n - 1 : Nat) : Int) = (S.n : Int) - 1 by omega]

end Go.Proofs.Ytpffofliemooiaa
