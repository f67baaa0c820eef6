/- Contracts: Put where there is no room. -/
import Derived.Test.YtpffofliemooiaaBuF
open Go.RowKit Go.Own
namespace Go.Proofs.Ytpffofliemooiaa

theorem loFrom_spec {rows : List (List Int)} : ∀ {f t : Nat}, rows.length - t = f → (∃ j, t ≤ j ∧ j < rows.length ∧ rows.getD j [] ≠ []) → loFrom rows f t < rows.length ∧ rows.getD (loFrom rows f t) [] ≠ []
  | 0, t, hf, ⟨j, h1, h2, h3⟩ => by omega
  | f + 1, t, hf, ⟨j, h1, h2, h3⟩ => by
    rw [loFrom]
    by_cases h : rows.getD t [] = []
    · rw [if_pos h]
      refine loFrom_spec (by omega) ⟨j, ?_, h2, h3⟩
      rcases Nat.lt_or_ge t j with h4 | h4
      · omega
      · obtain rfl : j = t := by omega
        exact absurd h h3
    · rw [if_neg h]
      exact ⟨by omega, h⟩
theorem loAt_spec {rows : List (List Int)} {t : Nat} (h : ∃ j, t ≤ j ∧ j < rows.length ∧ rows.getD j [] ≠ []) : loAt rows t < rows.length ∧ rows.getD (loAt rows t) [] ≠ [] := loFrom_spec rfl h

theorem cut_cells {S1 : BS} {q : Nat} {v : Value} (hq : loAt S1.rows S1.low = q) (hn : 1 ≤ (S1.n : Int)) (hc : S1.marked = false ∨ S1.mark < (q : Int) + S1.base) : (((({ S1 with low := q }.cells v).set 6 (.int .i64 ((S1.n : Int) - 1))).set 9 (.int .i64 ((q : Int) + S1.base))).set 10 (.bool true)) = (cutS S1).cells v := by
  have hn2 : ((S1.n - 1 : Nat) : Int) = (S1.n : Int) - 1 := by omega
  simp only [BS.cells, cutS, hq, hn2, if_pos hc, List.set_cons_succ, List.set_cons_zero]
theorem cut_cells0 {S1 : BS} {q : Nat} {v : Value} (hq : loAt S1.rows S1.low = q) (hn : 1 ≤ (S1.n : Int)) (hm : S1.marked = true) (hc : ¬ S1.mark < (q : Int) + S1.base) : ({ S1 with low := q }.cells v).set 6 (.int .i64 ((S1.n : Int) - 1)) = (cutS S1).cells v := by
  have hn2 : ((S1.n - 1 : Nat) : Int) = (S1.n : Int) - 1 := by omega
  have hc2 : ¬ (S1.marked = false ∨ S1.mark < (q : Int) + S1.base) := by simp [hm, hc]
  simp only [BS.cells, cutS, hq, hn2, if_neg hc2, List.set_cons_succ, List.set_cons_zero]
  rw [hm]
theorem close_cut {w : World} {b : Nat} {S1 : BS} {L : List Asn} {ro : Option Addr} {rc q : Nat} {yt : List Int} {vs2 : List (Option Addr × Nat)} {cs : List Value} (hk : (cutS S1).rows = S1.rows.set q yt) (hl : vs2.length = S1.rows.length) (hcs : cs = (cutS S1).cells (.slice ro S1.rows.length rc)) (h : Hold w (cellsA b 67 cs :: rowA 24 1 ro S1.rows.length rc (sl (S1.rows.set q yt) vs2) :: starL (rws (S1.rows.set q yt) vs2) :: L)) : Hold w (bkA b (cutS S1) :: L) := by
  subst hcs
  have hkl : (cutS S1).rows.length = S1.rows.length := by rw [hk]; simp
  refine bk_close (S := cutS S1) (ro := ro) (rc := rc) (vs := vs2) (by rw [hkl]; exact hl) ?_
  rw [hkl, hk]
  exact h

set_option maxHeartbeats 4000000 in
set_option maxRecDepth 20000 in
theorem put_drop (b : Nat) (S : BS) (hc : 1 ≤ S.cp) (m id : Int) (hm : I64 m) (hd : 1 ≤ S.d) (hlo : S.lo ≤ m) (hhi : m ≤ S.hi) (j : Nat) (hj : m / S.d - S.base = j) (hjr : j < S.rows.length) (hR : S.rows.length ≤ 65536) (hn : (S.n : Int) ≤ 65536) (hcn : (S.n : Int) = S.cp)
    (hx : ∀ xs ∈ S.rows, xs.length ≤ 65536) (hlt : S.low < S.rows.length ∧ S.top < S.rows.length) (hlw : (addS S j id).low ≤ (addS S j id).top ∧ (addS S j id).top < (addS S j id).rows.length) (hne : ∃ i, (addS S j id).low ≤ i ∧ i < (addS S j id).rows.length ∧ (addS S j id).rows.getD i [] ≠ []) (hB : ∀ t : Nat, t < S.rows.length → I64 ((t : Int) + S.base)) (hb0 : I64 S.base) (w : World) (L : List Asn) (h : Hold w (bkA b S :: L)) :
    Calls Try.prog 12 #[.pointer (some ⟨b, 0, none⟩), .int .i64 m, .int .i64 id] w fun e w' => e = .returned (.tuple #[.int .i64 (outS (addS S j id)), .bool true, .int .i64 0]) ∧ Hold w' (bkA b (cutS (addS S j id)) :: L) := by
  obtain ⟨i3, hi3, hz0, hz1, hz2⟩ := info_parts info3
  obtain ⟨ro, rc, vs, hl, h1⟩ := bk_open h
  have PI := fun w => index_ok m S.d hm hd w
  have PN := none_any b S hc w _ _ h1
  obtain ⟨xs, hxs⟩ : ∃ xs, S.rows[j]? = some xs := ⟨S.rows[j], List.getElem?_eq_getElem hjr⟩
  have hgd : S.rows.getD j [] = xs := by simp [List.getD, hxs]
  have hxl : xs.length ≤ 65536 := hx xs (List.mem_of_getElem? hxs)
  obtain ⟨v, hv1, hv2, hv3⟩ := sl_get hl hxs
  have hsl := sl_length hl
  have hrl := rws_length hl
  obtain ⟨iv, hiv⟩ : ∃ iv, iv = m / S.d := ⟨_, rfl⟩
  rw [← hiv] at PI hj
  have W1 : IntKind.i64.wrap (iv - S.base) = j := by rw [hj]; exact IntWalk.i64_in _ (by omega)
  have HCN := Lib.hid hcn
  have HLW := Lib.hid hlw
  have HNE := Lib.hid hne
  have HBB := Lib.hid hB
  clear hiv hj hlw hne hB hcn
  have HS1 := Lib.hid hsl
  have HS2 := Lib.hid hrl
  have HV2 := Lib.hid hv2
  have HV3 := Lib.hid hv3
  have HGD := Lib.hid hgd
  have HL := Lib.hid hl
  clear hsl hrl hv2 hv3 hgd hl hxs hv1 hx
  obtain ⟨g0, g1, g2, g3, g4, g5, g6, g7, g8, g9, g10⟩ := bkM h1
  go_enter Try.func12, Try.ntmps12
  go_upto_region 5 with (go_at_call 29; refine PN.mono ?_; rintro e w1 ⟨rfl, rfl⟩)
  have hS := h1.drew
  refine wp_region_Z (fun W => W.cell? ⟨b, 0, none⟩ = some (.int .i64 S.d) ∧ W.cell? ⟨b, 4, none⟩ = some (.int .i64 S.base)) [4, 9] [] [0, 1, 2, 3, 6, 7, 8, 10, 11] [0, 1, 2, 3, 4, 6, 7, 8, 9, 5, 10, 11] (by kernel_rfl) (by kernel_rfl) ?_
  (repeat (first | (refine wpZ_st (v := ?_) _ (by rfl) (by rfl) (by rfl) (fun W hW => ?_) (by exact ⟨hS.cell 0, hS.cell 4⟩) ?_; (rotate_left; (focus ((try dsimp only at hW); go_simp; (try with_reducible rfl); done))); try simp only [Act.put, List.getElem_toArray, List.getElem_cons_zero, List.getElem_cons_succ, List.setIfInBounds_toArray, List.set_cons_zero, List.set_cons_succ]) | (refine wpZ_pu (v := ?_) _ (by rfl) (by rfl) (by rfl) (by rfl) (fun W => ?_) ?_; (rotate_left; (focus ((try dsimp only at hW); go_simp; (try with_reducible rfl); done))); try simp only [Act.put, List.getElem_toArray, List.getElem_cons_zero, List.getElem_cons_succ, List.setIfInBounds_toArray, List.set_cons_zero, List.set_cons_succ]) | (refine wpZ_no _ (by rfl) (by rfl) (by rfl) (by rfl) ?_; try simp only [Act.put, List.getElem_toArray, List.getElem_cons_zero, List.getElem_cons_succ, List.setIfInBounds_toArray, List.set_cons_zero, List.set_cons_succ]) | (refine wpZ_noS _ (by rfl) (by rfl) (by rfl) (by exact ⟨hS.cell 0, hS.cell 4⟩) ?_; try simp only [Act.put, List.getElem_toArray, List.getElem_cons_zero, List.getElem_cons_succ, List.setIfInBounds_toArray, List.set_cons_zero, List.set_cons_succ])))
  refine wpZ_eff _ (by rfl) (by rfl) (by rfl) (by rfl) (fun K hK => ?_)
  go_simp
  refine (PI _).mono ?_
  rintro e w2 ⟨rfl, rfl⟩
  dsimp only
  (refine hK _ _ (fun hl => ?_) ?_; (first | (focus (cases hl; done)) | exact ⟨hS.cell 0, hS.cell 4⟩); clear hK K; try simp only [Act.put, List.getElem_toArray, List.getElem_cons_zero, List.getElem_cons_succ, List.setIfInBounds_toArray, List.set_cons_zero, List.set_cons_succ])
  (repeat (first | (refine wpZ_st (v := ?_) _ (by rfl) (by rfl) (by rfl) (fun W hW => ?_) (by exact ⟨hS.cell 0, hS.cell 4⟩) ?_; (rotate_left; (focus ((try dsimp only at hW); go_simp; (try with_reducible rfl); done))); try simp only [Act.put, List.getElem_toArray, List.getElem_cons_zero, List.getElem_cons_succ, List.setIfInBounds_toArray, List.set_cons_zero, List.set_cons_succ]) | (refine wpZ_pu (v := ?_) _ (by rfl) (by rfl) (by rfl) (by rfl) (fun W => ?_) ?_; (rotate_left; (focus ((try dsimp only at hW); go_simp; (try with_reducible rfl); done))); try simp only [Act.put, List.getElem_toArray, List.getElem_cons_zero, List.getElem_cons_succ, List.setIfInBounds_toArray, List.set_cons_zero, List.set_cons_succ]) | (refine wpZ_no _ (by rfl) (by rfl) (by rfl) (by rfl) ?_; try simp only [Act.put, List.getElem_toArray, List.getElem_cons_zero, List.getElem_cons_succ, List.setIfInBounds_toArray, List.set_cons_zero, List.set_cons_succ]) | (refine wpZ_noS _ (by rfl) (by rfl) (by rfl) (by exact ⟨hS.cell 0, hS.cell 4⟩) ?_; try simp only [Act.put, List.getElem_toArray, List.getElem_cons_zero, List.getElem_cons_succ, List.setIfInBounds_toArray, List.set_cons_zero, List.set_cons_succ])))
  (simp only [wpZ])
  clear W1 PI PN h
  go_upto_if 44 with (fail)
  go_cut [47] (fun _ wc => Hold wc (cellsA b 67 ({ S with low := if S.n = 0 then j else S.low, top := if S.n = 0 then j else S.top }.cells (.slice ro S.rows.length rc)) :: rowA 24 1 ro S.rows.length rc (sl S.rows vs) :: starL (rws S.rows vs) :: L))
  case first =>
    by_cases h0 : S.n = 0
    · have f7 := h1.frozen 7
      have f8 := h1.frozen 8
      have HX := ((h1.st 7 (.int .i64 j)).st 8 (.int .i64 j)).drew
      have h00 : ((S.n : Int) == 0) = true := by rw [h0]; rfl
      have H0 := Lib.hid h0
      clear h0
      go_wp2
      go_meet
      rw [if_pos H0.out, if_pos H0.out]
      exact HX
    · have h00 : ((S.n : Int) == 0) = false := by rw [beq_eq_false_iff_ne]; omega
      have H0 := Lib.hid h0
      clear h0
      go_wp2
      go_meet
      rw [if_neg H0.out, if_neg H0.out]
      exact hS
  case rest =>
    clear g0 g1 g2 g3 g4 g5 g6 g7 g8 g9 g10
    generalize hl0 : (if S.n = 0 then j else S.low) = l0 at *
    generalize ht0 : (if S.n = 0 then j else S.top) = t0 at *
    have hl0b : l0 < S.rows.length := by rw [← hl0]; split <;> omega
    have ht0b : t0 < S.rows.length := by rw [← ht0]; split <;> omega
    have HL0 := Lib.hid hl0
    have HT0 := Lib.hid ht0
    have hmin : ∀ w, (Builtin.min_ #[3, 3] 3 #[.int .i64 l0, .int .i64 j]).run Try.prog w = .ok (.int .i64 (min l0 j : Nat)) w := fun w => by
      rw [Go.run_min_int2]; congr 2; split <;> omega
    have hmax : ∀ w, (Builtin.max_ #[3, 3] 3 #[.int .i64 t0, .int .i64 j]).run Try.prog w = .ok (.int .i64 (max t0 j : Nat)) w := fun w => by
      rw [Go.run_max_int2]; congr 2; split <;> omega
    clear hl0 ht0 hS
    have hS := hcut.drew
    obtain ⟨g0, g1, g2, g3, g4, g5, g6, g7, g8, g9, g10⟩ := bkM hcut
    have f7 := hcut.frozen 7
    have f8 := hcut.frozen 8
    have HX := ((hcut.st 7 (.int .i64 (min l0 j : Nat))).st 8 (.int .i64 (max t0 j : Nat))).drew
    go_upto_region 8 with (fail)
    refine wp_region_Z (fun W => W.cell? ⟨b, 7, none⟩ = some (.int .i64 l0) ∧ W.cell? ⟨b, 8, none⟩ = some (.int .i64 t0)) [5, 11] [16, 19] [0, 1, 2, 3, 4, 6, 7, 8, 9, 10, 12, 13, 14, 15, 17, 18] [0, 1, 2, 3, 4, 5, 6, 7, 8, 9, 10, 11, 12, 13, 14, 15, 16, 17, 18, 19] (by kernel_rfl) (by kernel_rfl) ?_
    (repeat (first | (refine wpZ_st (v := ?_) _ (by rfl) (by rfl) (by rfl) (fun W hW => ?_) (by exact ⟨g7, g8⟩) ?_; (rotate_left; (focus ((try dsimp only at hW); go_simp; (try with_reducible rfl); done))); try simp only [Act.put, List.getElem_toArray, List.getElem_cons_zero, List.getElem_cons_succ, List.setIfInBounds_toArray, List.set_cons_zero, List.set_cons_succ]) | (refine wpZ_pu (v := ?_) _ (by rfl) (by rfl) (by rfl) (by rfl) (fun W => ?_) ?_; (rotate_left; (focus ((try dsimp only at hW); go_simp; (try with_reducible rfl); done))); try simp only [Act.put, List.getElem_toArray, List.getElem_cons_zero, List.getElem_cons_succ, List.setIfInBounds_toArray, List.set_cons_zero, List.set_cons_succ]) | (refine wpZ_no _ (by rfl) (by rfl) (by rfl) (by rfl) ?_; try simp only [Act.put, List.getElem_toArray, List.getElem_cons_zero, List.getElem_cons_succ, List.setIfInBounds_toArray, List.set_cons_zero, List.set_cons_succ]) | (refine wpZ_noS _ (by rfl) (by rfl) (by rfl) (by exact ⟨g7, g8⟩) ?_; try simp only [Act.put, List.getElem_toArray, List.getElem_cons_zero, List.getElem_cons_succ, List.setIfInBounds_toArray, List.set_cons_zero, List.set_cons_succ])))
    (refine wpZ_eff _ (by rfl) (by rfl) (by rfl) (by rfl) (fun K hK => ?_); go_simp; refine hK _ _ (fun hl => ?_) ?_; (first | (focus (cases hl; done)) | trivial); clear hK K; try simp only [Act.put, List.getElem_toArray, List.getElem_cons_zero, List.getElem_cons_succ, List.setIfInBounds_toArray, List.set_cons_zero, List.set_cons_succ])
    (repeat (first | (refine wpZ_st (v := ?_) _ (by rfl) (by rfl) (by rfl) (fun W hW => ?_) (by exact ⟨g7, g8⟩) ?_; (rotate_left; (focus ((try dsimp only at hW); go_simp; (try with_reducible rfl); done))); try simp only [Act.put, List.getElem_toArray, List.getElem_cons_zero, List.getElem_cons_succ, List.setIfInBounds_toArray, List.set_cons_zero, List.set_cons_succ]) | (refine wpZ_pu (v := ?_) _ (by rfl) (by rfl) (by rfl) (by rfl) (fun W => ?_) ?_; (rotate_left; (focus ((try dsimp only at hW); go_simp; (try with_reducible rfl); done))); try simp only [Act.put, List.getElem_toArray, List.getElem_cons_zero, List.getElem_cons_succ, List.setIfInBounds_toArray, List.set_cons_zero, List.set_cons_succ]) | (refine wpZ_no _ (by rfl) (by rfl) (by rfl) (by rfl) ?_; try simp only [Act.put, List.getElem_toArray, List.getElem_cons_zero, List.getElem_cons_succ, List.setIfInBounds_toArray, List.set_cons_zero, List.set_cons_succ]) | (refine wpZ_noS _ (by rfl) (by rfl) (by rfl) (by exact ⟨g7, g8⟩) ?_; try simp only [Act.put, List.getElem_toArray, List.getElem_cons_zero, List.getElem_cons_succ, List.setIfInBounds_toArray, List.set_cons_zero, List.set_cons_succ])))
    (refine wpZ_eff _ (by rfl) (by rfl) (by rfl) (by rfl) (fun K hK => ?_); go_simp; refine hK _ _ (fun hl => ?_) ?_; (first | (focus (cases hl; done)) | trivial); clear hK K; try simp only [Act.put, List.getElem_toArray, List.getElem_cons_zero, List.getElem_cons_succ, List.setIfInBounds_toArray, List.set_cons_zero, List.set_cons_succ])
    (simp only [wpZ])
    have HX1 : Hold _ (cellsA b 67 ({ S with low := min l0 j, top := max t0 j }.cells (.slice ro S.rows.length rc)) :: rowA 24 1 ro S.rows.length rc (sl S.rows vs) :: starL (rws S.rows vs) :: L) := HX
    clear HX hS g0 g1 g2 g3 g4 g5 g6 g7 g8 g9 g10 f7 f8 hmin hmax hcut
    go_upto_region 9 with (fail)
    refine gen_world HX1 (fun wd HX1 => ?_)
    have ho := (HX1.mv 2).out HV3.out
    (try dsimp only [Go.Own.front, Go.Own.arrA, Go.Own.atA, Go.Own.dropA, List.length_cons, List.length_nil, Nat.zero_add, Nat.reduceAdd] at ho)
    obtain ⟨rb, ro2, rfl, hct, hft⟩ := (HX1.mv 1).at (by omega)
    have F : ∀ W A R, Hold W (A :: R :: cellsA b 67 ({ S with low := min l0 j, top := max t0 j }.cells (.slice (some ⟨rb, ro2, none⟩) S.rows.length rc)) :: rowA 24 1 (some ⟨rb, ro2, none⟩) S.rows.length rc (sl S.rows vs) :: L) → W.cell? ⟨b, 5, none⟩ = some (.slice (some ⟨rb, ro2, none⟩) S.rows.length rc) ∧ W.cell? ⟨rb, ro2 + j, none⟩ = some (.slice v.1 xs.length v.2) ∧ W.frozen? ⟨rb, ro2 + j, none⟩ = false := fun W A R hW => by
      obtain ⟨rb', ro', he, hct', hft'⟩ := (hW.mv 3).at (by omega)
      simp only [Option.some.injEq, Addr.mk.injEq, and_true] at he
      obtain ⟨rfl, rfl⟩ := he
      exact ⟨(hW.mv 2).cell 5, by rw [hct' j (by omega)]; exact HV2.out, hft' _⟩
    have hji : (j : Int) < S.rows.length := by omega
    have hj0 : 0 ≤ (j : Int) := by omega
    clear hct hft
    have hS := ho.drew
    obtain ⟨c5, cj, -⟩ := F _ _ _ hS
    have HF := Lib.hid F
    have hS1 := hS.junk (.cells #[.int .i64 id] 3)
    obtain ⟨d5, dj, -⟩ := F _ _ _ hS1
    clear F
    refine wp_region_Z (fun W => W.cell? ⟨b, 5, none⟩ = some (.slice (some ⟨rb, ro2, none⟩) S.rows.length rc) ∧ W.cell? ⟨rb, ro2 + j, none⟩ = some (.slice v.1 xs.length v.2)) [3, 8, 11] [16] [0, 1, 2, 4, 5, 6, 7, 9, 10, 12, 15] [0, 1, 2, 3, 4, 5, 6, 7, 8, 9, 10, 11, 12, 13, 14, 15, 16] (by kernel_rfl) (by kernel_rfl) ?_
    (repeat (first | (refine wpZ_st (v := ?_) _ (by rfl) (by rfl) (by rfl) (fun W hW => ?_) (by exact ⟨c5, cj⟩) ?_; (rotate_left; (focus ((try dsimp only at hW); go_simp; (try with_reducible rfl); done))); try simp only [Act.put, List.getElem_toArray, List.getElem_cons_zero, List.getElem_cons_succ, List.setIfInBounds_toArray, List.set_cons_zero, List.set_cons_succ]) | (refine wpZ_pu (v := ?_) _ (by rfl) (by rfl) (by rfl) (by rfl) (fun W => ?_) ?_; (rotate_left; (focus ((try dsimp only at hW); go_simp; (try with_reducible rfl); done))); try simp only [Act.put, List.getElem_toArray, List.getElem_cons_zero, List.getElem_cons_succ, List.setIfInBounds_toArray, List.set_cons_zero, List.set_cons_succ]) | (refine wpZ_no _ (by rfl) (by rfl) (by rfl) (by rfl) ?_; try simp only [Act.put, List.getElem_toArray, List.getElem_cons_zero, List.getElem_cons_succ, List.setIfInBounds_toArray, List.set_cons_zero, List.set_cons_succ]) | (refine wpZ_noS _ (by rfl) (by rfl) (by rfl) (by exact ⟨c5, cj⟩) ?_; try simp only [Act.put, List.getElem_toArray, List.getElem_cons_zero, List.getElem_cons_succ, List.setIfInBounds_toArray, List.set_cons_zero, List.set_cons_succ])))
    (refine wpZ_eff _ (by rfl) (by rfl) (by rfl) (by rfl) (fun K hK => ?_); go_simp; refine hK _ _ (fun hl => ?_) ?_; (first | (focus (cases hl; done)) | exact ⟨d5, dj⟩); clear hK K; try simp only [Act.put, List.getElem_toArray, List.getElem_cons_zero, List.getElem_cons_succ, List.setIfInBounds_toArray, List.set_cons_zero, List.set_cons_succ])
    (repeat (first | (refine wpZ_st (v := ?_) _ (by rfl) (by rfl) (by rfl) (fun W hW => ?_) (by exact ⟨d5, dj⟩) ?_; (rotate_left; (focus ((try dsimp only at hW); go_simp; (try with_reducible rfl); done))); try simp only [Act.put, List.getElem_toArray, List.getElem_cons_zero, List.getElem_cons_succ, List.setIfInBounds_toArray, List.set_cons_zero, List.set_cons_succ]) | (refine wpZ_pu (v := ?_) _ (by rfl) (by rfl) (by rfl) (by rfl) (fun W => ?_) ?_; (rotate_left; (focus ((try dsimp only at hW); go_simp; (try with_reducible rfl); done))); try simp only [Act.put, List.getElem_toArray, List.getElem_cons_zero, List.getElem_cons_succ, List.setIfInBounds_toArray, List.set_cons_zero, List.set_cons_succ]) | (refine wpZ_no _ (by rfl) (by rfl) (by rfl) (by rfl) ?_; try simp only [Act.put, List.getElem_toArray, List.getElem_cons_zero, List.getElem_cons_succ, List.setIfInBounds_toArray, List.set_cons_zero, List.set_cons_succ]) | (refine wpZ_noS _ (by rfl) (by rfl) (by rfl) (by exact ⟨d5, dj⟩) ?_; try simp only [Act.put, List.getElem_toArray, List.getElem_cons_zero, List.getElem_cons_succ, List.setIfInBounds_toArray, List.set_cons_zero, List.set_cons_succ])))
    refine wpZ_eff _ (by rfl) (by rfl) (by rfl) (by rfl) (fun K hK => ?_)
    refine wp_append_one_h (w := wd.drew) _ _ 24 (by rfl) 3 i3 (.int .i64 0) 1 8 Try.underlying24 hi3 hz0 hz1 hz2 (by rfl) _ _ _ _ (by rfl) hS [.int .i64 id] (by rfl) ⟨rfl, rfl, rfl, rfl⟩ (by rfl) (by simp [Value.oneCell']) (by unfold maxLen; omega) (by omega) (fun ao3 cap3 w9 h9 hc9 => ?_)
    obtain ⟨e5, ej, fj⟩ := HF.out _ _ _ h9
    (refine hK _ _ (fun hl => ?_) ?_; (first | (focus (cases hl; done)) | exact ⟨e5, ej⟩); clear hK K; try simp only [Act.put, List.getElem_toArray, List.getElem_cons_zero, List.getElem_cons_succ, List.setIfInBounds_toArray, List.set_cons_zero, List.set_cons_succ])
    (repeat (first | (refine wpZ_st (v := ?_) _ (by rfl) (by rfl) (by rfl) (fun W hW => ?_) (by exact ⟨e5, ej⟩) ?_; (rotate_left; (focus ((try dsimp only at hW); go_simp; (try with_reducible rfl); done))); try simp only [Act.put, List.getElem_toArray, List.getElem_cons_zero, List.getElem_cons_succ, List.setIfInBounds_toArray, List.set_cons_zero, List.set_cons_succ]) | (refine wpZ_pu (v := ?_) _ (by rfl) (by rfl) (by rfl) (by rfl) (fun W => ?_) ?_; (rotate_left; (focus ((try dsimp only at hW); go_simp; (try with_reducible rfl); done))); try simp only [Act.put, List.getElem_toArray, List.getElem_cons_zero, List.getElem_cons_succ, List.setIfInBounds_toArray, List.set_cons_zero, List.set_cons_succ]) | (refine wpZ_no _ (by rfl) (by rfl) (by rfl) (by rfl) ?_; try simp only [Act.put, List.getElem_toArray, List.getElem_cons_zero, List.getElem_cons_succ, List.setIfInBounds_toArray, List.set_cons_zero, List.set_cons_succ]) | (refine wpZ_noS _ (by rfl) (by rfl) (by rfl) (by exact ⟨e5, ej⟩) ?_; try simp only [Act.put, List.getElem_toArray, List.getElem_cons_zero, List.getElem_cons_succ, List.setIfInBounds_toArray, List.set_cons_zero, List.set_cons_succ])))
    (refine wpZ_eff _ (by rfl) (by rfl) (by rfl) (by rfl) (fun K hK => ?_); go_simp; refine hK _ _ (fun hl => ?_) ?_; (first | (focus (cases hl; done)) | trivial); clear hK K; try simp only [Act.put, List.getElem_toArray, List.getElem_cons_zero, List.getElem_cons_succ, List.setIfInBounds_toArray, List.set_cons_zero, List.set_cons_succ])
    (simp only [wpZ])
    have HP := (h9.mv 3).put j (by omega) (.slice ao3 (xs.length + 1) cap3)
    have HQ := HP.arr [1, 2, 0, 3]
    (try dsimp only [Go.Own.front, Go.Own.arrA, Go.Own.atA, Go.Own.dropA, List.length_cons, List.length_nil, Nat.zero_add, Nat.reduceAdd] at HQ)
    have HT := HQ.back (by rw [HS2.out]; exact hjr)
    have hcl : (xs ++ [id]).length = xs.length + 1 := by simp
    have hia : is xs ++ [.int .i64 id] = is (xs ++ [id]) := by rw [is_append]; rfl
    rw [hia, ← hcl] at HT
    have e1 := rws_set S.rows vs j (xs ++ [id]) (ao3, cap3)
    have e2 := sl_set S.rows vs j (xs ++ [id]) (ao3, cap3)
    simp only at e1 e2
    rw [← e1, ← e2] at HT
    have HU := HT.arr [2, 1, 0]
    (try dsimp only [Go.Own.front, Go.Own.arrA, Go.Own.atA, Go.Own.dropA, List.length_cons, List.length_nil, Nat.zero_add, Nat.reduceAdd] at HU)
    clear HT HQ HP h9 e5 ej fj hia e1 e2 c5 cj d5 dj hS hS1 ho HX1
    rw [hcl] at HU
    go_upto_region 10 with (fail)
    refine gen_world HU (fun we HU => ?_)
    obtain ⟨g0, g1, g2, g3, g4, g5, g6, g7, g8, g9, g10⟩ := bkM HU
    have f6 := HU.frozen 6
    have HV := HU.st 6 (.int .i64 ((S.n : Int) + 1))
    have hn1 : S.cp < (S.n : Int) + 1 := by have := HCN.out; omega
    have hn0 : 0 ≤ (S.n : Int) := by omega
    go_upto_region 11 with (fail)
    refine gen_world HV (fun wf HV => ?_)
    clear g0 g1 g2 g3 g4 g5 g6 g7 g8 g9 g10 f6 HU
    have hW := HV.drew
    refine wp_region_Z (fun W => W.cell? ⟨b, 6, none⟩ = some (.int .i64 ((S.n : Int) + 1)) ∧ W.cell? ⟨b, 3, none⟩ = some (.int .i64 S.cp)) [3, 7] [] [0, 1, 2, 4, 5, 6, 8] [0, 1, 2, 3, 4, 5, 6, 7, 8] (by kernel_rfl) (by kernel_rfl) ?_
    (repeat (first | (refine wpZ_st (v := ?_) _ (by rfl) (by rfl) (by rfl) (fun W hW => ?_) (by exact ⟨hW.cell 6, hW.cell 3⟩) ?_; (rotate_left; (focus ((try dsimp only at hW); go_simp; (try with_reducible rfl); done))); try simp only [Act.put, List.getElem_toArray, List.getElem_cons_zero, List.getElem_cons_succ, List.setIfInBounds_toArray, List.set_cons_zero, List.set_cons_succ]) | (refine wpZ_pu (v := ?_) _ (by rfl) (by rfl) (by rfl) (by rfl) (fun W => ?_) ?_; (rotate_left; (focus ((try dsimp only at hW); go_simp; (try with_reducible rfl); done))); try simp only [Act.put, List.getElem_toArray, List.getElem_cons_zero, List.getElem_cons_succ, List.setIfInBounds_toArray, List.set_cons_zero, List.set_cons_succ]) | (refine wpZ_no _ (by rfl) (by rfl) (by rfl) (by rfl) ?_; try simp only [Act.put, List.getElem_toArray, List.getElem_cons_zero, List.getElem_cons_succ, List.setIfInBounds_toArray, List.set_cons_zero, List.set_cons_succ]) | (refine wpZ_noS _ (by rfl) (by rfl) (by rfl) (by exact ⟨hW.cell 6, hW.cell 3⟩) ?_; try simp only [Act.put, List.getElem_toArray, List.getElem_cons_zero, List.getElem_cons_succ, List.setIfInBounds_toArray, List.set_cons_zero, List.set_cons_succ])))
    (simp only [wpZ])
    have hk : (addS S j id).rows = S.rows.set j (xs ++ [id]) := by
      show S.rows.set j (S.rows.getD j [] ++ [id]) = _
      rw [HGD.out]
    have hkl : (addS S j id).rows.length = S.rows.length := by rw [hk]; simp
    have hcs : (addS S j id).cells (.slice (some ⟨rb, ro2, none⟩) S.rows.length rc) = ({ S with low := min l0 j, top := max t0 j }.cells (.slice (some ⟨rb, ro2, none⟩) S.rows.length rc)).set 6 (.int .i64 ((S.n : Int) + 1)) := by
      simp only [BS.cells, addS, HL0.out, HT0.out, List.set_cons_succ, List.set_cons_zero]
      rfl
    have HB1 : Hold wf.drew (bkA b (addS S j id) :: L) := by
      refine bk_close (S := addS S j id) (ro := some ⟨rb, ro2, none⟩) (rc := rc) (vs := vs.set j (ao3, cap3)) (by rw [hkl]; simpa using HL.out) ?_
      rw [hkl, hk, hcs]
      exact hW
    have hmk : (addS S j id).mark = S.mark ∧ (addS S j id).marked = S.marked ∧ (addS S j id).base = S.base ∧ (addS S j id).cp = S.cp ∧ (addS S j id).n = S.n + 1 := ⟨rfl, rfl, rfl, rfl, rfl⟩
    have HLW2 := HLW.out
    have HNE2 := HNE.out
    generalize hS1e : addS S j id = S1 at *
    have HS1e := Lib.hid hS1e
    clear hS1e
    obtain ⟨k1, k2, k3, k4, k5⟩ := hmk
    obtain ⟨hq1, hq2⟩ := loAt_spec HNE2
    have PL := fun w L h => lowest_ok b S1 (by omega) (by have := HCN.out; omega) HLW2 HNE2 (by omega) (by rw [hkl, k3]; exact HBB.out) w L h
    obtain ⟨q, hq⟩ : ∃ q, loAt S1.rows S1.low = q := ⟨_, rfl⟩
    rw [hq] at PL hq1 hq2
    have HQ := Lib.hid hq
    have HK := Lib.hid (And.intro k1 (And.intro k2 (And.intro k3 (And.intro k4 k5))))
    have hqb := HBB.out q (by omega)
    rw [← k3] at hqb hb0
    have HKL := Lib.hid hkl
    clear hk hkl hcs hW HV HLW2 HNE2 hq k1 k2 k3 k4 k5
    as_aux_lemma =>
      go_upto_region 14 with (go_at_call 13; refine (PL _ _ HB1).mono ?_; rintro e wg ⟨rfl, hg⟩)
      clear HB1 PL
      have ho5 := bk_open hg
      clear hg HU h1 HX1 HF HS1 HS2 HV2 HV3 HGD HL HL0 HT0 hl0b ht0b hji hj0 hcl HLW HNE hhi hlo hm hd hjr hlt
      obtain ⟨ro5, rc5, vs5, hl5, h5⟩ := ho5
      have h5 : Hold wg (cellsA b 67 ({ S1 with low := q }.cells (.slice ro5 S1.rows.length rc5)) :: rowA 24 1 ro5 S1.rows.length rc5 (sl S1.rows vs5) :: starL (rws S1.rows vs5) :: L) := h5
      have hl5 : vs5.length = S1.rows.length := hl5
      obtain ⟨ys, hys⟩ : ∃ ys, S1.rows[q]? = some ys := ⟨S1.rows[q], List.getElem?_eq_getElem hq1⟩
      have hgd : S1.rows.getD q [] = ys := by simp [List.getD, hys]
      rw [hgd] at hq2
      obtain ⟨v5, -, hv2, hv3⟩ := sl_get hl5 hys
      obtain ⟨y, yt, rfl⟩ : ∃ y yt, ys = y :: yt := by cases ys with
        | nil => exact absurd rfl hq2
        | cons y yt => exact ⟨y, yt, rfl⟩
      obtain ⟨rb5, rp5, rfl, -, -⟩ := (h5.mv 1).at (by omega)
      have F : ∀ W A R, Hold W (A :: R :: cellsA b 67 ({ S1 with low := q }.cells (.slice (some ⟨rb5, rp5, none⟩) S1.rows.length rc5)) :: rowA 24 1 (some ⟨rb5, rp5, none⟩) S1.rows.length rc5 (sl S1.rows vs5) :: L) → W.cell? ⟨b, 5, none⟩ = some (.slice (some ⟨rb5, rp5, none⟩) S1.rows.length rc5) ∧ W.cell? ⟨rb5, rp5 + q, none⟩ = some (.slice v5.1 (yt.length + 1) v5.2) ∧ W.frozen? ⟨rb5, rp5 + q, none⟩ = false := fun W A R hW => by
        obtain ⟨rb', ro', he, hct', hft'⟩ := (hW.mv 3).at (by omega)
        simp only [Option.some.injEq, Addr.mk.injEq, and_true] at he
        obtain ⟨rfl, rfl⟩ := he
        exact ⟨(hW.mv 2).cell 5, by rw [hct' q (by omega)]; exact hv2, hft' _⟩
      have ho := (h5.mv 2).out hv3
      (try dsimp only [Go.Own.front, Go.Own.arrA, Go.Own.atA, Go.Own.dropA, List.length_cons, List.length_nil, Nat.zero_add, Nat.reduceAdd] at ho)
      have HF := Lib.hid F
      have HV2 := Lib.hid hv2
      have HV3 := Lib.hid hv3
      have HGD := Lib.hid hgd
      have HYS := Lib.hid hys
      have HL5 := Lib.hid hl5
      obtain ⟨vb, vcap⟩ := v5
      simp only at ho HF HV2
      obtain ⟨cb, co, rfl, hcy, -⟩ := ho.at (by simp)
      have cy : wg.cell? ⟨cb, co, none⟩ = some (.int .i64 y) := by have := hcy 0 (by simp); simpa [is] using this
      obtain ⟨c5, cq, -⟩ := HF.out _ _ _ ho
      have c4 : wg.cell? ⟨b, 4, none⟩ = some (.int .i64 S1.base) := h5.cell 4
      have hqi : (q : Int) < S1.rows.length := by omega
      have hq0 : 0 ≤ (q : Int) := by omega
      have hyt : 0 < (yt.length : Int) + 1 := by omega
      obtain ⟨qb1, qb2⟩ := hqb
      obtain ⟨sb1, sb2⟩ := hb0
      have hq9 : (q : Int) ≤ 9223372036854775807 := by have := HKL.out; omega
      clear F hv2 hv3 hgd hys hl5 hcy hq2
      as_aux_lemma =>
        go_upto_region 16 with (fail)
        have hcap := ho.bounds.2.1
        have hcap2 : yt.length + 1 ≤ vcap := by simpa using hcap
        have hcapm : (vcap : Int) ≤ 9223372036854775807 := by have := ho.bounds.2.2; unfold maxLen at this; omega
        obtain ⟨ao', he, hcut5⟩ := ho.cut (l := 1) (u := yt.length + 1) (m := vcap) (by omega) (by simp) (by omega) (by simp)
        simp only [sliced, Nat.mul_one] at he
        have hS := ho.drew
        obtain ⟨d5, dq, -⟩ := HF.out _ _ _ hS
        obtain ⟨-, -, fq⟩ := HF.out _ _ _ ho
        have hval : ∃ z, ao' = z ∧ ((vcap = 1 ∧ z = some ⟨cb, co, none⟩) ∨ (¬ vcap = 1 ∧ z = some ⟨cb, co + 1, none⟩)) := by
          refine ⟨_, rfl, ?_⟩
          by_cases h1 : vcap = 1
          · rw [if_pos h1] at he
            exact .inl ⟨h1, by simp at he; exact he.symm⟩
          · rw [if_neg h1] at he
            exact .inr ⟨h1, by simp [Addr.add] at he; exact he.symm⟩
        obtain ⟨z, rfl, hz⟩ := hval
        have hrow : Hold wg (rowA 3 1 ao' yt.length (vcap - 1) (is yt) :: starL ((rws S1.rows vs5).eraseIdx q) :: cellsA b 67 ({ S1 with low := q }.cells (.slice (some ⟨rb5, rp5, none⟩) S1.rows.length rc5)) :: rowA 24 1 (some ⟨rb5, rp5, none⟩) S1.rows.length rc5 (sl S1.rows vs5) :: L) := by
          have e0 : ((is (y :: yt)).drop (1 * 1)).take ((yt.length + 1 - 1) * 1) = is yt := by
            rw [Nat.mul_one, Nat.mul_one, Nat.add_sub_cancel]
            show (is yt).take yt.length = _
            exact List.take_of_length_le (by simp)
          rw [e0] at hcut5
          exact hcut5
        have HP := (hrow.mv 3).put q (by omega) (.slice ao' yt.length (vcap - 1))
        have HQ2 := HP.arr [1, 2, 0, 3]
        (try dsimp only [Go.Own.front, Go.Own.arrA, Go.Own.atA, Go.Own.dropA, List.length_cons, List.length_nil, Nat.zero_add, Nat.reduceAdd] at HQ2)
        have HT := HQ2.back (by rw [rws_length HL5.out]; exact hq1)
        have e1 := rws_set S1.rows vs5 q yt (ao', vcap - 1)
        have e2 := sl_set S1.rows vs5 q yt (ao', vcap - 1)
        simp only at e1 e2
        rw [← e1, ← e2] at HT
        have HU := (HT.arr [2, 1, 0]).drew
        (try dsimp only [Go.Own.front, Go.Own.arrA, Go.Own.atA, Go.Own.dropA, List.length_cons, List.length_nil, Nat.zero_add, Nat.reduceAdd] at HU)
        have HHU := Lib.hid HU
        clear he hcut5 hcap hrow HP HQ2 HT e1 e2 HU c5 c4 cy ho h5
        have hy1 : 1 ≤ (yt.length : Int) + 1 := by omega
        rcases hz with ⟨hv1, rfl⟩ | ⟨hv1, rfl⟩
        · have hu := HHU.out
          rw [hv1] at hu
          have HHU := Lib.hid hu
          clear hu
          as_aux_lemma =>
            refine wp_region_Z (fun W => W.cell? ⟨b, 5, none⟩ = some (.slice (some ⟨rb5, rp5, none⟩) S1.rows.length rc5) ∧ W.cell? ⟨rb5, rp5 + q, none⟩ = some (.slice (some ⟨cb, co, none⟩) (yt.length + 1) vcap)) [3, 8, 11] [14] [0, 1, 2, 4, 5, 6, 7, 9, 10, 12, 13] [0, 1, 2, 3, 4, 5, 6, 7, 8, 9, 10, 11, 12, 13, 14] (by kernel_rfl) (by kernel_rfl) ?_
            (repeat (first | (refine wpZ_st (v := ?_) _ (by rfl) (by rfl) (by rfl) (fun W hW => ?_) (by exact ⟨d5, dq⟩) ?_; (rotate_left; (focus ((try dsimp only at hW); go_simp; (try with_reducible rfl); done))); try simp only [Act.put, List.getElem_toArray, List.getElem_cons_zero, List.getElem_cons_succ, List.setIfInBounds_toArray, List.set_cons_zero, List.set_cons_succ]) | (refine wpZ_pu (v := ?_) _ (by rfl) (by rfl) (by rfl) (by rfl) (fun W => ?_) ?_; (rotate_left; (focus ((try dsimp only at hW); go_simp; (try with_reducible rfl); done))); try simp only [Act.put, List.getElem_toArray, List.getElem_cons_zero, List.getElem_cons_succ, List.setIfInBounds_toArray, List.set_cons_zero, List.set_cons_succ]) | (refine wpZ_no _ (by rfl) (by rfl) (by rfl) (by rfl) ?_; try simp only [Act.put, List.getElem_toArray, List.getElem_cons_zero, List.getElem_cons_succ, List.setIfInBounds_toArray, List.set_cons_zero, List.set_cons_succ]) | (refine wpZ_noS _ (by rfl) (by rfl) (by rfl) (by exact ⟨d5, dq⟩) ?_; try simp only [Act.put, List.getElem_toArray, List.getElem_cons_zero, List.getElem_cons_succ, List.setIfInBounds_toArray, List.set_cons_zero, List.set_cons_succ])))
            (refine wpZ_eff _ (by rfl) (by rfl) (by rfl) (by rfl) (fun K hK => ?_); go_simp; refine hK _ _ (fun hl => ?_) ?_; (first | (focus (cases hl; done)) | trivial); clear hK K; try simp only [Act.put, List.getElem_toArray, List.getElem_cons_zero, List.getElem_cons_succ, List.setIfInBounds_toArray, List.set_cons_zero, List.set_cons_succ])
            (simp only [wpZ])
            go_upto_region 17 with (fail)
            refine gen_world HHU.out (fun wh HV => ?_)
            clear HHU d5 dq cq fq
            have hn17 : wh.cell? ⟨b, 6, none⟩ = some (.int .i64 S1.n) := HV.cell 6
            have f6 := HV.frozen 6
            have HW := HV.st 6 (.int .i64 ((S1.n : Int) - 1))
            have hS1n : 1 ≤ (S1.n : Int) := by have := HK.out.2.2.2.2; omega
            have hS1m : (S1.n : Int) ≤ 9223372036854775807 := by have := HK.out.2.2.2.2; omega
            go_upto_region 18 with (fail)
            refine gen_world HW (fun wi HW => ?_)
            clear hn17 f6 HV
            have g9 : wi.cell? ⟨b, 9, none⟩ = some (.int .i64 S1.mark) := HW.cell 9
            have g10 : wi.cell? ⟨b, 10, none⟩ = some (.bool S1.marked) := HW.cell 10
            have f9 := HW.frozen 9
            have f10 := HW.frozen 10
            have hk : (cutS S1).rows = S1.rows.set q yt := by
              show S1.rows.set (loAt S1.rows S1.low) (S1.rows.getD (loAt S1.rows S1.low) []).tail = _
              rw [HQ.out, HGD.out]; rfl
            have hout : outS S1 = y := by unfold outS; rw [HQ.out, HGD.out]; rfl
            have hkl2 : (cutS S1).rows.length = S1.rows.length := by rw [hk]; simp
            have HKK := Lib.hid (And.intro hk (And.intro hout hkl2))
            have hcq := HQ.out
            have HCQ := Lib.hid hcq
            clear hk hout hkl2 hcq
            cases hmk : S1.marked with
            | false =>
              rw [hmk] at g10
              have HM := Lib.hid hmk
              have HX := (HW.st 9 (.int .i64 ((q : Int) + S1.base))).st 10 (.bool true)
              clear hmk
              go_wp2
              go_ret3
              refine ⟨by rw [HS1e.out, HKK.out.2.1]; rfl, ?_⟩
              rw [HS1e.out]
              exact close_cut HKK.out.1 (by rw [List.length_set]; exact HL5.out) (cut_cells HCQ.out hS1n (.inl HM.out)) HX
            | true =>
              rw [hmk] at g10
              have HM := Lib.hid hmk
              clear hmk
              by_cases hlt2 : S1.mark < (q : Int) + S1.base
              · have HX := (HW.st 9 (.int .i64 ((q : Int) + S1.base))).st 10 (.bool true)
                go_wp2
                go_ret3
                refine ⟨by rw [HS1e.out, HKK.out.2.1]; rfl, ?_⟩
                rw [HS1e.out]
                exact close_cut HKK.out.1 (by rw [List.length_set]; exact HL5.out) (cut_cells HCQ.out hS1n (.inr hlt2)) HX
              · have hle2 : (q : Int) + S1.base ≤ S1.mark := by omega
                have HX := HW
                go_wp2
                go_ret3
                refine ⟨by rw [HS1e.out, HKK.out.2.1]; rfl, ?_⟩
                rw [HS1e.out]
                exact close_cut HKK.out.1 (by rw [List.length_set]; exact HL5.out) (cut_cells0 HCQ.out hS1n HM.out (Int.not_lt.2 hle2)) HX
        · have _ := hv1
          as_aux_lemma =>
            refine wp_region_Z (fun W => W.cell? ⟨b, 5, none⟩ = some (.slice (some ⟨rb5, rp5, none⟩) S1.rows.length rc5) ∧ W.cell? ⟨rb5, rp5 + q, none⟩ = some (.slice (some ⟨cb, co, none⟩) (yt.length + 1) vcap)) [3, 8, 11] [14] [0, 1, 2, 4, 5, 6, 7, 9, 10, 12, 13] [0, 1, 2, 3, 4, 5, 6, 7, 8, 9, 10, 11, 12, 13, 14] (by kernel_rfl) (by kernel_rfl) ?_
            (repeat (first | (refine wpZ_st (v := ?_) _ (by rfl) (by rfl) (by rfl) (fun W hW => ?_) (by exact ⟨d5, dq⟩) ?_; (rotate_left; (focus ((try dsimp only at hW); go_simp; (try with_reducible rfl); done))); try simp only [Act.put, List.getElem_toArray, List.getElem_cons_zero, List.getElem_cons_succ, List.setIfInBounds_toArray, List.set_cons_zero, List.set_cons_succ]) | (refine wpZ_pu (v := ?_) _ (by rfl) (by rfl) (by rfl) (by rfl) (fun W => ?_) ?_; (rotate_left; (focus ((try dsimp only at hW); go_simp; (try with_reducible rfl); done))); try simp only [Act.put, List.getElem_toArray, List.getElem_cons_zero, List.getElem_cons_succ, List.setIfInBounds_toArray, List.set_cons_zero, List.set_cons_succ]) | (refine wpZ_no _ (by rfl) (by rfl) (by rfl) (by rfl) ?_; try simp only [Act.put, List.getElem_toArray, List.getElem_cons_zero, List.getElem_cons_succ, List.setIfInBounds_toArray, List.set_cons_zero, List.set_cons_succ]) | (refine wpZ_noS _ (by rfl) (by rfl) (by rfl) (by exact ⟨d5, dq⟩) ?_; try simp only [Act.put, List.getElem_toArray, List.getElem_cons_zero, List.getElem_cons_succ, List.setIfInBounds_toArray, List.set_cons_zero, List.set_cons_succ])))
            (refine wpZ_eff _ (by rfl) (by rfl) (by rfl) (by rfl) (fun K hK => ?_); go_simp; refine hK _ _ (fun hl => ?_) ?_; (first | (focus (cases hl; done)) | trivial); clear hK K; try simp only [Act.put, List.getElem_toArray, List.getElem_cons_zero, List.getElem_cons_succ, List.setIfInBounds_toArray, List.set_cons_zero, List.set_cons_succ])
            (simp only [wpZ])
            go_upto_region 17 with (fail)
            refine gen_world HHU.out (fun wh HV => ?_)
            clear HHU d5 dq cq fq
            have hn17 : wh.cell? ⟨b, 6, none⟩ = some (.int .i64 S1.n) := HV.cell 6
            have f6 := HV.frozen 6
            have HW := HV.st 6 (.int .i64 ((S1.n : Int) - 1))
            have hS1n : 1 ≤ (S1.n : Int) := by have := HK.out.2.2.2.2; omega
            have hS1m : (S1.n : Int) ≤ 9223372036854775807 := by have := HK.out.2.2.2.2; omega
            go_upto_region 18 with (fail)
            refine gen_world HW (fun wi HW => ?_)
            clear hn17 f6 HV
            have g9 : wi.cell? ⟨b, 9, none⟩ = some (.int .i64 S1.mark) := HW.cell 9
            have g10 : wi.cell? ⟨b, 10, none⟩ = some (.bool S1.marked) := HW.cell 10
            have f9 := HW.frozen 9
            have f10 := HW.frozen 10
            have hk : (cutS S1).rows = S1.rows.set q yt := by
              show S1.rows.set (loAt S1.rows S1.low) (S1.rows.getD (loAt S1.rows S1.low) []).tail = _
              rw [HQ.out, HGD.out]; rfl
            have hout : outS S1 = y := by unfold outS; rw [HQ.out, HGD.out]; rfl
            have hkl2 : (cutS S1).rows.length = S1.rows.length := by rw [hk]; simp
            have HKK := Lib.hid (And.intro hk (And.intro hout hkl2))
            have hcq := HQ.out
            have HCQ := Lib.hid hcq
            clear hk hout hkl2 hcq
            cases hmk : S1.marked with
            | false =>
              rw [hmk] at g10
              have HM := Lib.hid hmk
              have HX := (HW.st 9 (.int .i64 ((q : Int) + S1.base))).st 10 (.bool true)
              clear hmk
              go_wp2
              go_ret3
              refine ⟨by rw [HS1e.out, HKK.out.2.1]; rfl, ?_⟩
              rw [HS1e.out]
              exact close_cut HKK.out.1 (by rw [List.length_set]; exact HL5.out) (cut_cells HCQ.out hS1n (.inl HM.out)) HX
            | true =>
              rw [hmk] at g10
              have HM := Lib.hid hmk
              clear hmk
              by_cases hlt2 : S1.mark < (q : Int) + S1.base
              · have HX := (HW.st 9 (.int .i64 ((q : Int) + S1.base))).st 10 (.bool true)
                go_wp2
                go_ret3
                refine ⟨by rw [HS1e.out, HKK.out.2.1]; rfl, ?_⟩
                rw [HS1e.out]
                exact close_cut HKK.out.1 (by rw [List.length_set]; exact HL5.out) (cut_cells HCQ.out hS1n (.inr hlt2)) HX
              · have hle2 : (q : Int) + S1.base ≤ S1.mark := by omega
                have HX := HW
                go_wp2
                go_ret3
                refine ⟨by rw [HS1e.out, HKK.out.2.1]; rfl, ?_⟩
                rw [HS1e.out]
                exact close_cut HKK.out.1 (by rw [List.length_set]; exact HL5.out) (cut_cells0 HCQ.out hS1n HM.out (Int.not_lt.2 hle2)) HX

end Go.Proofs.Ytpffofliemooiaa
