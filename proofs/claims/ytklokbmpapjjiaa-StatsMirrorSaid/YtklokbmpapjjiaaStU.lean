/- The walk of StatsMirror. -/
import Derived.Test.YtklokbmpapjjiaaStS
open Go.RowKit Go.Own
namespace Go.Proofs.Ytklokbmpapjjiaa

theorem Fine.mirror {s : SV} {m : Nat} (h : Fine s m) : mrgE s (mir s) = 0 ∧ Go.Proofs.Ytklokbmpapjjiaa.check (mrgV s (mir s)) = 0 ∧ symV (mrgV s (mir s)) = true := by
  have hl := h.lv
  have hlo := h.lo
  have hhi := h.hi
  have hm : s.lv.toNat = m := by omega
  have hM : mir s = ⟨m, mirC s.c m m⟩ := by rw [mir, hm, hl]
  have hmm : ((m : Int)).toNat = m := by omega
  obtain ⟨k1, k2, k3, k4, k5⟩ := mir_check h.check
  have hle : ∀ i, i < 32 → mirC s.c m m i ≤ 2000 := fun i hi => by
    by_cases him : i % 16 < m
    · by_cases h16 : i < 16
      · rw [(mirC_row (c := s.c) (r := i) (by omega) (by omega)).1]; exact h.le _ (by omega)
      · obtain ⟨r, rfl⟩ : ∃ r, i = 16 + r := ⟨i - 16, by omega⟩
        rw [(mirC_row (c := s.c) (r := r) (by omega) (by omega)).2]; exact h.le _ (by omega)
    · rw [mirC_above hi (by omega)]; omega
  have ho := over_false (c := s.c) (d := (mir s).c) (fun i hi => by have := h.le i hi; rw [hM]; have := hle i hi; show s.c i + mirC s.c m m i ≤ _; omega)
  obtain ⟨e1, e2⟩ := mrg_4 h.check k1 rfl ho
  rw [hM, hl] at e2
  simp only at e2
  have hc : Go.Proofs.Ytklokbmpapjjiaa.check (⟨m, fun i => s.c i + mirC s.c m m i⟩ : SV) = 0 := by
    refine check_of (by show 2 ≤ (m : Int); omega) (by show (m : Int) ≤ 16; omega) (fun r hr => good_of ?_) (r := 0) (q := 0) (by omega) (by have := h.zero; show s.c 0 + _ ≠ 0; omega) (by omega) (by have := h.one 0 (by omega); show s.c (16 + 0) + _ ≠ 0; omega)
    simp only
    have a1 := h.le r (by omega)
    have a2 := h.le (16 + r) (by omega)
    have b1 := hle r (by omega)
    have b2 := hle (16 + r) (by omega)
    by_cases hrm : r < m
    · have := h.one r hrm; omega
    · have := h.above r (by omega) (by omega)
      have := h.above (16 + r) (by omega) (by omega)
      have := mirC_above (c := s.c) (m := m) (i := r) (by omega) (by omega)
      have := mirC_above (c := s.c) (m := m) (i := 16 + r) (by omega) (by omega)
      omega
  rw [hM] at e1 ⊢
  refine ⟨e1, by rw [e2]; exact hc, ?_⟩
  rw [e2, symV, hc]
  simp only [beq_self_eq_true, Bool.true_and, List.all_eq_true, List.mem_range, beq_iff_eq]
  intro i hi
  show mirC (fun i => s.c i + mirC s.c m m i) ((m : Int)).toNat ((m : Int)).toNat i = s.c i + mirC s.c m m i
  rw [hmm]
  by_cases him : i % 16 < m
  · by_cases h16 : i < 16
    · rw [(mirC_row (c := fun i => s.c i + mirC s.c m m i) (r := i) (by omega) (by omega)).1, (mirC_row (c := s.c) (r := i) (by omega) (by omega)).1]
      show s.c (16 + (m - 1 - i)) + mirC s.c m m (16 + (m - 1 - i)) = _
      rw [(mirC_row (c := s.c) (r := m - 1 - i) (by omega) (by omega)).2, show m - 1 - (m - 1 - i) = i from by omega]
      exact Nat.add_comm _ _
    · obtain ⟨r, rfl⟩ : ∃ r, i = 16 + r := ⟨i - 16, by omega⟩
      rw [(mirC_row (c := fun i => s.c i + mirC s.c m m i) (r := r) (by omega) (by omega)).2, (mirC_row (c := s.c) (r := r) (by omega) (by omega)).2]
      show s.c (m - 1 - r) + mirC s.c m m (m - 1 - r) = _
      rw [(mirC_row (c := s.c) (r := m - 1 - r) (by omega) (by omega)).1, show m - 1 - (m - 1 - r) = r from by omega]
      exact Nat.add_comm _ _
  · rw [mirC_above hi (by omega), mirC_above hi (by omega), h.above i hi (by omega)]

set_option maxHeartbeats 8000000 in
set_option maxRecDepth 20000 in
theorem mirror_walk (x : SV) (hx : x.ok) (w : World) (L : List Asn) (h : Hold w L) :
    Calls Try.prog 7 #[.agg (enc x).toArray] w fun e w' => e = .returned (.bool true) ∧ Hold w' L := by
  have hb := h.box 26 (enc x)
  have G1 := good_ok x hx
  have FS := good_fine x
  obtain ⟨S, hS⟩ : ∃ S, S = goodV x := ⟨_, rfl⟩
  rw [← hS] at G1 FS
  clear hS
  generalize goodM x.lv = m at *
  have hso := FS.ok
  have hch := FS.check
  obtain ⟨k1, k2, k3, k4, -⟩ := mir_check hch
  obtain ⟨j1, j2, j3⟩ := FS.mirror
  have hmo := mir_ok hso (by have := FS.lv; have := FS.hi; omega)
  have hno := mir_ok hmo (by show S.lv ≤ 16; have := FS.lv; have := FS.hi; omega)
  have hV1 : mirV S = mir S := by rw [mirV, if_pos hch]
  have hV2 : mirV (mir S) = mir (mir S) := by rw [mirV, if_pos k1]
  have C1 := pmirror_ok S hso
  have C2 := pmirror_ok (mir S) hmo
  have C3 := sym_ok S hso
  have C4 := merge_ok S (mir S) hso hmo
  have C5 := check_ok S hso
  have C6 := sym_ok _ (mrgV_ok (s := S) (t := mir S) hso)
  have C7 := totals_ok S hso
  have C8 := totals_ok _ hmo
  have EQ1 := eq26 hno hso (v := true) (by simp [k4])
  have EQ2 := eq26 hmo hso (v := symV S) (by unfold symV same; simp [hch, mir])
  rw [hV1, hch] at C1
  rw [hV2, k1] at C2
  rw [hch] at C3 C5 C7
  rw [j1] at C4
  rw [j2, j3] at C6
  rw [k1, k2, k3] at C8
  generalize mrgV S (mir S) = T at *
  generalize mir (mir S) = N at *
  generalize mir S = M at *
  generalize symV S = v at *
  generalize totA S = ta at *
  generalize totB S = tb at *
  clear hV1 hV2 hno hmo k1 k2 k3 k4 j1 j2 j3 hch hso FS h
  go_enter Try.func7, Try.ntmps7
  go_upto_region 1 with (fail)
  refine gen_world hb (fun w0 h0 => ?_)
  generalize w.heap.size = bx at *
  go_upto_region 2 with (first
    | (refine wpList_yw (by rfl) (exec_load26 (by rfl) (by rfl) h0) ?_)
    | (go_at_call 28; refine (G1 _ _ h0).mono ?_; rintro e v1 ⟨rfl, g1⟩; have z1 := g1.boxZ 0)
    | (refine wp_store26 rfl _ _ (by rfl) v1.heap.size (by rfl) S (by rfl) z1 (fun w1 h1 => ?_)))
  generalize v1.heap.size = bs at *
  clear g1 z1 h0
  go_upto_region 3 with (first
    | (refine wpList_yw (by rfl) (exec_load26 (by rfl) (by rfl) h1) ?_)
    | (go_at_call 14; refine (C1 _ _ h1).mono ?_; rintro e v2 ⟨rfl, g2⟩; have z2 := g2.boxZ 0)
    | (refine wp_store26 rfl _ _ (by rfl) v2.heap.size (by rfl) M (by rfl) z2 (fun w2 h2 => ?_)))
  generalize v2.heap.size = bm at *
  clear g2 z2 h1
  go_upto_region 4 with (first
    | (refine wpList_yw (by rfl) (exec_load26 (by rfl) (by rfl) h2) ?_)
    | (go_at_call 14; refine (C2 _ _ h2).mono ?_; rintro e v3 ⟨rfl, g3⟩; have z3 := g3.boxZ 0)
    | (refine wp_store26 rfl _ _ (by rfl) v3.heap.size (by rfl) N (by rfl) z3 (fun w3 h3 => ?_)))
  generalize v3.heap.size = bn at *
  clear g3 z3 h2
  go_upto_region 5 with (first
    | (refine wpList_yw (by rfl) (exec_load26 (by rfl) (by rfl) (h3.mv 2)) ?_)
    | (go_at_call 13; refine (C3 _ _ h3).mono ?_; rintro e w4 ⟨rfl, h4⟩))
  clear h3
  go_upto_region 6 with (first
    | (refine wpList_yw (by rfl) (exec_load26 (by rfl) (by rfl) (h4.mv 2)) ?_)
    | (refine wpList_yw (by rfl) (exec_load26 (by rfl) (by rfl) (h4.mv 1)) ?_)
    | (go_at_call 22; refine (C4 _ _ h4).mono ?_; rintro e v5 ⟨rfl, g5⟩; have z5 := g5.boxZ 0)
    | (refine wp_store26 rfl _ _ (by rfl) v5.heap.size (by rfl) T (by rfl) z5 (fun w5 h5 => ?_)))
  generalize v5.heap.size = bt at *
  clear g5 z5 h4 C1 C2 C3 C4
  go_upto_region 8 with (first
    | (refine wpList_yw (by rfl) (exec_load26 (by rfl) (by rfl) (h5.mv 3)) ?_)
    | (refine wpList_yw (by rfl) (exec_load26 (by rfl) (by rfl) (h6.mv 3)) ?_)
    | (refine wpList_yw (by rfl) (exec_load26 (by rfl) (by rfl) (h6.mv 1)) ?_)
    | (refine wpList_yw (by rfl) (exec_load26 (by rfl) (by rfl) (h6.mv 2)) ?_)
    | (refine wpList_yw (by rfl) (exec_agg_neq (by rfl) (by rfl) (by rfl) g26 EQ1 _) ?_)
    | (refine wpList_yw (by rfl) (exec_agg_eql (by rfl) (by rfl) (by rfl) g26 EQ2 _) ?_)
    | (go_at_call 19; refine (C5 _ _ h5).mono ?_; rintro e w6 ⟨rfl, h6⟩)
    | (go_at_call 18; refine (num_any _ _ _ h6).mono ?_; rintro e w' ⟨rfl, rfl⟩)
    | (go_at_call 21; refine (knows_ok _ _ h6).mono ?_; rintro e w7 ⟨rfl, h7⟩))
  clear h5 h6 EQ1 EQ2 C5
  go_wp2_with (first
    | (refine wpList_yw (by rfl) (exec_load26 (by rfl) (by rfl) (h9.mv 2)) ?_)
    | (refine wpList_yw (by rfl) (exec_load26 (by rfl) (by rfl) (h8.mv 3)) ?_)
    | (refine wpList_yw (by rfl) (exec_load26 (by rfl) (by rfl) h7) ?_)
    | (go_at_call 13; refine (C6 _ _ h7).mono ?_; rintro e w8 ⟨rfl, h8⟩)
    | (go_at_call 12; first
        | (refine (C8 _ _ h9).mono ?_; rintro e w10 ⟨rfl, h10⟩)
        | (refine (C7 _ _ h8).mono ?_; rintro e w9 ⟨rfl, h9⟩))
    | (go_at_call 18; refine (num_any _ _ _ h10).mono ?_; rintro e w' ⟨rfl, rfl⟩))
  go_ret
  exact ⟨by simp, h10.drop.drop.drop.drop.drop⟩

end Go.Proofs.Ytklokbmpapjjiaa
