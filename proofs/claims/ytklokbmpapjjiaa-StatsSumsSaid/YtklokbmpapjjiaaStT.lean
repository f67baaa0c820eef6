/- The walk of StatsSums. -/
import Derived.Test.YtklokbmpapjjiaaStS
open Go.RowKit Go.Own
namespace Go.Proofs.Ytklokbmpapjjiaa

def adjK (d : Nat → Nat) (m k : Nat) : Nat → Nat := fun i => if i % 16 < k then (if m ≤ i % 16 then 0 else if i < 16 then d i else if d i = 0 then 1 else d i) else d i
theorem adjK_zero (d : Nat → Nat) (m : Nat) : adjK d m 0 = d := by funext i; simp [adjK]
theorem adjK_at (d : Nat → Nat) (m k i : Nat) (h : k ≤ i % 16) : adjK d m k i = d i := by unfold adjK; rw [if_neg (by omega)]
theorem adjK_above (d : Nat → Nat) (m k i : Nat) (hi : i < 32) (hk : k < 16) (hm : m ≤ k) : upd (upd (adjK d m k) k 0) (16 + k) 0 i = adjK d m (k + 1) i := by
  unfold upd adjK
  by_cases h1 : i % 16 = k
  · have e1 : i % 16 < k + 1 := by omega
    have e2 : m ≤ i % 16 := by omega
    simp only [e1, e2, if_true]
    split
    · rfl
    · rw [if_pos (by omega)]
  · have e1 : ¬ i = 16 + k := by omega
    have e2 : ¬ i = k := by omega
    simp only [e1, e2, if_false]
    by_cases h3 : i % 16 < k
    · have e : i % 16 < k + 1 := by omega
      simp only [h3, e, if_true]
    · have e : ¬ i % 16 < k + 1 := by omega
      simp only [h3, e, if_false]
theorem adjK_zero1 (d : Nat → Nat) (m k i : Nat) (hi : i < 32) (hk : k < m) (hm : m ≤ 16) (hd : d (16 + k) = 0) : upd (adjK d m k) (16 + k) 1 i = adjK d m (k + 1) i := by
  unfold upd adjK
  by_cases h1 : i = 16 + k
  · have e1 : i % 16 < k + 1 := by omega
    have e2 : ¬ m ≤ i % 16 := by omega
    have e3 : ¬ i < 16 := by omega
    have e4 : d i = 0 := by rw [h1]; exact hd
    rw [if_pos h1, if_pos e1, if_neg e2, if_neg e3, if_pos e4]
  · simp only [h1, if_false]
    by_cases h2 : i = k
    · have e1 : i % 16 < k + 1 := by omega
      have e0 : ¬ i % 16 < k := by omega
      have e2 : ¬ m ≤ i % 16 := by omega
      have e3 : i < 16 := by omega
      simp only [e0, e1, e2, e3, if_true, if_false]
    · by_cases h3 : i % 16 < k
      · have e : i % 16 < k + 1 := by omega
        simp only [h3, e, if_true]
      · have e : ¬ i % 16 < k + 1 := by omega
        simp only [h3, e, if_false]
theorem adjK_keep (d : Nat → Nat) (m k i : Nat) (hi : i < 32) (hk : k < m) (hm : m ≤ 16) (hd : d (16 + k) ≠ 0) : adjK d m k i = adjK d m (k + 1) i := by
  unfold adjK
  by_cases h1 : i % 16 = k
  · have e1 : i % 16 < k + 1 := by omega
    have e0 : ¬ i % 16 < k := by omega
    have e2 : ¬ m ≤ i % 16 := by omega
    simp only [e0, e1, e2, if_true, if_false]
    by_cases h16 : i < 16
    · simp only [h16, if_true]
    · have e3 : ¬ d i = 0 := by rw [show i = 16 + k from by omega]; exact hd
      simp only [h16, e3, if_false]
  · by_cases h3 : i % 16 < k
    · have e : i % 16 < k + 1 := by omega
      simp only [h3, e, if_true]
    · have e : ¬ i % 16 < k + 1 := by omega
      simp only [h3, e, if_false]

theorem adj_fine {y : SV} {p m : Nat} (h : Fine y p) (hm : 2 ≤ m) (hm2 : m ≤ 16) : Fine ⟨(m : Int), adjK y.c m 16⟩ m := by
  refine ⟨rfl, hm, hm2, fun i hi => ?_, fun i hi hmi => ?_, fun r hr => ?_, ?_⟩
  · show adjK y.c m 16 i ≤ 2000
    have := h.le i hi
    unfold adjK
    split
    · split
      · omega
      · split
        · exact this
        · split <;> omega
    · exact this
  · show adjK y.c m 16 i = 0
    unfold adjK
    rw [if_pos (by omega), if_pos hmi]
  · show 1 ≤ adjK y.c m 16 (16 + r)
    unfold adjK
    rw [if_pos (by omega), if_neg (by omega), if_neg (by omega)]
    split <;> omega
  · show 1 ≤ adjK y.c m 16 0
    unfold adjK
    rw [if_pos (by omega), if_neg (by omega), if_pos (by omega)]
    exact h.zero

set_option maxHeartbeats 8000000 in
set_option maxRecDepth 20000 in
theorem sums_walk (x y : SV) (hx : x.ok) (hy : y.ok) (w : World) (L : List Asn) (h : Hold w L) :
    Calls Try.prog 5 #[.agg (enc x).toArray, .agg (enc y).toArray] w fun e w' => e = .returned (.bool true) ∧ Hold w' L := by
  have hb := h.box2 26 26 (enc x) (enc y)
  have G1 := good_ok x hx
  have G2 := good_ok y hy
  have FS := good_fine x
  have FY := good_fine y
  have FT := adj_fine FY FS.lo FS.hi
  have hm1 := FS.lo
  have hm2 := FS.hi
  have hlv := FS.lv
  obtain ⟨S, hS⟩ : ∃ S, S = goodV x := ⟨_, rfl⟩
  obtain ⟨Y, hY⟩ : ∃ Y, Y = goodV y := ⟨_, rfl⟩
  rw [← hS] at G1 FS hlv
  rw [← hY] at G2 FY FT
  clear hS hY
  generalize goodM x.lv = m at *
  generalize goodM y.lv = p at *
  obtain ⟨ls, c⟩ := S
  obtain ⟨ly, d⟩ := Y
  simp only at hlv FT
  subst hlv
  have HS := Lib.hid FS
  have HT := Lib.hid FT
  have HD := Lib.hid (fun i hi => FY.le i hi)
  simp only at HD
  clear FS FY FT h
  go_enter Try.func5, Try.ntmps5
  go_upto_region 1 with (fail)
  refine gen_world hb (fun w0 h0 => ?_)
  generalize w.heap.size + 1 = by_ at *
  generalize w.heap.size = bx at *
  go_upto_region 2 with (first
    | (refine wpList_yw (by rfl) (exec_load26 (by rfl) (by rfl) (h0.mv 1)) ?_)
    | (go_at_call 28; refine (G1 _ _ h0).mono ?_; rintro e v1 ⟨rfl, g1⟩; have z1 := g1.boxZ 0)
    | (refine wp_store26 rfl _ _ (by rfl) v1.heap.size (by rfl) ⟨m, c⟩ (by rfl) z1 (fun w1 h1 => ?_)))
  generalize v1.heap.size = bs at *
  clear g1 z1 h0
  go_upto_region 3 with (first
    | (refine wpList_yw (by rfl) (exec_load26 (by rfl) (by rfl) (h1.mv 1)) ?_)
    | (go_at_call 28; refine (G2 _ _ h1).mono ?_; rintro e v2 ⟨rfl, g2⟩; have z2 := g2.boxZ 0)
    | (refine wp_store26 rfl _ _ (by rfl) v2.heap.size (by rfl) ⟨ly, d⟩ (by rfl) z2 (fun w2 h2 => ?_)))
  generalize v2.heap.size = bt at *
  clear g2 z2 h1 G1 G2
  have g0 := ((h2.mv 1).cell 0).trans (enc_lv _)
  have k0 := (h2.cell 0).trans (enc_lv _)
  have f0 := h2.frozen 0
  simp only at g0 k0
  have h3 := (h2.st 0 (.int .i64 m)).as (ds := enc ⟨m, d⟩) rfl
  go_upto_region 4 with (fail)
  refine gen_world h3 (fun w3 h3 => ?_)
  clear h2 g0 k0 f0
  go_wp2
  go_loopw [7] (fun i wr => ∃ k : Nat, k ≤ 16 ∧ i = .int .i64 k ∧ Hold wr (cellsA bt 26 (enc ⟨m, adjK d m k⟩) :: cellsA bs 26 (enc ⟨m, c⟩) :: cellsA by_ 26 (enc y) :: cellsA bx 26 (enc x) :: L)) (fun i _ => 16 - (intOf i).toNat)
  case atStart => exact ⟨0, by omega, rfl, by rw [adjK_zero]; exact h3⟩
  case round =>
    obtain ⟨k, hk, rfl, hr⟩ := hrel
    clear h3
    by_cases hlt : k < 16
    · have hki : (k : Int) < 16 := by omega
      have g0 := (hr.cell 0).trans (enc_lv _)
      have ka := (hr.cell (1 + k)).trans (enc_at (i := k) (by omega) (by omega))
      have kb := (hr.cell (17 + k)).trans (enc_at (i := 16 + k) (by omega) (by omega))
      have fa := hr.frozen (1 + k)
      have fb := hr.frozen (17 + k)
      simp only at g0 ka kb
      rw [adjK_at d m k k (by omega)] at ka
      rw [adjK_at d m k (16 + k) (by omega)] at kb
      by_cases hkm : k < m
      · have hkm2 : (k : Int) < m := by omega
        by_cases hd0 : d (16 + k) = 0
        · have HX := hr.seta (16 + k) 1
          rw [show 16 + k + 1 = 17 + k from by omega] at HX
          simp only [Int.natCast_one] at HX
          have HD0 := Lib.hid hd0
          rw [hd0] at kb
          clear hd0
          go_wp2
          go_roundw
          case rel => exact ⟨k + 1, by omega, by go_num, HX.as (enc_congr rfl fun i hi => adjK_zero1 d m k i hi hkm hm2 HD0.out)⟩
          case measure => simp [intOf]; omega
        · have hd1 : ((d (16 + k) : Int) == 0) = false := by simp; omega
          have HD0 := Lib.hid hd0
          clear hd0
          go_wp2
          go_roundw
          case rel => exact ⟨k + 1, by omega, by go_num, hr.as (enc_congr rfl fun i hi => adjK_keep d m k i hi hkm hm2 HD0.out)⟩
          case measure => simp [intOf]; omega
      · have hkm2 : (m : Int) ≤ k := by omega
        have HX := (hr.seta k 0).seta (16 + k) 0
        rw [show k + 1 = 1 + k from by omega, show 16 + k + 1 = 17 + k from by omega] at HX
        simp only [Int.natCast_zero] at HX
        go_wp2
        go_roundw
        case rel => exact ⟨k + 1, by omega, by go_num, HX.as (enc_congr rfl fun i hi => adjK_above d m k i hi hlt (by omega))⟩
        case measure => simp [intOf]; omega
    · obtain rfl : 16 = k := by omega
      have FS := HS.out
      have FT := HT.out
      clear HS HT HD
      generalize adjK d m 16 = a at *
      have M1 := merge_ok _ _ FS.ok FT.ok
      have M2 := merge_ok _ _ FT.ok FS.ok
      obtain ⟨e1, e2, e3, e4, e5⟩ := FS.merge FT
      obtain ⟨f1, f2, -, -, -⟩ := FT.merge FS
      have hMo : (mrgV (⟨m, c⟩ : SV) ⟨m, a⟩).ok := mrgV_ok FS.ok
      have hNo : (mrgV (⟨m, a⟩ : SV) ⟨m, c⟩).ok := mrgV_ok FT.ok
      have hsame : same (mrgV (⟨m, c⟩ : SV) ⟨m, a⟩) (mrgV (⟨m, a⟩ : SV) ⟨m, c⟩) := by
        rw [e2, f2]; exact ⟨rfl, fun i _ => Nat.add_comm _ _⟩
      have EQ := eq26 hMo hNo (v := true) (by simp [hsame])
      have T1 := totals_ok _ FS.ok
      have T2 := totals_ok _ FT.ok
      have T3 := totals_ok _ hMo
      rw [FS.check] at T1
      rw [FT.check] at T2
      rw [e3, e4, e5] at T3
      rw [e1] at M1
      rw [f1] at M2
      have tb := FS.tot.2.2
      have td := FT.tot.2.2
      obtain ⟨ta1, ta2⟩ := tb
      obtain ⟨tc1, tc2⟩ := td
      generalize mrgV (⟨m, c⟩ : SV) ⟨m, a⟩ = M at *
      generalize mrgV (⟨m, a⟩ : SV) ⟨m, c⟩ = N at *
      have HFS := Lib.hid FS
      have HCO := Lib.hid (fun h2 h3 => FS.coarse (m := m) h2 h3)
      have HCN := Lib.hid (fun h => FS.coarse_no (m := m) h)
      have hSo := Lib.hid FS.ok
      generalize totA (⟨m, c⟩ : SV) = t1 at *
      generalize totB (⟨m, c⟩ : SV) = t2 at *
      generalize totA (⟨m, a⟩ : SV) = t3 at *
      generalize totB (⟨m, a⟩ : SV) = t4 at *
      clear FS FT e1 e2 e3 e4 e5 f1 f2 hMo hNo hsame
      go_upto_region 13 with (first
        | (refine wpList_yw (by rfl) (exec_load26 (by rfl) (by rfl) (hr.mv 1)) ?_)
        | (refine wpList_yw (by rfl) (exec_load26 (by rfl) (by rfl) hr) ?_)
        | (go_at_call 22; refine (M1 _ _ hr).mono ?_; rintro e v3 ⟨rfl, g3⟩; have z3 := g3.boxZ 0)
        | (refine wp_store26 rfl _ _ (by rfl) v3.heap.size (by rfl) M (by rfl) z3 (fun w3 h3 => ?_)))
      generalize v3.heap.size = bm at *
      clear g3 z3 hr
      go_upto_region 14 with (first
        | (refine wpList_yw (by rfl) (exec_load26 (by rfl) (by rfl) (h3.mv 1)) ?_)
        | (refine wpList_yw (by rfl) (exec_load26 (by rfl) (by rfl) (h3.mv 2)) ?_)
        | (go_at_call 22; refine (M2 _ _ h3).mono ?_; rintro e v4 ⟨rfl, g4⟩; have z4 := g4.boxZ 0)
        | (refine wp_store26 rfl _ _ (by rfl) v4.heap.size (by rfl) N (by rfl) z4 (fun w4 h4 => ?_)))
      generalize v4.heap.size = bn at *
      clear g4 z4 h3 M1 M2
      go_upto_region 17 with (first
        | (refine wpList_yw (by rfl) (exec_load26 (by rfl) (by rfl) (h6.mv 1)) ?_)
        | (refine wpList_yw (by rfl) (exec_load26 (by rfl) (by rfl) (h5.mv 2)) ?_)
        | (refine wpList_yw (by rfl) (exec_load26 (by rfl) (by rfl) (h4.mv 3)) ?_)
        | (go_at_call 12; first
            | (refine (T3 _ _ h6).mono ?_; rintro e w7 ⟨rfl, h7⟩)
            | (refine (T2 _ _ h5).mono ?_; rintro e w6 ⟨rfl, h6⟩)
            | (refine (T1 _ _ h4).mono ?_; rintro e w5 ⟨rfl, h5⟩)))
      clear h4 h5 h6 T1 T2 T3
      go_upto_region 19 with (first
        | (refine wpList_yw (by rfl) (exec_load26 (by rfl) (by rfl) (h7.mv 1)) ?_)
        | (refine wpList_yw (by rfl) (exec_load26 (by rfl) (by rfl) h7) ?_)
        | (refine wpList_yw (by rfl) (exec_agg_neq (by rfl) (by rfl) (by rfl) g26 EQ _) ?_)
        | (go_at_call 18; refine (num_any _ _ _ h7).mono ?_; rintro e w' ⟨rfl, rfl⟩)
        | (go_at_call 21; refine (knows_ok _ _ h7).mono ?_; rintro e w8 ⟨rfl, h8⟩))
      clear h7 EQ
      have CO := coarse_ok _ hSo.out
      have hnm : ∀ (X : Nat), (X : Int).tmod 2 = (X : Int) % 2 := fun X => Int.tmod_eq_emod_of_nonneg (by omega)
      by_cases hcase : m % 2 ≠ 0 ∨ m = 2
      · obtain ⟨c1, c2⟩ := HCN.out hcase
        rw [c1, c2] at CO
        clear c1 c2 HCN HCO HFS hSo
        have hmod : (m : Int) % 2 = 1 ∨ m = 2 := by omega
        have EZ := eq26 zero_ok zero_ok (v := true) (by simp [same_refl])
        have hmm := hnm m
        clear hcase hnm
        rcases hmod with hmod | hmod
        · rw [hmod] at hmm
          go_upto_region 20 with (first
            | (refine wpList_yw (by rfl) (exec_load26 (by rfl) (by rfl) (h8.mv 3)) ?_)
            | (go_at_call 24; refine (CO _ _ h8).mono ?_; rintro e v9 ⟨rfl, g9⟩; have z9 := g9.boxZ 0)
            | (refine wp_store26 rfl _ _ (by rfl) v9.heap.size (by rfl) ⟨0, fun _ => 0⟩ (by rfl) z9 (fun w9 h9 => ?_)))
          generalize v9.heap.size = bw at *
          clear g9 z9 h8 CO
          have g0 := ((h9.mv 4).cell 0).trans (enc_lv _)
          simp only at g0
          go_wp2_with (first
            | (refine wpList_yw (by rfl) (exec_load26 (by rfl) (by rfl) h9) ?_)
            | (refine wpList_yw (by rfl) (exec_agg_eql (by rfl) (by rfl) (by rfl) g26 EZ _) ?_)
            | (go_at_call 18; refine (num_any _ _ _ h9).mono ?_; rintro e w' ⟨rfl, rfl⟩))
          go_ret
          exact ⟨by simp, h9.drop.drop.drop.drop.drop.drop.drop⟩
        · subst hmod
          clear hmm
          go_upto_region 20 with (first
            | (refine wpList_yw (by rfl) (exec_load26 (by rfl) (by rfl) (h8.mv 3)) ?_)
            | (go_at_call 24; refine (CO _ _ h8).mono ?_; rintro e v9 ⟨rfl, g9⟩; have z9 := g9.boxZ 0)
            | (refine wp_store26 rfl _ _ (by rfl) v9.heap.size (by rfl) ⟨0, fun _ => 0⟩ (by rfl) z9 (fun w9 h9 => ?_)))
          generalize v9.heap.size = bw at *
          clear g9 z9 h8 CO
          have g0 := ((h9.mv 4).cell 0).trans (enc_lv _)
          simp only at g0
          go_wp2_with (first
            | (refine wpList_yw (by rfl) (exec_load26 (by rfl) (by rfl) h9) ?_)
            | (refine wpList_yw (by rfl) (exec_agg_eql (by rfl) (by rfl) (by rfl) g26 EZ _) ?_)
            | (go_at_call 18; refine (num_any _ _ _ h9).mono ?_; rintro e w' ⟨rfl, rfl⟩))
          go_ret
          exact ⟨by simp, h9.drop.drop.drop.drop.drop.drop.drop⟩
      · have hm0 : m % 2 = 0 := by omega
        have hm3 : m ≠ 2 := by omega
        obtain ⟨c1, c2, c3, c4, c5⟩ := HCO.out hm0 hm3
        have hWo := coaV_ok hSo.out
        have T4 := totals_ok _ hWo
        rw [c3, c4, c5] at T4
        rw [c1] at CO
        rw [c2] at CO T4
        clear c1 c2 c3 c4 c5 HCN HCO HFS hSo hWo
        have hmod : (m : Int) % 2 = 0 := by omega
        have hmm := hnm m
        rw [hmod] at hmm
        have hne : ((m : Int) == 2) = false := by simp; omega
        have hq1 : (m : Int) / 2 = ((m / 2 : Nat) : Int) := by omega
        have hq2 : (m : Int).tdiv 2 = ((m / 2 : Nat) : Int) := by rw [Int.tdiv_eq_ediv_of_nonneg (by omega)]; omega
        generalize coaC c (m / 2) = cc at *
        generalize m / 2 = H at *
        clear hcase hnm hm0 hm3
        go_upto_region 20 with (first
          | (refine wpList_yw (by rfl) (exec_load26 (by rfl) (by rfl) (h8.mv 3)) ?_)
          | (go_at_call 24; refine (CO _ _ h8).mono ?_; rintro e v9 ⟨rfl, g9⟩; have z9 := g9.boxZ 0)
          | (refine wp_store26 rfl _ _ (by rfl) v9.heap.size (by rfl) ⟨H, cc⟩ (by rfl) z9 (fun w9 h9 => ?_)))
        generalize v9.heap.size = bw at *
        clear g9 z9 h8 CO
        have g0 := ((h9.mv 4).cell 0).trans (enc_lv _)
        simp only at g0
        go_upto_region 23 with (first
          | (refine wpList_yw (by rfl) (exec_load26 (by rfl) (by rfl) h9) ?_)
          | (go_at_call 12; (refine (T4 _ _ h9).mono ?_; rintro e w10 ⟨rfl, h10⟩)))
        clear g0
        have g0 := ((h10.mv 4).cell 0).trans (enc_lv _)
        have g1 := (h10.cell 0).trans (enc_lv _)
        simp only at g0 g1
        go_wp2_with (go_at_call 18; refine (num_any _ _ _ h10).mono ?_; rintro e w' ⟨rfl, rfl⟩)
        go_ret
        exact ⟨by simp, h10.drop.drop.drop.drop.drop.drop.drop⟩

end Go.Proofs.Ytklokbmpapjjiaa
