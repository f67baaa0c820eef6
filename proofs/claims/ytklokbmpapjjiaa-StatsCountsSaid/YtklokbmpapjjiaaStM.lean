/- Contracts: Merge. -/
import Derived.Test.YtklokbmpapjjiaaStI
import Derived.Test.YtklokbmpapjjiaaRegion3
open Go.RowKit Go.Own
namespace Go.Proofs.Ytklokbmpapjjiaa

/-- Merged so far: row q, place k is next. -/
def mrgD (c d : Nat → Nat) (q k : Nat) : Nat → Nat := fun i => if i / 16 < q ∨ (i / 16 = q ∧ i % 16 < k) then c i + d i else c i
theorem mrgD_zero (c d : Nat → Nat) : mrgD c d 0 0 = c := by funext i; simp [mrgD]
theorem mrgD_step (c d : Nat → Nat) (q k i x j : Nat) (hk : k < 16) (hj : j = 16 * q + k) (hx : x = c j + d j) : upd (mrgD c d q k) j x i = mrgD c d q (k + 1) i := by
  unfold upd mrgD
  by_cases h1 : i = j
  · rw [if_pos h1, if_pos (.inr (by omega)), h1]; exact hx
  · rw [if_neg h1]
    by_cases h2 : i / 16 < q ∨ (i / 16 = q ∧ i % 16 < k)
    · rw [if_pos h2, if_pos (by omega)]
    · rw [if_neg h2, if_neg (by omega)]
theorem mrgD_next (c d : Nat → Nat) (q m i : Nat) (hi : i < 32) (hd : ∀ i, i < 32 → m ≤ i % 16 → d i = 0) : mrgD c d q m i = mrgD c d (q + 1) 0 i := by
  unfold mrgD
  by_cases h1 : i / 16 < q
  · rw [if_pos (.inl h1), if_pos (.inl (by omega))]
  · by_cases h2 : i / 16 = q
    · rw [if_pos (c := i / 16 < q + 1 ∨ _) (.inl (by omega))]
      by_cases h3 : i % 16 < m
      · rw [if_pos (.inr ⟨h2, h3⟩)]
      · rw [if_neg (by omega), hd i hi (by omega)]; omega
    · rw [if_neg (by omega), if_neg (by omega)]
theorem mrgD_at (c d : Nat → Nat) (q k i : Nat) (hi : i = 16 * q + k) (hk : k < 16) : mrgD c d q k i = c i := by
  unfold mrgD; rw [if_neg (by omega)]
theorem mrgD_end (c d : Nat → Nat) (i : Nat) (hi : i < 32) : mrgD c d 2 0 i = c i + d i := by unfold mrgD; rw [if_pos (.inl (by omega))]

def overAny (c d : Nat → Nat) : Bool := (List.range 32).any fun i => decide (4095 < c i + d i)
theorem over_true {c d : Nat → Nat} (i : Nat) (hi : i < 32) (h : 4095 < c i + d i) : overAny c d = true := List.any_eq_true.2 ⟨i, by simpa using hi, by simpa using h⟩
theorem over_false {c d : Nat → Nat} (h : ∀ i, i < 32 → c i + d i ≤ 4095) : overAny c d = false := by
  rw [overAny, List.any_eq_false]
  intro i hi
  have := h i (by simpa using hi)
  simp; omega

def mrgE (s t : SV) : Nat := if check s ≠ 0 ∨ check t ≠ 0 then 90 else if s.lv ≠ t.lv then 5 else if overAny s.c t.c = true then 2 else 0
def mrgV (s t : SV) : SV := if mrgE s t = 0 then ⟨s.lv, fun i => s.c i + t.c i⟩ else ⟨0, fun _ => 0⟩
theorem mrg_of {s t : SV} {e : Nat} (h : mrgE s t = e) (he : e ≠ 0) : mrgE s t = e ∧ mrgV s t = ⟨0, fun _ => 0⟩ := ⟨h, by rw [mrgV, if_neg (by omega)]⟩
theorem mrg_1 {s t : SV} (h : check s ≠ 0 ∨ check t ≠ 0) : mrgE s t = 90 := by rw [mrgE, if_pos h]
theorem mrg_2 {s t : SV} (h : check s = 0) (h2 : check t = 0) (h3 : s.lv ≠ t.lv) : mrgE s t = 5 := by rw [mrgE, if_neg (by omega), if_pos h3]
theorem mrg_3 {s t : SV} (h : check s = 0) (h2 : check t = 0) (h3 : s.lv = t.lv) (h4 : overAny s.c t.c = true) : mrgE s t = 2 := by rw [mrgE, if_neg (by omega), if_neg (by omega), if_pos h4]
theorem mrg_4 {s t : SV} (h : check s = 0) (h2 : check t = 0) (h3 : s.lv = t.lv) (h4 : overAny s.c t.c = false) : mrgE s t = 0 ∧ mrgV s t = ⟨s.lv, fun i => s.c i + t.c i⟩ := by
  have : mrgE s t = 0 := by rw [mrgE, if_neg (by omega), if_neg (by omega), if_neg (by rw [h4]; simp)]
  exact ⟨this, by rw [mrgV, if_pos this]⟩

theorem check_le {s : SV} (h : check s = 0) {i : Nat} (hi : i < 32) : s.c i ≤ 4095 := by
  obtain ⟨_, _, hb, _, _⟩ := check_zero h
  by_cases h16 : i < 16
  · exact (good_at (hb i h16)).1
  · have := (good_at (hb (i - 16) (by omega))).2.1
    rwa [show 16 + (i - 16) = i by omega] at this
theorem check_above {s : SV} (h : check s = 0) {i : Nat} (hi : i < 32) (hl : s.lv ≤ (i % 16 : Nat)) : s.c i = 0 := by
  obtain ⟨_, _, hb, _, _⟩ := check_zero h
  have := (good_at (hb (i % 16) (by omega))).2.2.1 hl
  by_cases h16 : i < 16
  · rw [show i % 16 = i by omega] at this; exact this.1
  · have e : 16 + i % 16 = i := by omega
    rw [e] at this; exact this.2

theorem mrgV_ok {s t : SV} (hs : s.ok) : (mrgV s t).ok := by
  unfold mrgV
  split
  · rename_i h
    by_cases h1 : check s ≠ 0 ∨ check t ≠ 0
    · rw [mrg_1 h1] at h; cases h
    · refine ⟨hs.1, hs.2.1, fun i hi => ?_⟩
      have := check_le (s := s) (by omega) hi
      have := check_le (s := t) (by omega) hi
      show s.c i + t.c i < _
      omega
  · exact zero_ok

theorem _root_.Go.Own.Hold.box3Z {w : World} {L : List Asn} (h : Hold w L) (s t : SV) (lv : Int) : Hold (((w.alloc (.cells (enc s).toArray 26)).alloc (.cells (enc t).toArray 26)).alloc (.cells (List.toArray (.int .i64 lv :: .int .u32 0 :: .int .u32 0 :: .int .u32 0 :: .int .u32 0 :: .int .u32 0 :: .int .u32 0 :: .int .u32 0 :: .int .u32 0 :: .int .u32 0 :: .int .u32 0 :: .int .u32 0 :: .int .u32 0 :: .int .u32 0 :: .int .u32 0 :: .int .u32 0 :: .int .u32 0 :: .int .u32 0 :: .int .u32 0 :: .int .u32 0 :: .int .u32 0 :: .int .u32 0 :: .int .u32 0 :: .int .u32 0 :: .int .u32 0 :: .int .u32 0 :: .int .u32 0 :: .int .u32 0 :: .int .u32 0 :: .int .u32 0 :: .int .u32 0 :: .int .u32 0 :: .int .u32 0 :: [])) 26)) (cellsA (w.heap.size + 2) 26 (enc ⟨lv, fun _ => 0⟩) :: cellsA (w.heap.size + 1) 26 (enc t) :: cellsA w.heap.size 26 (enc s) :: L) := by
  have := (h.box 26 (enc s)).box2Z t lv
  simpa using this

set_option maxHeartbeats 8000000 in
set_option maxRecDepth 20000 in
theorem merge_ok (s t : SV) (hs : s.ok) (ht : t.ok) (w : World) (L : List Asn) (h : Hold w L) :
    Calls Try.prog 22 #[.agg (enc s).toArray, .agg (enc t).toArray] w fun e w' => e = .returned (.tuple #[.agg (enc (mrgV s t)).toArray, .int .i64 (mrgE s t)]) ∧ Hold w' L := by
  have hb := h.box3Z s t 0
  have C := check_ok s hs
  have C2 := check_ok t ht
  clear h
  rcases check_cases s with hc | hc
  rcases check_cases t with hc2 | hc2
  · obtain ⟨c1, c2, -, -, -⟩ := check_zero hc
    by_cases hl : s.lv = t.lv
    · obtain ⟨m, hm⟩ : ∃ m : Nat, m = s.lv.toNat := ⟨_, rfl⟩
      have hlv : s.lv = m := by omega
      have hlv2 : t.lv = m := by omega
      have E3 := Lib.hid (fun h => mrg_of (mrg_3 hc hc2 hl h) (by omega))
      have E4 := Lib.hid (mrg_4 hc hc2 hl)
      have hup : ∀ i, i < 32 → m ≤ i % 16 → t.c i = 0 := fun i hi hm => check_above hc2 hi (by omega)
      obtain ⟨ls, c⟩ := s
      obtain ⟨lt, d⟩ := t
      simp only at hlv hlv2 c1 c2 hl hm hup E3 E4
      subst hlv hlv2
      generalize mrgE ⟨m, c⟩ ⟨m, d⟩ = E at *
      generalize mrgV ⟨m, c⟩ ⟨m, d⟩ = V at *
      have UP := Lib.hid hup
      clear hup hl hm
      have B1 := Lib.hid (fun i hi => @check_le _ hc i hi)
      have B2 := Lib.hid (fun i hi => @check_le _ hc2 i hi)
      simp only at B1 B2
      rw [hc] at C
      rw [hc2] at C2
      clear hc hc2 hs ht
      go_enter Try.func22, Try.ntmps22
      go_upto_region 1 with (fail)
      refine gen_world hb (fun w1 hb => ?_)
      generalize w.heap.size + 2 = r at *
      generalize w.heap.size + 1 = u at *
      generalize w.heap.size = b at *
      go_upto_region 3 with (first
        | (refine wpList_yw (by rfl) (exec_load26 (by rfl) (by rfl) (h2.mv 1)) ?_)
        | (refine wpList_yw (by rfl) (exec_load26 (by rfl) (by rfl) (hb.mv 2)) ?_)
        | (go_at_call 19; first | (refine (C2 _ _ h2).mono ?_; rintro e w3 ⟨rfl, h3⟩) | (refine (C _ _ hb).mono ?_; rintro e w2 ⟨rfl, h2⟩)))
      clear C C2 hb h2
      have g0 := ((h3.mv 2).cell 0).trans (enc_lv _)
      have g1 := ((h3.mv 1).cell 0).trans (enc_lv _)
      simp only at g0 g1
      go_upto_block 0 with (fail)
      go_wp2
      clear g0 g1
      go_loopw [23] (fun i wr => ∃ q : Nat, q ≤ 2 ∧ i = .int .i64 q ∧ (∀ i, i < 32 → (i / 16 < q ∨ (i / 16 = q ∧ i % 16 < 0)) → c i + d i ≤ 4095) ∧ Hold wr (cellsA r 26 (enc ⟨0, fun _ => 0⟩) :: cellsA u 26 (enc ⟨m, d⟩) :: cellsA b 26 (enc ⟨m, mrgD c d q 0⟩) :: L)) (fun i _ => 2 - (intOf i).toNat)
      case atStart => exact ⟨0, by omega, rfl, fun i _ h => by omega, by rw [mrgD_zero]; exact h3⟩
      case round =>
        obtain ⟨q, hq, hi, hf, hr⟩ := hrel
        clear h3
        have HF := Lib.hid hf
        clear hf
        by_cases hlt : q < 2
        · obtain ⟨wo, rfl⟩ : ∃ wo : World, wo = wr := ⟨_, rfl⟩
          obtain rfl | rfl : q = 0 ∨ q = 1 := by omega
          · have hi : _ = Value.int IntKind.i64 0 := hi
            subst hi
            go_wp2
            go_loopw [26] (fun i wr => ∃ k : Nat, k ≤ 16 ∧ i = .int .i64 k ∧ (∀ i, i < 32 → (i / 16 < 0 ∨ (i / 16 = 0 ∧ i % 16 < k)) → c i + d i ≤ 4095) ∧ Hold wr (cellsA r 26 (enc ⟨0, fun _ => 0⟩) :: cellsA u 26 (enc ⟨m, d⟩) :: cellsA b 26 (enc ⟨m, mrgD c d 0 k⟩) :: L)) (fun i _ => 16 - (intOf i).toNat)
            case atStart => exact ⟨0, by omega, rfl, HF.out, hr⟩
            case round =>
              obtain ⟨k, hk, rfl, hf2, hr2⟩ := hrel
              have HG := Lib.hid hf2
              clear hf2
              by_cases hlt2 : k < 16
              · have hki : (k : Int) < 16 := by omega
                have hk16 : (k : Int) < 16 := by omega
                have ga := ((hr2.mv 2).cell (1 + k)).trans (enc_at (i := k) (by omega) (by omega))
                have gb := ((hr2.mv 1).cell (1 + k)).trans (enc_at (i := k) (by omega) (by omega))
                simp only at ga gb
                rw [mrgD_at c d 0 k (k) (by omega) (by omega)] at ga
                have fa := (hr2.mv 2).frozen (1 + k)
                have hx1 := B1.out (k) (by omega)
                have hx2 := B2.out (k) (by omega)
                have W1 : IntKind.u32.wrap ((c (k) : Int) + d (k)) = (c (k) : Int) + d (k) := IntWalk.u32_in _ (by omega)
                go_upto_region 11 with (fail)
                refine wp_region_Z (fun W => W.cell? ⟨b, 1 + k, none⟩ = some (.int .u32 (c (k))) ∧ W.cell? ⟨u, 1 + k, none⟩ = some (.int .u32 (d (k)))) [5, 11] [16] [0, 1, 2, 3, 4, 6, 7, 8, 9, 10, 12, 13, 14, 15] [0, 1, 2, 3, 4, 5, 6, 7, 8, 9, 10, 11, 12, 13, 14, 15, 16] (by kernel_rfl) (by kernel_rfl) ?_
                (repeat (first | (refine wpZ_st (v := ?_) _ (by rfl) (by rfl) (by rfl) (fun W hW => ?_) ⟨ga, gb⟩ ?_; (rotate_left; (focus ((try dsimp only at hW); go_simp; (try with_reducible rfl); done))); try simp only [Act.put, List.getElem_toArray, List.getElem_cons_zero, List.getElem_cons_succ, List.setIfInBounds_toArray, List.set_cons_zero, List.set_cons_succ]) | (refine wpZ_pu (v := ?_) _ (by rfl) (by rfl) (by rfl) (by rfl) (fun W => ?_) ?_; (rotate_left; (focus ((try dsimp only at hW); go_simp; (try with_reducible rfl); done))); try simp only [Act.put, List.getElem_toArray, List.getElem_cons_zero, List.getElem_cons_succ, List.setIfInBounds_toArray, List.set_cons_zero, List.set_cons_succ]) | (refine wpZ_no _ (by rfl) (by rfl) (by rfl) (by rfl) ?_; try simp only [Act.put, List.getElem_toArray, List.getElem_cons_zero, List.getElem_cons_succ, List.setIfInBounds_toArray, List.set_cons_zero, List.set_cons_succ]) | (refine wpZ_noS _ (by rfl) (by rfl) (by rfl) ⟨ga, gb⟩ ?_; try simp only [Act.put, List.getElem_toArray, List.getElem_cons_zero, List.getElem_cons_succ, List.setIfInBounds_toArray, List.set_cons_zero, List.set_cons_succ])))
                (refine wpZ_eff _ (by rfl) (by rfl) (by rfl) (by rfl) (fun K hK => ?_); go_simp; refine hK _ _ (fun hl => ?_) ?_; (first | (focus (cases hl; done)) | trivial); clear hK K; try simp only [Act.put, List.getElem_toArray, List.getElem_cons_zero, List.getElem_cons_succ, List.setIfInBounds_toArray, List.set_cons_zero, List.set_cons_succ])
                (simp only [wpZ])
                have HX := ((hr2.mv 2).seta (k) (c (k) + d (k))).drew
                rw [show k + 1 = 1 + k from by omega] at HX
                simp only [Int.natCast_add] at HX
                by_cases hov : c (k) + d (k) ≤ 4095
                · have hov' : (c (k) : Int) + d (k) ≤ 4095 := by omega
                  skip
                  go_wp2
                  go_roundw
                  case rel =>
                    refine ⟨k + 1, by omega, by go_num, fun i hi h => ?_, ((HX.as (ds := enc ⟨m, mrgD c d 0 (k + 1)⟩) (enc_congr rfl fun i hi => mrgD_step c d 0 k i _ (k) (by omega) (by omega) rfl)).mv 2).mv 2⟩
                    by_cases e : i = k
                    · rw [e]; exact hov
                    · exact HG.out i hi (by omega)
                  case measure => simp [intOf]; omega
                · have hov' : 4095 < (c (k) : Int) + d (k) := by omega
                  obtain ⟨e1, e2⟩ := E3.out (over_true (k) (by omega) (by omega))
                  subst e1 e2
                  clear E3 E4
                  go_wp2_with (first
                    | (refine wp_store26 rfl _ _ (by rfl) r (by rfl) ⟨0, fun _ => 0⟩ (by rfl) (HX.mv 1) (fun w4 h4 => ?_)))
                  exact bodyPost_ret (res_cell_tmp (loadV26 h4) (by rfl) (by rfl) (by rfl)) rfl ⟨rfl, h4.drop.drop.drop⟩
              · obtain rfl : 16 = k := by omega
                go_wp2
                go_roundw
                case rel =>
                  refine ⟨1, by omega, by go_num, fun i hi h => ?_, (((hr2.mv 2).as (ds := enc ⟨m, mrgD c d 1 0⟩) (enc_congr rfl fun i hi => mrgD_next c d 0 _ i hi (fun i hi h => by omega))).mv 2).mv 2⟩
                  skip
                  exact HG.out i hi (by omega)
                  skip
                case measure => simp [intOf]
          · have hi : _ = Value.int IntKind.i64 1 := hi
            subst hi
            go_wp2
            go_loopw [26] (fun i wr => ∃ k : Nat, k ≤ 16 ∧ i = .int .i64 k ∧ (∀ i, i < 32 → (i / 16 < 1 ∨ (i / 16 = 1 ∧ i % 16 < k)) → c i + d i ≤ 4095) ∧ Hold wr (cellsA r 26 (enc ⟨0, fun _ => 0⟩) :: cellsA u 26 (enc ⟨m, d⟩) :: cellsA b 26 (enc ⟨m, mrgD c d 1 k⟩) :: L)) (fun i _ => 16 - (intOf i).toNat)
            case atStart => exact ⟨0, by omega, rfl, HF.out, hr⟩
            case round =>
              obtain ⟨k, hk, rfl, hf2, hr2⟩ := hrel
              have HG := Lib.hid hf2
              clear hf2
              by_cases hlt2 : k < 16
              · have hki : (k : Int) < 16 := by omega
                have hk16 : (k : Int) < 16 := by omega
                have ga := ((hr2.mv 2).cell (17 + k)).trans (enc_at (i := 16 + k) (by omega) (by omega))
                have gb := ((hr2.mv 1).cell (17 + k)).trans (enc_at (i := 16 + k) (by omega) (by omega))
                simp only at ga gb
                rw [mrgD_at c d 1 k (16 + k) (by omega) (by omega)] at ga
                have fa := (hr2.mv 2).frozen (17 + k)
                have hx1 := B1.out (16 + k) (by omega)
                have hx2 := B2.out (16 + k) (by omega)
                have W1 : IntKind.u32.wrap ((c (16 + k) : Int) + d (16 + k)) = (c (16 + k) : Int) + d (16 + k) := IntWalk.u32_in _ (by omega)
                go_upto_region 11 with (fail)
                refine wp_region_Z (fun W => W.cell? ⟨b, 17 + k, none⟩ = some (.int .u32 (c (16 + k))) ∧ W.cell? ⟨u, 17 + k, none⟩ = some (.int .u32 (d (16 + k)))) [5, 11] [16] [0, 1, 2, 3, 4, 6, 7, 8, 9, 10, 12, 13, 14, 15] [0, 1, 2, 3, 4, 5, 6, 7, 8, 9, 10, 11, 12, 13, 14, 15, 16] (by kernel_rfl) (by kernel_rfl) ?_
                (repeat (first | (refine wpZ_st (v := ?_) _ (by rfl) (by rfl) (by rfl) (fun W hW => ?_) ⟨ga, gb⟩ ?_; (rotate_left; (focus ((try dsimp only at hW); go_simp; (try with_reducible rfl); done))); try simp only [Act.put, List.getElem_toArray, List.getElem_cons_zero, List.getElem_cons_succ, List.setIfInBounds_toArray, List.set_cons_zero, List.set_cons_succ]) | (refine wpZ_pu (v := ?_) _ (by rfl) (by rfl) (by rfl) (by rfl) (fun W => ?_) ?_; (rotate_left; (focus ((try dsimp only at hW); go_simp; (try with_reducible rfl); done))); try simp only [Act.put, List.getElem_toArray, List.getElem_cons_zero, List.getElem_cons_succ, List.setIfInBounds_toArray, List.set_cons_zero, List.set_cons_succ]) | (refine wpZ_no _ (by rfl) (by rfl) (by rfl) (by rfl) ?_; try simp only [Act.put, List.getElem_toArray, List.getElem_cons_zero, List.getElem_cons_succ, List.setIfInBounds_toArray, List.set_cons_zero, List.set_cons_succ]) | (refine wpZ_noS _ (by rfl) (by rfl) (by rfl) ⟨ga, gb⟩ ?_; try simp only [Act.put, List.getElem_toArray, List.getElem_cons_zero, List.getElem_cons_succ, List.setIfInBounds_toArray, List.set_cons_zero, List.set_cons_succ])))
                (refine wpZ_eff _ (by rfl) (by rfl) (by rfl) (by rfl) (fun K hK => ?_); go_simp; refine hK _ _ (fun hl => ?_) ?_; (first | (focus (cases hl; done)) | trivial); clear hK K; try simp only [Act.put, List.getElem_toArray, List.getElem_cons_zero, List.getElem_cons_succ, List.setIfInBounds_toArray, List.set_cons_zero, List.set_cons_succ])
                (simp only [wpZ])
                have HX := ((hr2.mv 2).seta (16 + k) (c (16 + k) + d (16 + k))).drew
                rw [show 16 + k + 1 = 17 + k from by omega] at HX
                simp only [Int.natCast_add] at HX
                by_cases hov : c (16 + k) + d (16 + k) ≤ 4095
                · have hov' : (c (16 + k) : Int) + d (16 + k) ≤ 4095 := by omega
                  skip
                  go_wp2
                  go_roundw
                  case rel =>
                    refine ⟨k + 1, by omega, by go_num, fun i hi h => ?_, ((HX.as (ds := enc ⟨m, mrgD c d 1 (k + 1)⟩) (enc_congr rfl fun i hi => mrgD_step c d 1 k i _ (16 + k) (by omega) (by omega) rfl)).mv 2).mv 2⟩
                    by_cases e : i = 16 + k
                    · rw [e]; exact hov
                    · exact HG.out i hi (by omega)
                  case measure => simp [intOf]; omega
                · have hov' : 4095 < (c (16 + k) : Int) + d (16 + k) := by omega
                  obtain ⟨e1, e2⟩ := E3.out (over_true (16 + k) (by omega) (by omega))
                  subst e1 e2
                  clear E3 E4
                  go_wp2_with (first
                    | (refine wp_store26 rfl _ _ (by rfl) r (by rfl) ⟨0, fun _ => 0⟩ (by rfl) (HX.mv 1) (fun w4 h4 => ?_)))
                  exact bodyPost_ret (res_cell_tmp (loadV26 h4) (by rfl) (by rfl) (by rfl)) rfl ⟨rfl, h4.drop.drop.drop⟩
              · obtain rfl : 16 = k := by omega
                go_wp2
                go_roundw
                case rel =>
                  refine ⟨2, by omega, by go_num, fun i hi h => ?_, (((hr2.mv 2).as (ds := enc ⟨m, mrgD c d 2 0⟩) (enc_congr rfl fun i hi => mrgD_next c d 1 _ i hi (fun i hi h => by omega))).mv 2).mv 2⟩
                  skip
                  exact HG.out i hi (by omega)
                  skip
                case measure => simp [intOf]
        · obtain rfl : q = 2 := by omega
          subst hi
          have HO := over_false (c := c) (d := d) (fun i hi => HF.out i hi (.inl (by omega)))
          obtain ⟨e1, e2⟩ := E4.out HO
          subst e1 e2
          clear HO E4 E3
          have hr := ((hr.mv 2).as (ds := enc ⟨m, fun i => c i + d i⟩) (enc_congr rfl fun i hi => mrgD_end c d i hi))
          go_wp2_with (first
            | (refine wp_load26 rfl _ (by rfl) b (by rfl) hr ?_)
            | (refine wp_store26 rfl _ _ (by rfl) r (by rfl) ⟨m, fun i => c i + d i⟩ (by rfl) (hr.mv 1) (fun w4 h4 => ?_)))
          exact bodyPost_ret (res_cell_tmp (loadV26 h4) (by rfl) (by rfl) (by rfl)) rfl ⟨rfl, h4.drop.drop.drop⟩
    · obtain ⟨e1, e2⟩ := mrg_of (mrg_2 hc hc2 hl) (by omega)
      rw [e1, e2]
      clear e1 e2
      rw [hc] at C
      rw [hc2] at C2
      clear hc hc2 c1 c2
      obtain ⟨ls, c⟩ := s
      obtain ⟨lt, d⟩ := t
      simp only at hl
      have hl2 : (ls == lt) = false := by simpa using hl
      go_enter Try.func22, Try.ntmps22
      go_upto_region 1 with (fail)
      refine gen_world hb (fun w1 hb => ?_)
      generalize w.heap.size + 2 = r at *
      generalize w.heap.size + 1 = u at *
      generalize w.heap.size = b at *
      go_upto_region 3 with (first
        | (refine wpList_yw (by rfl) (exec_load26 (by rfl) (by rfl) (h2.mv 1)) ?_)
        | (refine wpList_yw (by rfl) (exec_load26 (by rfl) (by rfl) (hb.mv 2)) ?_)
        | (go_at_call 19; first | (refine (C2 _ _ h2).mono ?_; rintro e w3 ⟨rfl, h3⟩) | (refine (C _ _ hb).mono ?_; rintro e w2 ⟨rfl, h2⟩)))
      have g0 := ((h3.mv 2).cell 0).trans (enc_lv _)
      have g1 := ((h3.mv 1).cell 0).trans (enc_lv _)
      simp only at g0 g1
      go_wp2_with (first
        | (refine wp_store26 rfl _ _ (by rfl) r (by rfl) ⟨0, fun _ => 0⟩ (by rfl) h3 (fun w4 h4 => ?_)))
      exact bodyPost_ret (res_cell_tmp (loadV26 h4) (by rfl) (by rfl) (by rfl)) rfl ⟨rfl, h4.drop.drop.drop⟩
  · obtain ⟨e1, e2⟩ := mrg_of (mrg_1 (s := s) (t := t) (.inr (by omega))) (by omega)
    rw [e1, e2]
    rw [hc] at C
    rw [hc2] at C2
    clear hc hc2 e1 e2
    go_enter Try.func22, Try.ntmps22
    go_upto_region 1 with (fail)
    refine gen_world hb (fun w1 hb => ?_)
    generalize w.heap.size + 2 = r at *
    generalize w.heap.size + 1 = u at *
    generalize w.heap.size = b at *
    go_wp2_with (first
      | (refine wpList_yw (by rfl) (exec_load26 (by rfl) (by rfl) (h2.mv 1)) ?_)
      | (refine wpList_yw (by rfl) (exec_load26 (by rfl) (by rfl) (hb.mv 2)) ?_)
      | (go_at_call 19; first | (refine (C2 _ _ h2).mono ?_; rintro e w3 ⟨rfl, h3⟩) | (refine (C _ _ hb).mono ?_; rintro e w2 ⟨rfl, h2⟩))
      | (refine wp_store26 rfl _ _ (by rfl) r (by rfl) ⟨0, fun _ => 0⟩ (by rfl) h3 (fun w4 h4 => ?_)))
    exact bodyPost_ret (res_cell_tmp (loadV26 h4) (by rfl) (by rfl) (by rfl)) rfl ⟨rfl, h4.drop.drop.drop⟩
  · obtain ⟨e1, e2⟩ := mrg_of (mrg_1 (s := s) (t := t) (.inl (by omega))) (by omega)
    rw [e1, e2]
    rw [hc] at C
    clear hc e1 e2 C2
    go_enter Try.func22, Try.ntmps22
    go_upto_region 1 with (fail)
    refine gen_world hb (fun w1 hb => ?_)
    generalize w.heap.size + 2 = r at *
    generalize w.heap.size + 1 = u at *
    generalize w.heap.size = b at *
    go_wp2_with (first
      | (refine wpList_yw (by rfl) (exec_load26 (by rfl) (by rfl) (hb.mv 2)) ?_)
      | (go_at_call 19; (refine (C _ _ hb).mono ?_; rintro e w2 ⟨rfl, h2⟩))
      | (refine wp_store26 rfl _ _ (by rfl) r (by rfl) ⟨0, fun _ => 0⟩ (by rfl) h2 (fun w4 h4 => ?_)))
    exact bodyPost_ret (res_cell_tmp (loadV26 h4) (by rfl) (by rfl) (by rfl)) rfl ⟨rfl, h4.drop.drop.drop⟩

end Go.Proofs.Ytklokbmpapjjiaa
