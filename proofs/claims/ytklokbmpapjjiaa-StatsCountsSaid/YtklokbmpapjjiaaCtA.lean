/- Contracts: the program's counter. -/
import Derived.Test.YtklokbmpapjjiaaStS
open Go.RowKit Go.Own
namespace Go.Proofs.Ytklokbmpapjjiaa

/-- A counter's cells. -/
def encC (s : SV) : List Value := enc s ++ [.bool true]
theorem encC_length (s : SV) : (encC s).length = 34 := by simp [encC, enc_length]
theorem encC_lv (s : SV) : (encC s)[0]? = some (.int .i64 s.lv) := rfl
theorem encC_made (s : SV) : (encC s)[33]? = some (.bool true) := by
  rw [encC, List.getElem?_append_right (by rw [enc_length]; omega), enc_length]; rfl
theorem encC_at {s : SV} {i j : Nat} (h : i < 32) (hj : j = i + 1) : (encC s)[j]? = some (.int .u32 (s.c i : Int)) := by
  rw [encC, List.getElem?_append_left (by rw [enc_length]; omega), enc_at h hj]
theorem encC_set {s : SV} {i : Nat} (x : Nat) (h : i < 32) : (encC s).set (i + 1) (.int .u32 (x : Int)) = encC ⟨s.lv, upd s.c i x⟩ := by
  rw [encC, List.set_append, if_pos (by rw [enc_length]; omega), enc_set]; rfl
theorem encC_congr {s t : SV} (h : s.lv = t.lv) (hc : ∀ i, i < 32 → s.c i = t.c i) : encC s = encC t := by rw [encC, encC, enc_congr h hc]

theorem _root_.Go.Own.Hold.setc {w : World} {b : Nat} {T : TypeId} {s : SV} {L : List Asn} (h : Hold w (cellsA b T (encC s) :: L)) (i x : Nat) (hi : i < 32) : Hold (w.setCell ⟨b, i + 1, none⟩ (.int .u32 x)) (cellsA b T (encC ⟨s.lv, upd s.c i x⟩) :: L) := by
  have := h.st (i + 1) (.int .u32 x)
  rwa [encC_set x hi] at this

theorem encC_zero (lv : Int) : (encC ⟨lv, fun _ => 0⟩).toArray = (List.toArray (.int .i64 lv :: .int .u32 0 :: .int .u32 0 :: .int .u32 0 :: .int .u32 0 :: .int .u32 0 :: .int .u32 0 :: .int .u32 0 :: .int .u32 0 :: .int .u32 0 :: .int .u32 0 :: .int .u32 0 :: .int .u32 0 :: .int .u32 0 :: .int .u32 0 :: .int .u32 0 :: .int .u32 0 :: .int .u32 0 :: .int .u32 0 :: .int .u32 0 :: .int .u32 0 :: .int .u32 0 :: .int .u32 0 :: .int .u32 0 :: .int .u32 0 :: .int .u32 0 :: .int .u32 0 :: .int .u32 0 :: .int .u32 0 :: .int .u32 0 :: .int .u32 0 :: .int .u32 0 :: .int .u32 0 :: .bool true :: [])) := by rfl

def addE (s : SV) (bit lev : Nat) : Nat := if 1 < bit then 10 else if s.lv ≤ (lev : Int) then 91 else if 4095 ≤ s.c (16 * bit + lev) then 2 else 0
def addV (s : SV) (bit lev : Nat) : SV := if addE s bit lev = 0 then ⟨s.lv, upd s.c (16 * bit + lev) (s.c (16 * bit + lev) + 1)⟩ else s
theorem add_1 {s : SV} {bit lev : Nat} (h : 1 < bit) : addE s bit lev = 10 ∧ addV s bit lev = s := by
  have : addE s bit lev = 10 := by rw [addE, if_pos h]
  exact ⟨this, by rw [addV, if_neg (by omega)]⟩
theorem add_2 {s : SV} {bit lev : Nat} (h : bit ≤ 1) (h2 : s.lv ≤ (lev : Int)) : addE s bit lev = 91 ∧ addV s bit lev = s := by
  have : addE s bit lev = 91 := by rw [addE, if_neg (by omega), if_pos h2]
  exact ⟨this, by rw [addV, if_neg (by omega)]⟩
theorem add_3 {s : SV} {bit lev : Nat} (h : bit ≤ 1) (h2 : (lev : Int) < s.lv) (h3 : 4095 ≤ s.c (16 * bit + lev)) : addE s bit lev = 2 ∧ addV s bit lev = s := by
  have : addE s bit lev = 2 := by rw [addE, if_neg (by omega), if_neg (by omega), if_pos h3]
  exact ⟨this, by rw [addV, if_neg (by omega)]⟩
theorem add_4 {s : SV} {bit lev : Nat} (h : bit ≤ 1) (h2 : (lev : Int) < s.lv) (h3 : s.c (16 * bit + lev) < 4095) : addE s bit lev = 0 ∧ addV s bit lev = ⟨s.lv, upd s.c (16 * bit + lev) (s.c (16 * bit + lev) + 1)⟩ := by
  have : addE s bit lev = 0 := by rw [addE, if_neg (by omega), if_neg (by omega), if_neg (by omega)]
  exact ⟨this, by rw [addV, if_pos this]⟩

set_option maxHeartbeats 4000000 in
set_option maxRecDepth 20000 in
theorem more_ok (s : SV) (bit lev : Nat) (hl : s.lv ≤ 16) (hbit : bit < 256) (hlev : lev < 256) (b : Nat) (w : World) (L : List Asn) (h : Hold w (cellsA b 85 (encC s) :: L)) :
    Calls Try.prog 45 #[.pointer (some ⟨b, 0, none⟩), .int .u8 bit, .int .u8 lev] w fun e w' => e = .returned (.int .i64 (addE s bit lev)) ∧ Hold w' (cellsA b 85 (encC (addV s bit lev)) :: L) := by
  have g0 := (h.cell 0).trans (encC_lv s)
  by_cases h1 : 1 < bit
  · obtain ⟨e1, e2⟩ := add_1 (s := s) (lev := lev) h1
    rw [e1, e2]
    clear e1 e2
    go_enter Try.func45, Try.ntmps45
    go_wp2
    go_ret
    exact ⟨rfl, h⟩
  · by_cases h2 : s.lv ≤ (lev : Int)
    · obtain ⟨e1, e2⟩ := add_2 (s := s) (bit := bit) (by omega) h2
      rw [e1, e2]
      clear e1 e2
      have h1' : bit ≤ 1 := by omega
      clear h1
      go_enter Try.func45, Try.ntmps45
      go_wp2
      go_ret
      exact ⟨rfl, h⟩
    · have h2' : (lev : Int) < s.lv := by omega
      have hl16 : (lev : Int) < 16 := by omega
      clear h2
      obtain ⟨lv, c⟩ := s
      simp only at g0 hl h2'
      obtain rfl | rfl : bit = 0 ∨ bit = 1 := by omega
      · have ga := (h.cell (1 + lev)).trans (encC_at (i := lev) (by omega) (by omega))
        have fa := h.frozen (1 + lev)
        simp only at ga
        by_cases h3 : 4095 ≤ c (lev)
        · obtain ⟨e1, e2⟩ := add_3 (s := ⟨lv, c⟩) (bit := 0) (lev := lev) (by omega) h2' (by rw [show 16 * 0 + lev = lev from by omega]; exact h3)
          rw [e1, e2]
          have h3' : (4095 : Int) ≤ c (lev) := by omega
          clear e1 e2 h3
          go_enter Try.func45, Try.ntmps45
          go_wp2
          go_ret
          exact ⟨rfl, h⟩
        · obtain ⟨e1, e2⟩ := add_4 (s := ⟨lv, c⟩) (bit := 0) (lev := lev) (by omega) h2' (by rw [show 16 * 0 + lev = lev from by omega]; show c (lev) < 4095; omega)
          rw [e1, e2]
          clear e1 e2
          have h3' : (c (lev) : Int) < 4095 := by omega
          have W1 : IntKind.u32.wrap ((c (lev) : Int) + 1) = (c (lev) : Int) + 1 := IntWalk.u32_in _ (by omega)
          clear h3
          go_enter Try.func45, Try.ntmps45
          go_upto_region 7 with (fail)
          refine wp_region_Z (fun W => W.cell? ⟨b, 1 + lev, none⟩ = some (.int .u32 (c (lev)))) [7] [13] [0, 1, 2, 3, 4, 5, 6, 8, 9, 10, 11, 12] [0, 1, 2, 3, 4, 5, 6, 7, 8, 9, 10, 11, 12, 13] (by kernel_rfl) (by kernel_rfl) ?_
          (repeat (first | (refine wpZ_st (v := ?_) _ (by rfl) (by rfl) (by rfl) (fun W hW => ?_) ga ?_; (rotate_left; (focus ((try dsimp only at hW); go_simp; (try with_reducible rfl); done))); try simp only [Act.put, List.getElem_toArray, List.getElem_cons_zero, List.getElem_cons_succ, List.setIfInBounds_toArray, List.set_cons_zero, List.set_cons_succ]) | (refine wpZ_pu (v := ?_) _ (by rfl) (by rfl) (by rfl) (by rfl) (fun W => ?_) ?_; (rotate_left; (focus ((try dsimp only at hW); go_simp; (try with_reducible rfl); done))); try simp only [Act.put, List.getElem_toArray, List.getElem_cons_zero, List.getElem_cons_succ, List.setIfInBounds_toArray, List.set_cons_zero, List.set_cons_succ]) | (refine wpZ_no _ (by rfl) (by rfl) (by rfl) (by rfl) ?_; try simp only [Act.put, List.getElem_toArray, List.getElem_cons_zero, List.getElem_cons_succ, List.setIfInBounds_toArray, List.set_cons_zero, List.set_cons_succ]) | (refine wpZ_noS _ (by rfl) (by rfl) (by rfl) ga ?_; try simp only [Act.put, List.getElem_toArray, List.getElem_cons_zero, List.getElem_cons_succ, List.setIfInBounds_toArray, List.set_cons_zero, List.set_cons_succ])))
          (refine wpZ_eff _ (by rfl) (by rfl) (by rfl) (by rfl) (fun K hK => ?_); go_simp; refine hK _ _ (fun hl => ?_) ?_; (first | (focus (cases hl; done)) | trivial); clear hK K; try simp only [Act.put, List.getElem_toArray, List.getElem_cons_zero, List.getElem_cons_succ, List.setIfInBounds_toArray, List.set_cons_zero, List.set_cons_succ])
          (simp only [wpZ])
          have HX := (h.setc (lev) (c (lev) + 1) (by omega)).drew
          rw [show lev + 1 = 1 + lev from by omega] at HX
          simp only [Int.natCast_add, Int.natCast_one] at HX
          go_wp2
          go_ret
          exact ⟨rfl, HX.as (by rw [show 16 * 0 + lev = lev from by omega])⟩
      · have ga := (h.cell (17 + lev)).trans (encC_at (i := 16 + lev) (by omega) (by omega))
        have fa := h.frozen (17 + lev)
        simp only at ga
        by_cases h3 : 4095 ≤ c (16 + lev)
        · obtain ⟨e1, e2⟩ := add_3 (s := ⟨lv, c⟩) (bit := 1) (lev := lev) (by omega) h2' (by rw [show 16 * 1 + lev = 16 + lev from by omega]; exact h3)
          rw [e1, e2]
          have h3' : (4095 : Int) ≤ c (16 + lev) := by omega
          clear e1 e2 h3
          go_enter Try.func45, Try.ntmps45
          go_wp2
          go_ret
          exact ⟨rfl, h⟩
        · obtain ⟨e1, e2⟩ := add_4 (s := ⟨lv, c⟩) (bit := 1) (lev := lev) (by omega) h2' (by rw [show 16 * 1 + lev = 16 + lev from by omega]; show c (16 + lev) < 4095; omega)
          rw [e1, e2]
          clear e1 e2
          have h3' : (c (16 + lev) : Int) < 4095 := by omega
          have W1 : IntKind.u32.wrap ((c (16 + lev) : Int) + 1) = (c (16 + lev) : Int) + 1 := IntWalk.u32_in _ (by omega)
          clear h3
          go_enter Try.func45, Try.ntmps45
          go_upto_region 7 with (fail)
          refine wp_region_Z (fun W => W.cell? ⟨b, 17 + lev, none⟩ = some (.int .u32 (c (16 + lev)))) [7] [13] [0, 1, 2, 3, 4, 5, 6, 8, 9, 10, 11, 12] [0, 1, 2, 3, 4, 5, 6, 7, 8, 9, 10, 11, 12, 13] (by kernel_rfl) (by kernel_rfl) ?_
          (repeat (first | (refine wpZ_st (v := ?_) _ (by rfl) (by rfl) (by rfl) (fun W hW => ?_) ga ?_; (rotate_left; (focus ((try dsimp only at hW); go_simp; (try with_reducible rfl); done))); try simp only [Act.put, List.getElem_toArray, List.getElem_cons_zero, List.getElem_cons_succ, List.setIfInBounds_toArray, List.set_cons_zero, List.set_cons_succ]) | (refine wpZ_pu (v := ?_) _ (by rfl) (by rfl) (by rfl) (by rfl) (fun W => ?_) ?_; (rotate_left; (focus ((try dsimp only at hW); go_simp; (try with_reducible rfl); done))); try simp only [Act.put, List.getElem_toArray, List.getElem_cons_zero, List.getElem_cons_succ, List.setIfInBounds_toArray, List.set_cons_zero, List.set_cons_succ]) | (refine wpZ_no _ (by rfl) (by rfl) (by rfl) (by rfl) ?_; try simp only [Act.put, List.getElem_toArray, List.getElem_cons_zero, List.getElem_cons_succ, List.setIfInBounds_toArray, List.set_cons_zero, List.set_cons_succ]) | (refine wpZ_noS _ (by rfl) (by rfl) (by rfl) ga ?_; try simp only [Act.put, List.getElem_toArray, List.getElem_cons_zero, List.getElem_cons_succ, List.setIfInBounds_toArray, List.set_cons_zero, List.set_cons_succ])))
          (refine wpZ_eff _ (by rfl) (by rfl) (by rfl) (by rfl) (fun K hK => ?_); go_simp; refine hK _ _ (fun hl => ?_) ?_; (first | (focus (cases hl; done)) | trivial); clear hK K; try simp only [Act.put, List.getElem_toArray, List.getElem_cons_zero, List.getElem_cons_succ, List.setIfInBounds_toArray, List.set_cons_zero, List.set_cons_succ])
          (simp only [wpZ])
          have HX := (h.setc (16 + lev) (c (16 + lev) + 1) (by omega)).drew
          rw [show 16 + lev + 1 = 17 + lev from by omega] at HX
          simp only [Int.natCast_add, Int.natCast_one] at HX
          go_wp2
          go_ret
          exact ⟨rfl, HX.as (by rw [show 16 * 1 + lev = 16 + lev from by omega])⟩

end Go.Proofs.Ytklokbmpapjjiaa
