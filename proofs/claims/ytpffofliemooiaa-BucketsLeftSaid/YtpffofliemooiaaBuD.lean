/- Contracts: the highest bucket that is not empty, and the lowest one. -/
import Derived.Test.YtpffofliemooiaaBuC
open Go.RowKit Go.Own
namespace Go.Proofs.Ytpffofliemooiaa

/-- The highest place up to t where something is. -/
def hiAt (rows : List (List Int)) : Nat → Nat
  | 0 => 0
  | t + 1 => if rows.getD (t + 1) [] = [] then hiAt rows t else t + 1
/-- The lowest place from t on where something is. -/
def loFrom (rows : List (List Int)) : Nat → Nat → Nat
  | 0, t => t
  | f + 1, t => if rows.getD t [] = [] then loFrom rows f (t + 1) else t
def loAt (rows : List (List Int)) (t : Nat) : Nat := loFrom rows (rows.length - t) t
theorem loAt_step {rows : List (List Int)} {t : Nat} (h : rows.getD t [] = []) (ht : t + 1 < rows.length) : loAt rows t = loAt rows (t + 1) := by
  unfold loAt
  rw [show rows.length - t = (rows.length - (t + 1)) + 1 by omega, loFrom, if_pos h]
theorem loAt_stop {rows : List (List Int)} {t : Nat} (h : rows.getD t [] ≠ []) (ht : t < rows.length) : loAt rows t = t := by
  unfold loAt
  rw [show rows.length - t = (rows.length - (t + 1)) + 1 by omega, loFrom, if_neg h]

def highestRel (b : Nat) (S : BS) (v : Value) (R : List Asn) (k : Nat) (wr : World) : Prop := ∃ t : Nat, t ≤ S.top ∧ t ≤ k ∧ hiAt S.rows t = hiAt S.rows S.top ∧ (∃ j, j ≤ t ∧ S.rows.getD j [] ≠ []) ∧ Hold wr (cellsA b 67 ({ S with top := t }.cells v) :: R)

set_option maxRecDepth 20000 in
theorem highest_ok (b : Nat) (S : BS) (hc : 1 ≤ S.cp) (hn : 0 < S.n) (ht : S.low ≤ S.top ∧ S.top < S.rows.length) (hN : ∃ j, j ≤ S.top ∧ S.rows.getD j [] ≠ []) (hR : S.rows.length ≤ 65536) (hB : ∀ t : Nat, t < S.rows.length → I64 ((t : Int) + S.base)) (w : World) (L : List Asn) (h : Hold w (bkA b S :: L)) :
    Calls Try.prog 30 #[.pointer (some ⟨b, 0, none⟩)] w fun e w' => e = .returned (.tuple #[.int .i64 ((hiAt S.rows S.top : Nat) + S.base), .bool true]) ∧ Hold w' (bkA b { S with top := hiAt S.rows S.top } :: L) := by
  obtain ⟨ro, rc, vs, hl, h1⟩ := bk_open h
  have hn2 : ((S.n : Int) == 0) = false := by rw [beq_eq_false_iff_ne]; omega
  obtain ⟨g0, g1, g2, g3, g4, g5, g6, g7, g8, g9, g10⟩ := bkM h1
  have P := none_ok b S hc w g3
  have HN := Lib.hid hN
  have HB := Lib.hid hB
  have HL := Lib.hid hl
  have h2 : Hold w (cellsA b 67 ({ S with top := S.top }.cells (.slice ro S.rows.length rc)) :: rowA 24 1 ro S.rows.length rc (sl S.rows vs) :: starL (rws S.rows vs) :: L) := h1
  clear hN hB hl h h1
  go_enter Try.func30, Try.ntmps30
  go_upto_block 0 with (go_at_call 29; refine P.mono ?_; rintro e w1 ⟨rfl, rfl⟩)
  clear g0 g1 g2 g3 g4 g5 g6 g7 g8 g9 g10 P
  go_wp2
  go_loopg [] (S.top) (fun k wr => highestRel b S (.slice ro S.rows.length rc) (rowA 24 1 ro S.rows.length rc (sl S.rows vs) :: starL (rws S.rows vs) :: L) k wr)
  case atStart => exact ⟨S.top, by omega, by omega, rfl, HN.out, h2⟩
  case round =>
    clear h2
    obtain ⟨t, htt, hkk, hat, hne, hr⟩ := hrel
    have htl : t < S.rows.length := by omega
    obtain ⟨xs, hxs⟩ : ∃ xs, S.rows[t]? = some xs := ⟨S.rows[t], List.getElem?_eq_getElem htl⟩
    have hgd : S.rows.getD t [] = xs := by simp [List.getD, hxs]
    obtain ⟨v, -, hv2, -⟩ := sl_get HL.out hxs
    obtain ⟨rb, ro2, rfl, hct, -⟩ := (hr.mv 1).at (by omega)
    have G : ∀ W, Hold W (cellsA b 67 ({ S with top := t }.cells (.slice (some ⟨rb, ro2, none⟩) S.rows.length rc)) :: rowA 24 1 (some ⟨rb, ro2, none⟩) S.rows.length rc (sl S.rows vs) :: starL (rws S.rows vs) :: L) →
        W.cell? ⟨b, 5, none⟩ = some (.slice (some ⟨rb, ro2, none⟩) S.rows.length rc) ∧ W.cell? ⟨b, 8, none⟩ = some (.int .i64 t) ∧ W.cell? ⟨rb, ro2 + t, none⟩ = some (.slice v.1 xs.length v.2) := fun W hW => by
      obtain ⟨rb', ro', he, hct', -⟩ := (hW.mv 1).at (by omega)
      simp only [Option.some.injEq, Addr.mk.injEq, and_true] at he
      obtain ⟨rfl, rfl⟩ := he
      exact ⟨hW.cell 5, hW.cell 8, by rw [hct' t (by omega)]; exact hv2⟩
    have HG := Lib.hid G
    have hti : (t : Int) < S.rows.length := by omega
    have ht0 : 0 ≤ (t : Int) := by omega
    have hS := hr.drew
    have HX := Lib.hid hgd
    clear G hct hv2 hgd hxs
    go_upto_region 3 with (fail)
    refine wp_region_Z (fun W => W.cell? ⟨b, 5, none⟩ = some (.slice (some ⟨rb, ro2, none⟩) S.rows.length rc) ∧ W.cell? ⟨b, 8, none⟩ = some (.int .i64 t) ∧ W.cell? ⟨rb, ro2 + t, none⟩ = some (.slice v.1 xs.length v.2)) [3, 7, 9] [] [0, 1, 2, 4, 5, 6, 8, 10, 11] [0, 1, 2, 3, 4, 5, 6, 7, 8, 9, 10, 11] (by kernel_rfl) (by kernel_rfl) ?_
    (repeat (first | (refine wpZ_st (v := ?_) _ (by rfl) (by rfl) (by rfl) (fun W hW => ?_) (by exact HG.out _ hS) ?_; (rotate_left; (focus ((try dsimp only at hW); go_simp; (try with_reducible rfl); done))); try simp only [Act.put, List.getElem_toArray, List.getElem_cons_zero, List.getElem_cons_succ, List.setIfInBounds_toArray, List.set_cons_zero, List.set_cons_succ]) | (refine wpZ_pu (v := ?_) _ (by rfl) (by rfl) (by rfl) (by rfl) (fun W => ?_) ?_; (rotate_left; (focus ((try dsimp only at hW); go_simp; (try with_reducible rfl); done))); try simp only [Act.put, List.getElem_toArray, List.getElem_cons_zero, List.getElem_cons_succ, List.setIfInBounds_toArray, List.set_cons_zero, List.set_cons_succ]) | (refine wpZ_no _ (by rfl) (by rfl) (by rfl) (by rfl) ?_; try simp only [Act.put, List.getElem_toArray, List.getElem_cons_zero, List.getElem_cons_succ, List.setIfInBounds_toArray, List.set_cons_zero, List.set_cons_succ]) | (refine wpZ_noS _ (by rfl) (by rfl) (by rfl) (by exact HG.out _ hS) ?_; try simp only [Act.put, List.getElem_toArray, List.getElem_cons_zero, List.getElem_cons_succ, List.setIfInBounds_toArray, List.set_cons_zero, List.set_cons_succ])))
    (simp only [wpZ])
    by_cases hx : xs = []
    · have hx2 : ((xs.length : Int) == 0) = true := by rw [hx]; rfl
      have hx3 : S.rows.getD t [] = [] := HX.out.trans hx
      have ht1 : 0 < t := by
        obtain ⟨j, hj1, hj2⟩ := hne
        rcases Nat.lt_or_ge j t with h | h
        · omega
        · obtain rfl : j = t := by omega
          exact absurd hx3 hj2
      have hne2 : ∃ j, j ≤ t - 1 ∧ S.rows.getD j [] ≠ [] := by
        obtain ⟨j, hj1, hj2⟩ := hne
        refine ⟨j, ?_, hj2⟩
        rcases Nat.lt_or_ge j t with h | h
        · omega
        · obtain rfl : j = t := by omega
          exact absurd hx3 hj2
      have HX3 := Lib.hid hx3
      obtain ⟨-, g8, -⟩ := HG.out _ hS
      have f8 := hS.frozen 8
      have HS := hS.st 8 (.int .i64 ((t : Int) - 1))
      clear hx hx3
      go_wp2
      go_roundg (t - 1)
      case measure => omega
      case rel => exact ⟨t - 1, by omega, by omega, by rw [← hat]; obtain ⟨u, rfl⟩ : ∃ u, t = u + 1 := ⟨t - 1, by omega⟩; rw [hiAt, if_pos HX3.out]; rfl, hne2, HS.as (by simp only [BS.cells, List.set_cons_succ, List.set_cons_zero]; rw [show ((t - 1 : Nat) : Int) = (t : Int) - 1 by omega])⟩
    · have hx2 : ((xs.length : Int) == 0) = false := by rw [beq_eq_false_iff_ne]; cases xs with
        | nil => exact absurd rfl hx
        | cons a l => simp; omega
      have hfin : hiAt S.rows S.top = t := by rw [← hat]; cases t with | zero => rfl | succ u => rw [hiAt, if_neg (by rw [HX.out]; exact hx)]
      have HF := Lib.hid hfin
      obtain ⟨b1, b2⟩ := HB.out t htl
      have W1 : IntKind.i64.wrap ((t : Int) + S.base) = (t : Int) + S.base := IntWalk.i64_in _ ⟨b1, b2⟩
      obtain ⟨g0, g1, g2, g3, g4, g5, g6, g7, g8, g9, g10⟩ := bkM hS
      have hW := hS.drew
      clear hx hfin
      go_upto_region 5 with (fail)
      refine wp_region_Z (fun W => W.cell? ⟨b, 8, none⟩ = some (.int .i64 t) ∧ W.cell? ⟨b, 4, none⟩ = some (.int .i64 S.base)) [3, 7] [] [0, 1, 2, 4, 5, 6, 8, 9, 10] [0, 1, 2, 3, 4, 5, 6, 7, 8, 9, 10] (by kernel_rfl) (by kernel_rfl) ?_
      (repeat (first | (refine wpZ_st (v := ?_) _ (by rfl) (by rfl) (by rfl) (fun W hW => ?_) (by exact ⟨hW.cell 8, hW.cell 4⟩) ?_; (rotate_left; (focus ((try dsimp only at hW); go_simp; (try with_reducible rfl); done))); try simp only [Act.put, List.getElem_toArray, List.getElem_cons_zero, List.getElem_cons_succ, List.setIfInBounds_toArray, List.set_cons_zero, List.set_cons_succ]) | (refine wpZ_pu (v := ?_) _ (by rfl) (by rfl) (by rfl) (by rfl) (fun W => ?_) ?_; (rotate_left; (focus ((try dsimp only at hW); go_simp; (try with_reducible rfl); done))); try simp only [Act.put, List.getElem_toArray, List.getElem_cons_zero, List.getElem_cons_succ, List.setIfInBounds_toArray, List.set_cons_zero, List.set_cons_succ]) | (refine wpZ_no _ (by rfl) (by rfl) (by rfl) (by rfl) ?_; try simp only [Act.put, List.getElem_toArray, List.getElem_cons_zero, List.getElem_cons_succ, List.setIfInBounds_toArray, List.set_cons_zero, List.set_cons_succ]) | (refine wpZ_noS _ (by rfl) (by rfl) (by rfl) (by exact ⟨hW.cell 8, hW.cell 4⟩) ?_; try simp only [Act.put, List.getElem_toArray, List.getElem_cons_zero, List.getElem_cons_succ, List.setIfInBounds_toArray, List.set_cons_zero, List.set_cons_succ])))
      (simp only [wpZ])
      go_wp2
      go_ret2
      exact ⟨by rw [HF.out]; rfl, by rw [HF.out]; exact bk_close HL.out hW⟩

def lowestRel (b : Nat) (S : BS) (v : Value) (R : List Asn) (k : Nat) (wr : World) : Prop := ∃ t : Nat, t < S.rows.length ∧ S.rows.length - t ≤ k ∧ loAt S.rows t = loAt S.rows S.low ∧ (∃ j, t ≤ j ∧ j < S.rows.length ∧ S.rows.getD j [] ≠ []) ∧ Hold wr (cellsA b 67 ({ S with low := t }.cells v) :: R)

set_option maxRecDepth 20000 in
theorem lowest_ok (b : Nat) (S : BS) (hc : 1 ≤ S.cp) (hn : 0 < S.n) (ht : S.low ≤ S.top ∧ S.top < S.rows.length) (hN : ∃ j, S.low ≤ j ∧ j < S.rows.length ∧ S.rows.getD j [] ≠ []) (hR : S.rows.length ≤ 65536) (hB : ∀ t : Nat, t < S.rows.length → I64 ((t : Int) + S.base)) (w : World) (L : List Asn) (h : Hold w (bkA b S :: L)) :
    Calls Try.prog 13 #[.pointer (some ⟨b, 0, none⟩)] w fun e w' => e = .returned (.tuple #[.int .i64 ((loAt S.rows S.low : Nat) + S.base), .bool true]) ∧ Hold w' (bkA b { S with low := loAt S.rows S.low } :: L) := by
  obtain ⟨ro, rc, vs, hl, h1⟩ := bk_open h
  have hn2 : ((S.n : Int) == 0) = false := by rw [beq_eq_false_iff_ne]; omega
  obtain ⟨g0, g1, g2, g3, g4, g5, g6, g7, g8, g9, g10⟩ := bkM h1
  have P := none_ok b S hc w g3
  have HN := Lib.hid hN
  have HB := Lib.hid hB
  have HL := Lib.hid hl
  have h2 : Hold w (cellsA b 67 ({ S with low := S.low }.cells (.slice ro S.rows.length rc)) :: rowA 24 1 ro S.rows.length rc (sl S.rows vs) :: starL (rws S.rows vs) :: L) := h1
  clear hN hB hl h h1
  go_enter Try.func13, Try.ntmps13
  go_upto_block 0 with (go_at_call 29; refine P.mono ?_; rintro e w1 ⟨rfl, rfl⟩)
  clear g0 g1 g2 g3 g4 g5 g6 g7 g8 g9 g10 P
  go_wp2
  go_loopg [] (S.rows.length - S.low) (fun k wr => lowestRel b S (.slice ro S.rows.length rc) (rowA 24 1 ro S.rows.length rc (sl S.rows vs) :: starL (rws S.rows vs) :: L) k wr)
  case atStart => exact ⟨S.low, by omega, by omega, rfl, HN.out, h2⟩
  case round =>
    clear h2
    obtain ⟨t, htt, hkk, hat, hne, hr⟩ := hrel
    have htl : t < S.rows.length := by omega
    obtain ⟨xs, hxs⟩ : ∃ xs, S.rows[t]? = some xs := ⟨S.rows[t], List.getElem?_eq_getElem htl⟩
    have hgd : S.rows.getD t [] = xs := by simp [List.getD, hxs]
    obtain ⟨v, -, hv2, -⟩ := sl_get HL.out hxs
    obtain ⟨rb, ro2, rfl, hct, -⟩ := (hr.mv 1).at (by omega)
    have G : ∀ W, Hold W (cellsA b 67 ({ S with low := t }.cells (.slice (some ⟨rb, ro2, none⟩) S.rows.length rc)) :: rowA 24 1 (some ⟨rb, ro2, none⟩) S.rows.length rc (sl S.rows vs) :: starL (rws S.rows vs) :: L) →
        W.cell? ⟨b, 5, none⟩ = some (.slice (some ⟨rb, ro2, none⟩) S.rows.length rc) ∧ W.cell? ⟨b, 7, none⟩ = some (.int .i64 t) ∧ W.cell? ⟨rb, ro2 + t, none⟩ = some (.slice v.1 xs.length v.2) := fun W hW => by
      obtain ⟨rb', ro', he, hct', -⟩ := (hW.mv 1).at (by omega)
      simp only [Option.some.injEq, Addr.mk.injEq, and_true] at he
      obtain ⟨rfl, rfl⟩ := he
      exact ⟨hW.cell 5, hW.cell 7, by rw [hct' t (by omega)]; exact hv2⟩
    have HG := Lib.hid G
    have hti : (t : Int) < S.rows.length := by omega
    have ht0 : 0 ≤ (t : Int) := by omega
    have hS := hr.drew
    have HX := Lib.hid hgd
    clear G hct hv2 hgd hxs
    go_upto_region 3 with (fail)
    refine wp_region_Z (fun W => W.cell? ⟨b, 5, none⟩ = some (.slice (some ⟨rb, ro2, none⟩) S.rows.length rc) ∧ W.cell? ⟨b, 7, none⟩ = some (.int .i64 t) ∧ W.cell? ⟨rb, ro2 + t, none⟩ = some (.slice v.1 xs.length v.2)) [3, 7, 9] [] [0, 1, 2, 4, 5, 6, 8, 10, 11] [0, 1, 2, 3, 4, 5, 6, 7, 8, 9, 10, 11] (by kernel_rfl) (by kernel_rfl) ?_
    (repeat (first | (refine wpZ_st (v := ?_) _ (by rfl) (by rfl) (by rfl) (fun W hW => ?_) (by exact HG.out _ hS) ?_; (rotate_left; (focus ((try dsimp only at hW); go_simp; (try with_reducible rfl); done))); try simp only [Act.put, List.getElem_toArray, List.getElem_cons_zero, List.getElem_cons_succ, List.setIfInBounds_toArray, List.set_cons_zero, List.set_cons_succ]) | (refine wpZ_pu (v := ?_) _ (by rfl) (by rfl) (by rfl) (by rfl) (fun W => ?_) ?_; (rotate_left; (focus ((try dsimp only at hW); go_simp; (try with_reducible rfl); done))); try simp only [Act.put, List.getElem_toArray, List.getElem_cons_zero, List.getElem_cons_succ, List.setIfInBounds_toArray, List.set_cons_zero, List.set_cons_succ]) | (refine wpZ_no _ (by rfl) (by rfl) (by rfl) (by rfl) ?_; try simp only [Act.put, List.getElem_toArray, List.getElem_cons_zero, List.getElem_cons_succ, List.setIfInBounds_toArray, List.set_cons_zero, List.set_cons_succ]) | (refine wpZ_noS _ (by rfl) (by rfl) (by rfl) (by exact HG.out _ hS) ?_; try simp only [Act.put, List.getElem_toArray, List.getElem_cons_zero, List.getElem_cons_succ, List.setIfInBounds_toArray, List.set_cons_zero, List.set_cons_succ])))
    (simp only [wpZ])
    by_cases hx : xs = []
    · have hx2 : ((xs.length : Int) == 0) = true := by rw [hx]; rfl
      have hx3 : S.rows.getD t [] = [] := HX.out.trans hx
      have hne2 : ∃ j, t + 1 ≤ j ∧ j < S.rows.length ∧ S.rows.getD j [] ≠ [] := by
        obtain ⟨j, hj1, hj3, hj2⟩ := hne
        refine ⟨j, ?_, hj3, hj2⟩
        rcases Nat.lt_or_ge t j with h | h
        · omega
        · obtain rfl : j = t := by omega
          exact absurd hx3 hj2
      have ht1 : t + 1 < S.rows.length := by obtain ⟨j, hj1, hj3, hj2⟩ := hne2; omega
      have HX3 := Lib.hid hx3
      obtain ⟨-, g8, -⟩ := HG.out _ hS
      have f8 := hS.frozen 7
      have HS := hS.st 7 (.int .i64 ((t : Int) + 1))
      clear hx hx3
      go_wp2
      go_roundg (S.rows.length - (t + 1))
      case measure => omega
      case rel => exact ⟨t + 1, by omega, by omega, by rw [← hat, loAt_step HX3.out ht1], hne2, HS.as (by simp only [BS.cells, List.set_cons_succ, List.set_cons_zero]; rfl)⟩
    · have hx2 : ((xs.length : Int) == 0) = false := by rw [beq_eq_false_iff_ne]; cases xs with
        | nil => exact absurd rfl hx
        | cons a l => simp; omega
      have hfin : loAt S.rows S.low = t := by rw [← hat]; exact loAt_stop (by rw [HX.out]; exact hx) htl
      have HF := Lib.hid hfin
      obtain ⟨b1, b2⟩ := HB.out t htl
      have W1 : IntKind.i64.wrap ((t : Int) + S.base) = (t : Int) + S.base := IntWalk.i64_in _ ⟨b1, b2⟩
      obtain ⟨g0, g1, g2, g3, g4, g5, g6, g7, g8, g9, g10⟩ := bkM hS
      have hW := hS.drew
      clear hx hfin
      go_upto_region 5 with (fail)
      refine wp_region_Z (fun W => W.cell? ⟨b, 7, none⟩ = some (.int .i64 t) ∧ W.cell? ⟨b, 4, none⟩ = some (.int .i64 S.base)) [3, 7] [] [0, 1, 2, 4, 5, 6, 8, 9, 10] [0, 1, 2, 3, 4, 5, 6, 7, 8, 9, 10] (by kernel_rfl) (by kernel_rfl) ?_
      (repeat (first | (refine wpZ_st (v := ?_) _ (by rfl) (by rfl) (by rfl) (fun W hW => ?_) (by exact ⟨hW.cell 7, hW.cell 4⟩) ?_; (rotate_left; (focus ((try dsimp only at hW); go_simp; (try with_reducible rfl); done))); try simp only [Act.put, List.getElem_toArray, List.getElem_cons_zero, List.getElem_cons_succ, List.setIfInBounds_toArray, List.set_cons_zero, List.set_cons_succ]) | (refine wpZ_pu (v := ?_) _ (by rfl) (by rfl) (by rfl) (by rfl) (fun W => ?_) ?_; (rotate_left; (focus ((try dsimp only at hW); go_simp; (try with_reducible rfl); done))); try simp only [Act.put, List.getElem_toArray, List.getElem_cons_zero, List.getElem_cons_succ, List.setIfInBounds_toArray, List.set_cons_zero, List.set_cons_succ]) | (refine wpZ_no _ (by rfl) (by rfl) (by rfl) (by rfl) ?_; try simp only [Act.put, List.getElem_toArray, List.getElem_cons_zero, List.getElem_cons_succ, List.setIfInBounds_toArray, List.set_cons_zero, List.set_cons_succ]) | (refine wpZ_noS _ (by rfl) (by rfl) (by rfl) (by exact ⟨hW.cell 7, hW.cell 4⟩) ?_; try simp only [Act.put, List.getElem_toArray, List.getElem_cons_zero, List.getElem_cons_succ, List.setIfInBounds_toArray, List.set_cons_zero, List.set_cons_succ])))
      (simp only [wpZ])
      go_wp2
      go_ret2
      exact ⟨by rw [HF.out]; rfl, by rw [HF.out]; exact bk_close HL.out hW⟩

end Go.Proofs.Ytpffofliemooiaa
