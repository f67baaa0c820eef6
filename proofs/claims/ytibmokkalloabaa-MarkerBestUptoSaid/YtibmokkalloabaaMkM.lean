/- Contracts: sidelobes. -/
import Derived.Test.YtibmokkalloabaaMkH
import Derived.Laws.Cover1
open Go.RowKit Go.Own
namespace Go.Proofs.Ytibmokkalloabaa

/-- How the first j bits agree with those k places on. -/
def agr (B n k : Nat) : Nat → Int
  | 0 => 0
  | j + 1 => agr B n k j + if bitOf B n j = bitOf B n (j + k) then 1 else -1
theorem agr_le (B n k : Nat) : ∀ j : Nat, -(j : Int) ≤ agr B n k j ∧ agr B n k j ≤ j
  | 0 => by simp [agr]
  | j + 1 => by
    have := agr_le B n k j
    simp only [agr]
    split <;> omega
/-- The worst of the first j shifts. -/
def side (B n : Nat) : Nat → Int
  | 0 => 0
  | j + 1 => max (side B n j) (max (agr B n (j + 1) (n - (j + 1))) (-(agr B n (j + 1) (n - (j + 1)))))
theorem side_le (B n : Nat) : ∀ j : Nat, 0 ≤ side B n j ∧ side B n j ≤ n
  | 0 => by simp [side]
  | j + 1 => by
    have := side_le B n j
    have := agr_le B n (j + 1) (n - (j + 1))
    simp only [side]
    omega

def SideRel (B n : Nat) (R : List Asn) (m i : Value) (wr : World) : Prop := ∃ j : Nat, j < n ∧ i = .int .i64 ((j : Int) + 1) ∧ m = .int .i64 (side B n j) ∧ Hold wr R
def AgrRel (B n k : Nat) (R : List Asn) (s i : Value) (wr : World) : Prop := ∃ j : Nat, j ≤ n - k ∧ i = .int .i64 j ∧ s = .int .i64 (agr B n k j) ∧ Hold wr R

set_option maxHeartbeats 1000000 in
set_option maxRecDepth 20000 in
theorem side_ok (B n : Nat) (hB : B < 18446744073709551616) (hc : markE B n = 0) (hn : n ≤ 64) (hn1 : 1 ≤ n) (w : World) (L : List Asn) (h : Hold w L) :
    Calls Try.prog 23 #[.agg #[.int .u64 B, .int .i64 n]] w fun e w' => e = .returned (.tuple #[.int .i64 (side B n (n - 1)), .int .i64 0]) ∧ Hold w' L := by
  have hb := h.box 24 [.int .u64 B, .int .i64 n]
  have PC := fun w L h => check_ok B n hB w L h
  rw [hc] at PC
  go_enter Try.func23, Try.ntmps23
  go_upto_region 1 with (fail)
  refine gen_world hb (fun w1 hb => ?_)
  generalize w.heap.size = q at *
  obtain ⟨g0, g1⟩ := loadM hb
  go_wp2_with (go_at_call 25; refine (PC _ _ hb).mono ?_; rintro e w2 ⟨rfl, h2⟩)
  clear g0 g1 PC hb h
  go_loopw [5, 6] (fun m i wr => SideRel B n (cellsA q 24 [.int .u64 B, .int .i64 n] :: L) m i wr) (fun _ i _ => n - (intOf i).toNat)
  case atStart => exact ⟨0, by omega, rfl, rfl, h2⟩
  case round =>
    clear h2
    obtain ⟨j, hj, rfl, rfl, hr⟩ := hrel
    obtain ⟨wo, hwo⟩ : ∃ x, x = wr := ⟨_, rfl⟩; subst hwo
    have hs := side_le B n j
    by_cases hlt : j + 1 < n
    · have hki : (j : Int) + 1 < n := by omega
      obtain ⟨g0, g1⟩ := loadM hr
      go_wp2
      clear g0 g1
      go_loopw [7, 24] (fun s i wr => AgrRel B n (j + 1) (cellsA q 24 [.int .u64 B, .int .i64 n] :: L) s i wr) (fun _ i _ => (n - (j + 1)) - (intOf i).toNat)
      case atStart => exact ⟨0, by omega, rfl, rfl, hr⟩
      case round =>
        clear hr
        obtain ⟨i, hi, rfl, rfl, hr⟩ := hrel
        have ha := agr_le B n (j + 1) i
        by_cases hil : i < n - (j + 1)
        · have hii : (i : Int) < n - ((j : Int) + 1) := by omega
          have hnn : (n : Int) ≤ 64 := by omega
          have P1 := fun w L h => bit_ok B n i hB hn (by omega) w L h
          have P2 := fun w L h => bit_ok B n (i + (j + 1)) hB hn (by omega) w L h
          have hcast : ((i + (j + 1) : Nat) : Int) = (i : Int) + ((j : Int) + 1) := by omega
          rw [hcast] at P2
          have HA : agr B n (j + 1) (i + 1) = agr B n (j + 1) i + if bitOf B n i = bitOf B n (i + (j + 1)) then 1 else -1 := rfl
          have hS := hr.drew
          obtain ⟨g0, g1⟩ := loadM hS
          generalize bitOf B n i = x at *
          generalize bitOf B n (i + (j + 1)) = y at *
          have HA2 := Lib.hid HA
          clear HA
          generalize agr B n (j + 1) i = s at *
          clear hcast
          have W1 : IntKind.i64.wrap ((i : Int) + ((j : Int) + 1)) = (i : Int) + ((j : Int) + 1) := IntWalk.i64_in _ (by omega)
          go_upto_region 12 with (fail)
          refine wp_region_Z (fun W => W.cell? ⟨q, 0, none⟩ = some (.int .u64 B) ∧ W.cell? ⟨q, 1, none⟩ = some (.int .i64 n)) [0, 3] [] [1, 4, 5, 6, 8] [0, 1, 3, 4, 5, 6, 2, 7, 8] (by kernel_rfl) (by kernel_rfl) ?_
          (repeat (first | (refine wpZ_st (v := ?_) _ (by rfl) (by rfl) (by rfl) (fun W hW => ?_) ⟨g0, g1⟩ ?_; (rotate_left; (focus ((try dsimp only at hW); go_simp; (try with_reducible rfl); done))); try simp only [Act.put, List.getElem_toArray, List.getElem_cons_zero, List.getElem_cons_succ, List.setIfInBounds_toArray, List.set_cons_zero, List.set_cons_succ]) | (refine wpZ_pu (v := ?_) _ (by rfl) (by rfl) (by rfl) (by rfl) (fun W => ?_) ?_; (rotate_left; (focus ((try dsimp only at hW); go_simp; (try with_reducible rfl); done))); try simp only [Act.put, List.getElem_toArray, List.getElem_cons_zero, List.getElem_cons_succ, List.setIfInBounds_toArray, List.set_cons_zero, List.set_cons_succ]) | (refine wpZ_no _ (by rfl) (by rfl) (by rfl) (by rfl) ?_; try simp only [Act.put, List.getElem_toArray, List.getElem_cons_zero, List.getElem_cons_succ, List.setIfInBounds_toArray, List.set_cons_zero, List.set_cons_succ]) | (refine wpZ_noS _ (by rfl) (by rfl) (by rfl) ⟨g0, g1⟩ ?_; try simp only [Act.put, List.getElem_toArray, List.getElem_cons_zero, List.getElem_cons_succ, List.setIfInBounds_toArray, List.set_cons_zero, List.set_cons_succ])))
          refine wpZ_eff _ (by rfl) (by rfl) (by rfl) (by rfl) (fun K hK => ?_)
          go_simp
          refine (P1 _ _ hS).mono ?_
          rintro e w5 ⟨rfl, h5⟩
          dsimp only
          (refine hK _ _ (fun hl => ?_) ?_; (first | (focus (cases hl; done)) | exact (loadM h5)); clear hK K; try simp only [Act.put, List.getElem_toArray, List.getElem_cons_zero, List.getElem_cons_succ, List.setIfInBounds_toArray, List.set_cons_zero, List.set_cons_succ])
          (repeat (first | (refine wpZ_st (v := ?_) _ (by rfl) (by rfl) (by rfl) (fun W hW => ?_) (loadM h5) ?_; (rotate_left; (focus ((try dsimp only at hW); go_simp; (try with_reducible rfl); done))); try simp only [Act.put, List.getElem_toArray, List.getElem_cons_zero, List.getElem_cons_succ, List.setIfInBounds_toArray, List.set_cons_zero, List.set_cons_succ]) | (refine wpZ_pu (v := ?_) _ (by rfl) (by rfl) (by rfl) (by rfl) (fun W => ?_) ?_; (rotate_left; (focus ((try dsimp only at hW); go_simp; (try with_reducible rfl); done))); try simp only [Act.put, List.getElem_toArray, List.getElem_cons_zero, List.getElem_cons_succ, List.setIfInBounds_toArray, List.set_cons_zero, List.set_cons_succ]) | (refine wpZ_no _ (by rfl) (by rfl) (by rfl) (by rfl) ?_; try simp only [Act.put, List.getElem_toArray, List.getElem_cons_zero, List.getElem_cons_succ, List.setIfInBounds_toArray, List.set_cons_zero, List.set_cons_succ]) | (refine wpZ_noS _ (by rfl) (by rfl) (by rfl) (loadM h5) ?_; try simp only [Act.put, List.getElem_toArray, List.getElem_cons_zero, List.getElem_cons_succ, List.setIfInBounds_toArray, List.set_cons_zero, List.set_cons_succ])))
          refine wpZ_eff _ (by rfl) (by rfl) (by rfl) (by rfl) (fun K hK => ?_)
          go_simp
          refine (P2 _ _ h5).mono ?_
          rintro e w6 ⟨rfl, h6⟩
          dsimp only
          (refine hK _ _ (fun hl => ?_) ?_; (first | (focus (cases hl; done)) | exact (loadM h6)); clear hK K; try simp only [Act.put, List.getElem_toArray, List.getElem_cons_zero, List.getElem_cons_succ, List.setIfInBounds_toArray, List.set_cons_zero, List.set_cons_succ])
          (repeat (first | (refine wpZ_st (v := ?_) _ (by rfl) (by rfl) (by rfl) (fun W hW => ?_) (loadM h6) ?_; (rotate_left; (focus ((try dsimp only at hW); go_simp; (try with_reducible rfl); done))); try simp only [Act.put, List.getElem_toArray, List.getElem_cons_zero, List.getElem_cons_succ, List.setIfInBounds_toArray, List.set_cons_zero, List.set_cons_succ]) | (refine wpZ_pu (v := ?_) _ (by rfl) (by rfl) (by rfl) (by rfl) (fun W => ?_) ?_; (rotate_left; (focus ((try dsimp only at hW); go_simp; (try with_reducible rfl); done))); try simp only [Act.put, List.getElem_toArray, List.getElem_cons_zero, List.getElem_cons_succ, List.setIfInBounds_toArray, List.set_cons_zero, List.set_cons_succ]) | (refine wpZ_no _ (by rfl) (by rfl) (by rfl) (by rfl) ?_; try simp only [Act.put, List.getElem_toArray, List.getElem_cons_zero, List.getElem_cons_succ, List.setIfInBounds_toArray, List.set_cons_zero, List.set_cons_succ]) | (refine wpZ_noS _ (by rfl) (by rfl) (by rfl) (loadM h6) ?_; try simp only [Act.put, List.getElem_toArray, List.getElem_cons_zero, List.getElem_cons_succ, List.setIfInBounds_toArray, List.set_cons_zero, List.set_cons_succ])))
          (simp only [wpZ])
          clear hS P1 P2 g0 g1 W1 h5
          by_cases e : x = y
          · have hxy : ((x : Int) == (y : Int)) = true := by rw [e]; simp
            rw [if_pos e] at HA2
            clear e
            go_wp2
            go_roundw
            case rel => exact ⟨i + 1, by omega, by go_num, by rw [HA2.out], h6⟩
            case measure => simp [intOf]; omega
          · have hxy : ((x : Int) == (y : Int)) = false := by rw [beq_eq_false_iff_ne]; omega
            rw [if_neg e] at HA2
            clear e
            go_wp2
            go_roundw
            case rel => exact ⟨i + 1, by omega, by go_num, by rw [HA2.out]; go_num, h6⟩
            case measure => simp [intOf]; omega
        · obtain rfl : i = n - (j + 1) := by omega
          have hii : ¬ ((n - (j + 1) : Nat) : Int) < n - ((j : Int) + 1) := by omega
          have HS : side B n (j + 1) = max (side B n j) (max (agr B n (j + 1) (n - (j + 1))) (-(agr B n (j + 1) (n - (j + 1))))) := rfl
          generalize agr B n (j + 1) (n - (j + 1)) = s at *
          generalize side B n j = m at *
          have HS2 := Lib.hid HS
          clear HS
          have hmx : ∀ w, (Builtin.max_ #[3, 3, 3] 3 #[.int .i64 m, .int .i64 s, .int .i64 (-s)]).run Try.prog w = .ok (.int .i64 (max m (max s (-s)))) w := fun w => by
            rw [Go.run_max_int3]; congr 2; split <;> split <;> omega
          go_wp2
          go_roundw
          case rel => exact ⟨j + 1, by omega, by go_num, by rw [HS2.out], hr⟩
          case measure => simp [intOf]; omega
    · obtain rfl : n = j + 1 := by omega
      obtain ⟨g0, g1⟩ := loadM hr
      have hki : ¬ (j : Int) + 1 < ((j + 1 : Nat) : Int) := by omega
      go_wp2
      go_ret2
      exact ⟨rfl, hr.drop⟩

set_option maxHeartbeats 1000000 in
set_option maxRecDepth 20000 in
theorem rside_ok (B n : Nat) (hB : B < 18446744073709551616) (hc : markE B n = 0) (hn : n ≤ 64) (hn1 : 1 ≤ n) (w : World) (L : List Asn) (h : Hold w L) :
    Calls Try.prog 24 #[.agg #[.int .u64 B, .int .i64 n]] w fun e w' => e = .returned (.tuple #[.int .i64 (side B n (n - 1)), .int .i64 0]) ∧ Hold w' L := by
  have hb := h.box 24 [.int .u64 B, .int .i64 n]
  have PC := fun w L h => rcheck_ok B n hB w L h
  rw [hc] at PC
  go_enter Try.func24, Try.ntmps24
  go_upto_region 1 with (fail)
  refine gen_world hb (fun w1 hb => ?_)
  generalize w.heap.size = q at *
  obtain ⟨g0, g1⟩ := loadM hb
  go_wp2_with (go_at_call 26; refine (PC _ _ hb).mono ?_; rintro e w2 ⟨rfl, h2⟩)
  clear g0 g1 PC hb h
  go_loopw [5, 6] (fun m i wr => SideRel B n (cellsA q 24 [.int .u64 B, .int .i64 n] :: L) m i wr) (fun _ i _ => n - (intOf i).toNat)
  case atStart => exact ⟨0, by omega, rfl, rfl, h2⟩
  case round =>
    clear h2
    obtain ⟨j, hj, rfl, rfl, hr⟩ := hrel
    obtain ⟨wo, hwo⟩ : ∃ x, x = wr := ⟨_, rfl⟩; subst hwo
    have hs := side_le B n j
    by_cases hlt : j + 1 < n
    · have hki : (j : Int) + 1 < n := by omega
      obtain ⟨g0, g1⟩ := loadM hr
      go_wp2
      clear g0 g1
      go_loopw [7, 8] (fun s i wr => AgrRel B n (j + 1) (cellsA q 24 [.int .u64 B, .int .i64 n] :: L) s i wr) (fun _ i _ => (n - (j + 1)) - (intOf i).toNat)
      case atStart => exact ⟨0, by omega, rfl, rfl, hr⟩
      case round =>
        clear hr
        obtain ⟨i, hi, rfl, rfl, hr⟩ := hrel
        have ha := agr_le B n (j + 1) i
        by_cases hil : i < n - (j + 1)
        · have hii : (i : Int) + ((j : Int) + 1) < n := by omega
          obtain ⟨k0, k1⟩ := loadM hr
          have hnn : (n : Int) ≤ 64 := by omega
          have P1 := fun w L h => rbit_ok B n i hB hn (by omega) w L h
          have P2 := fun w L h => rbit_ok B n (i + (j + 1)) hB hn (by omega) w L h
          have hcast : ((i + (j + 1) : Nat) : Int) = (i : Int) + ((j : Int) + 1) := by omega
          rw [hcast] at P2
          have HA : agr B n (j + 1) (i + 1) = agr B n (j + 1) i + if bitOf B n i = bitOf B n (i + (j + 1)) then 1 else -1 := rfl
          have hS := hr.drew
          obtain ⟨g0, g1⟩ := loadM hS
          generalize bitOf B n i = x at *
          generalize bitOf B n (i + (j + 1)) = y at *
          have HA2 := Lib.hid HA
          clear HA
          generalize agr B n (j + 1) i = s at *
          clear hcast
          have W1 : IntKind.i64.wrap ((i : Int) + ((j : Int) + 1)) = (i : Int) + ((j : Int) + 1) := IntWalk.i64_in _ (by omega)
          go_upto_region 12 with (fail)
          refine wp_region_Z (fun W => W.cell? ⟨q, 0, none⟩ = some (.int .u64 B) ∧ W.cell? ⟨q, 1, none⟩ = some (.int .i64 n)) [0, 3] [] [1, 4, 5, 6, 8] [0, 1, 3, 4, 5, 6, 2, 7, 8] (by kernel_rfl) (by kernel_rfl) ?_
          (repeat (first | (refine wpZ_st (v := ?_) _ (by rfl) (by rfl) (by rfl) (fun W hW => ?_) ⟨g0, g1⟩ ?_; (rotate_left; (focus ((try dsimp only at hW); go_simp; (try with_reducible rfl); done))); try simp only [Act.put, List.getElem_toArray, List.getElem_cons_zero, List.getElem_cons_succ, List.setIfInBounds_toArray, List.set_cons_zero, List.set_cons_succ]) | (refine wpZ_pu (v := ?_) _ (by rfl) (by rfl) (by rfl) (by rfl) (fun W => ?_) ?_; (rotate_left; (focus ((try dsimp only at hW); go_simp; (try with_reducible rfl); done))); try simp only [Act.put, List.getElem_toArray, List.getElem_cons_zero, List.getElem_cons_succ, List.setIfInBounds_toArray, List.set_cons_zero, List.set_cons_succ]) | (refine wpZ_no _ (by rfl) (by rfl) (by rfl) (by rfl) ?_; try simp only [Act.put, List.getElem_toArray, List.getElem_cons_zero, List.getElem_cons_succ, List.setIfInBounds_toArray, List.set_cons_zero, List.set_cons_succ]) | (refine wpZ_noS _ (by rfl) (by rfl) (by rfl) ⟨g0, g1⟩ ?_; try simp only [Act.put, List.getElem_toArray, List.getElem_cons_zero, List.getElem_cons_succ, List.setIfInBounds_toArray, List.set_cons_zero, List.set_cons_succ])))
          refine wpZ_eff _ (by rfl) (by rfl) (by rfl) (by rfl) (fun K hK => ?_)
          go_simp
          refine (P1 _ _ hS).mono ?_
          rintro e w5 ⟨rfl, h5⟩
          dsimp only
          (refine hK _ _ (fun hl => ?_) ?_; (first | (focus (cases hl; done)) | exact (loadM h5)); clear hK K; try simp only [Act.put, List.getElem_toArray, List.getElem_cons_zero, List.getElem_cons_succ, List.setIfInBounds_toArray, List.set_cons_zero, List.set_cons_succ])
          (repeat (first | (refine wpZ_st (v := ?_) _ (by rfl) (by rfl) (by rfl) (fun W hW => ?_) (loadM h5) ?_; (rotate_left; (focus ((try dsimp only at hW); go_simp; (try with_reducible rfl); done))); try simp only [Act.put, List.getElem_toArray, List.getElem_cons_zero, List.getElem_cons_succ, List.setIfInBounds_toArray, List.set_cons_zero, List.set_cons_succ]) | (refine wpZ_pu (v := ?_) _ (by rfl) (by rfl) (by rfl) (by rfl) (fun W => ?_) ?_; (rotate_left; (focus ((try dsimp only at hW); go_simp; (try with_reducible rfl); done))); try simp only [Act.put, List.getElem_toArray, List.getElem_cons_zero, List.getElem_cons_succ, List.setIfInBounds_toArray, List.set_cons_zero, List.set_cons_succ]) | (refine wpZ_no _ (by rfl) (by rfl) (by rfl) (by rfl) ?_; try simp only [Act.put, List.getElem_toArray, List.getElem_cons_zero, List.getElem_cons_succ, List.setIfInBounds_toArray, List.set_cons_zero, List.set_cons_succ]) | (refine wpZ_noS _ (by rfl) (by rfl) (by rfl) (loadM h5) ?_; try simp only [Act.put, List.getElem_toArray, List.getElem_cons_zero, List.getElem_cons_succ, List.setIfInBounds_toArray, List.set_cons_zero, List.set_cons_succ])))
          refine wpZ_eff _ (by rfl) (by rfl) (by rfl) (by rfl) (fun K hK => ?_)
          go_simp
          refine (P2 _ _ h5).mono ?_
          rintro e w6 ⟨rfl, h6⟩
          dsimp only
          (refine hK _ _ (fun hl => ?_) ?_; (first | (focus (cases hl; done)) | exact (loadM h6)); clear hK K; try simp only [Act.put, List.getElem_toArray, List.getElem_cons_zero, List.getElem_cons_succ, List.setIfInBounds_toArray, List.set_cons_zero, List.set_cons_succ])
          (repeat (first | (refine wpZ_st (v := ?_) _ (by rfl) (by rfl) (by rfl) (fun W hW => ?_) (loadM h6) ?_; (rotate_left; (focus ((try dsimp only at hW); go_simp; (try with_reducible rfl); done))); try simp only [Act.put, List.getElem_toArray, List.getElem_cons_zero, List.getElem_cons_succ, List.setIfInBounds_toArray, List.set_cons_zero, List.set_cons_succ]) | (refine wpZ_pu (v := ?_) _ (by rfl) (by rfl) (by rfl) (by rfl) (fun W => ?_) ?_; (rotate_left; (focus ((try dsimp only at hW); go_simp; (try with_reducible rfl); done))); try simp only [Act.put, List.getElem_toArray, List.getElem_cons_zero, List.getElem_cons_succ, List.setIfInBounds_toArray, List.set_cons_zero, List.set_cons_succ]) | (refine wpZ_no _ (by rfl) (by rfl) (by rfl) (by rfl) ?_; try simp only [Act.put, List.getElem_toArray, List.getElem_cons_zero, List.getElem_cons_succ, List.setIfInBounds_toArray, List.set_cons_zero, List.set_cons_succ]) | (refine wpZ_noS _ (by rfl) (by rfl) (by rfl) (loadM h6) ?_; try simp only [Act.put, List.getElem_toArray, List.getElem_cons_zero, List.getElem_cons_succ, List.setIfInBounds_toArray, List.set_cons_zero, List.set_cons_succ])))
          (simp only [wpZ])
          clear hS P1 P2 g0 g1 W1 h5
          by_cases e : x = y
          · have hxy : ((x : Int) == (y : Int)) = true := by rw [e]; simp
            rw [if_pos e] at HA2
            clear e
            go_wp2
            go_roundw
            case rel => exact ⟨i + 1, by omega, by go_num, by rw [HA2.out], h6⟩
            case measure => simp [intOf]; omega
          · have hxy : ((x : Int) == (y : Int)) = false := by rw [beq_eq_false_iff_ne]; omega
            rw [if_neg e] at HA2
            clear e
            go_wp2
            go_roundw
            case rel => exact ⟨i + 1, by omega, by go_num, by rw [HA2.out]; go_num, h6⟩
            case measure => simp [intOf]; omega
        · obtain rfl : i = n - (j + 1) := by omega
          have hii : ¬ ((n - (j + 1) : Nat) : Int) + ((j : Int) + 1) < n := by omega
          have HS : side B n (j + 1) = max (side B n j) (max (agr B n (j + 1) (n - (j + 1))) (-(agr B n (j + 1) (n - (j + 1))))) := rfl
          generalize agr B n (j + 1) (n - (j + 1)) = s at *
          generalize side B n j = m at *
          have HS2 := Lib.hid HS
          clear HS
          obtain ⟨k0, k1⟩ := loadM hr
          rcases Int.lt_or_le s 0 with h1 | h1
          · rcases Int.lt_or_le m (-s) with h2 | h2
            all_goals
              go_wp2
              go_roundw
              case rel => exact ⟨j + 1, by omega, by go_num, by rw [HS2.out]; congr 1; omega, hr⟩
              case measure => simp [intOf]; omega
          · rcases Int.lt_or_le m s with h2 | h2
            all_goals
              go_wp2
              go_roundw
              case rel => exact ⟨j + 1, by omega, by go_num, by rw [HS2.out]; congr 1; omega, hr⟩
              case measure => simp [intOf]; omega
    · obtain rfl : n = j + 1 := by omega
      obtain ⟨g0, g1⟩ := loadM hr
      have hki : ¬ (j : Int) + 1 < ((j + 1 : Nat) : Int) := by omega
      go_wp2
      go_ret2
      exact ⟨rfl, hr.drop⟩

/-- What Sidelobe answers. -/
def sideV (B : Nat) (n : Int) : Int := if markE B n = 0 then side B n.toNat (n.toNat - 1) else 0
theorem markE_zero {B : Nat} {n : Int} (h : markE B n = 0) : ∃ m : Nat, n = m ∧ 1 ≤ m ∧ m ≤ 64 := by
  unfold markE at h
  split at h
  · cases h
  · exact ⟨n.toNat, by omega, by omega, by omega⟩

theorem sidelobe_ok (B : Nat) (n : Int) (hB : B < 18446744073709551616) (w : World) (L : List Asn) (h : Hold w L) :
    Calls Try.prog 23 #[.agg #[.int .u64 B, .int .i64 n]] w fun e w' => e = .returned (.tuple #[.int .i64 (sideV B n), .int .i64 (markE B n)]) ∧ Hold w' L := by
  unfold sideV
  rcases markE_or B n with h0 | h0
  · obtain ⟨m, rfl, h1, h2⟩ := markE_zero h0
    rw [h0, if_pos rfl]
    exact side_ok B m hB h0 h2 h1 w L h
  · rw [h0, if_neg (by omega)]
    have hb := h.box 24 [.int .u64 B, .int .i64 n]
    have PC := fun w L h => check_ok B n hB w L h
    rw [h0] at PC
    go_enter Try.func23, Try.ntmps23
    go_upto_region 1 with (fail)
    refine gen_world hb (fun w1 hb => ?_)
    generalize w.heap.size = q at *
    obtain ⟨g0, g1⟩ := loadM hb
    go_wp2_with (go_at_call 25; refine (PC _ _ hb).mono ?_; rintro e w2 ⟨rfl, h2⟩)
    go_ret2
    exact ⟨rfl, h2.drop⟩

theorem rsidelobe_ok (B : Nat) (n : Int) (hB : B < 18446744073709551616) (w : World) (L : List Asn) (h : Hold w L) :
    Calls Try.prog 24 #[.agg #[.int .u64 B, .int .i64 n]] w fun e w' => e = .returned (.tuple #[.int .i64 (sideV B n), .int .i64 (markE B n)]) ∧ Hold w' L := by
  unfold sideV
  rcases markE_or B n with h0 | h0
  · obtain ⟨m, rfl, h1, h2⟩ := markE_zero h0
    rw [h0, if_pos rfl]
    exact rside_ok B m hB h0 h2 h1 w L h
  · rw [h0, if_neg (by omega)]
    have hb := h.box 24 [.int .u64 B, .int .i64 n]
    have PC := fun w L h => rcheck_ok B n hB w L h
    rw [h0] at PC
    go_enter Try.func24, Try.ntmps24
    go_upto_region 1 with (fail)
    refine gen_world hb (fun w1 hb => ?_)
    generalize w.heap.size = q at *
    obtain ⟨g0, g1⟩ := loadM hb
    go_wp2_with (go_at_call 26; refine (PC _ _ hb).mono ?_; rintro e w2 ⟨rfl, h2⟩)
    go_ret2
    exact ⟨rfl, h2.drop⟩

end Go.Proofs.Ytibmokkalloabaa
