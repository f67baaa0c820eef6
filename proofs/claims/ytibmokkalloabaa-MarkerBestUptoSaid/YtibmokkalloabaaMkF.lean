/- Contracts: a marker's bits as a row. -/
import Derived.Test.YtibmokkalloabaaMkE
open Go.RowKit Go.Own
namespace Go.Proofs.Ytibmokkalloabaa

theorem info5 : (Try.prog.info? 5).map (fun i => (i.zero, i.size, i.bytes)) = some (some (.int .u8 0), 1, 1) := by kernel_rfl

/-- The first k bits laid, zeros behind them. -/
def rowF (B n k : Nat) : List Value := (List.range n).map fun i => .int .u8 ((if i < k then bitOf B n i else 0 : Nat) : Int)
theorem rowF_set (B n k : Nat) : (rowF B n k).set k (.int .u8 (bitOf B n k : Int)) = rowF B n (k + 1) := by
  apply List.ext_getElem?
  intro j
  rw [List.getElem?_set]
  unfold rowF
  by_cases hj : j < n
  · by_cases e : k = j
    · subst e; simp [hj]
    · rw [if_neg e]
      simp only [List.getElem?_map, List.getElem?_range hj, Option.map_some]
      by_cases h1 : j < k
      · rw [if_pos h1, if_pos (by omega)]
      · rw [if_neg h1, if_neg (by omega)]
  · have h1 : ((List.range n).map fun i => Value.int .u8 ((if i < k + 1 then bitOf B n i else 0 : Nat) : Int))[j]? = none := by simp; omega
    rw [h1]
    by_cases e : k = j
    · subst e; rw [if_pos rfl, if_neg (by simp; omega)]
    · rw [if_neg e]; simp; omega

def RowRel (B n : Nat) (ao : Option Addr) (q : Nat) (L : List Asn) (i : Value) (wr : World) : Prop := ∃ k : Nat, k ≤ n ∧ i = .int .i64 k ∧ Hold wr (rowA 5 1 ao n n (rowF B n k) :: cellsA q 24 [.int .u64 B, .int .i64 n] :: L)
theorem rowF_zero (B n : Nat) : rowF B n 0 = ((madeCells (Value.int .u8 0).cells (n * 1)).toList).take (n * 1) := by
  have e : (Value.int .u8 0).cells = #[.int .u8 0] := rfl
  rw [e]
  unfold madeCells
  apply List.ext_getElem?
  intro j
  by_cases hj : j < n
  · simp [rowF, hj, Nat.mod_one]
  · simp [rowF, hj, Nat.mod_one]

set_option maxRecDepth 20000 in
theorem row_ok (B n : Nat) (hB : B < 18446744073709551616) (hc : markE B n = 0) (hn : n ≤ 64) (hn1 : 1 ≤ n) (w : World) (L : List Asn) (h : Hold w L) :
    Calls Try.prog 18 #[.agg #[.int .u64 B, .int .i64 n]] w fun e w' => ∃ ao, e = .returned (.tuple #[.slice ao n n, .int .i64 0]) ∧ Hold w' (rowA 5 1 ao n n (rowF B n n) :: L) := by
  obtain ⟨i5, hi, hz0, hz1, hz2⟩ := info_parts info5
  have hb := h.box 24 [.int .u64 B, .int .i64 n]
  have PC := fun w L h => check_ok B n hB w L h
  rw [hc] at PC
  have HZ := Lib.hid (rowF_zero B n)
  go_enter Try.func18, Try.ntmps18
  go_upto_region 1 with (fail)
  refine gen_world hb (fun w1 hb => ?_)
  generalize w.heap.size = q at *
  obtain ⟨g0, g1⟩ := loadM hb
  go_upto_region 4 with (go_at_call 25; refine (PC _ _ hb).mono ?_; rintro e w2 ⟨rfl, h2⟩)
  obtain ⟨g0, g1⟩ := loadM h2
  go_upto_region 5 with ((with_reducible refine wpList_plain (o := ⟨some 14, _, _, _, _, _⟩) rfl (fun K hK => ?_)); refine wp_make_h _ _ 38 (by rfl) 5 i5 (.int .u8 0) 1 1 Try.underlying38 hi hz0 hz1 hz2 .i64 .i64 n n (by rfl) (by rfl) (by omega) (by omega) (by omega) (by omega) h2 (fun ao w3 h3 => ?_); refine hK _ _ ?_; clear hK K)
  simp only [Int.toNat_natCast] at h3
  rw [← HZ.out] at h3
  obtain ⟨g0, g1⟩ := loadM (h3.mv 1)
  clear h2 hb PC
  go_wp2
  clear g0 g1
  go_loopw [17] (fun i wr => RowRel B n ao q L i wr) (fun i _ => n - (intOf i).toNat)
  case atStart => exact ⟨0, by omega, rfl, h3⟩
  case round =>
    clear h3
    obtain ⟨k, hk, rfl, hr⟩ := hrel
    by_cases hlt : k < n
    · have hki : (k : Int) < n := by omega
      obtain ⟨rb, ro, rfl, hct, hft⟩ := hr.at (by omega)
      obtain ⟨g0, g1⟩ := loadM (hr.mv 1)
      have P := fun w L h => bit_ok B n k hB hn hlt w L h
      have HE := Lib.hid (rowF_set B n k)
      have e0 : (rowF B n k)[k]? = some (.int .u8 0) := by simp [rowF, hlt]
      clear hct hft
      go_upto_region 9 with (go_at_call 36; refine (P _ _ hr).mono ?_; rintro e w4 ⟨rfl, h4⟩; obtain ⟨tb, tq, he, hct, hft⟩ := h4.at (by omega); simp only [Option.some.injEq, Addr.mk.injEq, and_true] at he; obtain ⟨rfl, rfl⟩ := he; have f1 := hft (ro + k); have c1 := (hct k (by omega)).trans e0; have HX := h4.put k (by omega) (.int .u8 (bitOf B n k)); rw [HE.out] at HX)
      go_wp2
      go_roundw
      case rel => exact ⟨k + 1, by omega, by go_num, HX⟩
      case measure => simp [intOf]; omega
    · obtain rfl : n = k := by omega
      go_wp2
      go_ret2
      exact ⟨ao, rfl, hr.mv 1 |>.drop⟩

end Go.Proofs.Ytibmokkalloabaa
