/- Contracts: rows of markers, whatever they are. -/
import Derived.Test.YtibmokkalloabaaMkM
open Go.RowKit Go.Own
namespace Go.Proofs.Ytibmokkalloabaa

set_option maxRecDepth 20000 in
theorem rrow_s (B n : Nat) (hB : B < 18446744073709551616) (hc : markE B n = 0) (hn : n ≤ 64) (hn1 : 1 ≤ n) (w : World) (L : List Asn) (h : Hold w L) :
    Calls Try.prog 22 #[.agg #[.int .u64 B, .int .i64 n]] w fun e w' => ∃ ao, e = .returned (.tuple #[.slice ao n n, .int .i64 0]) ∧ Hold w' (rowA 5 1 ao n n (rowF B n n) :: L) := by
  obtain ⟨i5, hi, hz0, hz1, hz2⟩ := info_parts info5
  have hb := h.box 24 [.int .u64 B, .int .i64 n]
  have PC := fun w L h => rcheck_ok B n hB w L h
  rw [hc] at PC
  have HZ := Lib.hid (rowF_zero B n)
  go_enter Try.func22, Try.ntmps22
  go_upto_region 1 with (fail)
  refine gen_world hb (fun w1 hb => ?_)
  generalize w.heap.size = q at *
  obtain ⟨g0, g1⟩ := loadM hb
  go_upto_region 4 with (go_at_call 26; refine (PC _ _ hb).mono ?_; rintro e w2 ⟨rfl, h2⟩)
  obtain ⟨g0, g1⟩ := loadM h2
  go_upto_region 5 with ((with_reducible refine wpList_plain (o := ⟨some 14, _, _, _, _, _⟩) rfl (fun K hK => ?_)); refine wp_make_h _ _ 38 (by rfl) 5 i5 (.int .u8 0) 1 1 Try.underlying38 hi hz0 hz1 hz2 .i64 .i64 n n (by rfl) (by rfl) (by omega) (by omega) (by omega) (by omega) h2 (fun ao w3 h3 => ?_); refine hK _ _ ?_; clear hK K)
  simp only [Int.toNat_natCast] at h3
  rw [← HZ.out] at h3
  obtain ⟨g0, g1⟩ := loadM (h3.mv 1)
  clear h2 hb PC
  go_wp2
  clear g0 g1
  go_loopw [6] (fun i wr => RowRel B n ao q L i wr) (fun i _ => n - (intOf i).toNat)
  case atStart => exact ⟨0, by omega, rfl, h3⟩
  case round =>
    clear h3
    obtain ⟨k, hk, rfl, hr⟩ := hrel
    by_cases hlt : k < n
    · have hki : (k : Int) < n := by omega
      obtain ⟨rb, ro, rfl, hct, hft⟩ := hr.at (by omega)
      obtain ⟨g0, g1⟩ := loadM (hr.mv 1)
      have P := fun w L h => rbit_ok B n k hB hn hlt w L h
      have HE := Lib.hid (rowF_set B n k)
      have e0 : (rowF B n k)[k]? = some (.int .u8 0) := by simp [rowF, hlt]
      clear hct hft
      go_upto_region 7 with (go_at_call 40; refine (P _ _ hr).mono ?_; rintro e w4 ⟨rfl, h4⟩; obtain ⟨tb, tq, he, hct, hft⟩ := h4.at (by omega); simp only [Option.some.injEq, Addr.mk.injEq, and_true] at he; obtain ⟨rfl, rfl⟩ := he; have f1 := hft (ro + k); have c1 := (hct k (by omega)).trans e0; have HX := h4.put k (by omega) (.int .u8 (bitOf B n k)); rw [HE.out] at HX)
      go_wp2
      go_roundw
      case rel => exact ⟨k + 1, by omega, by go_num, HX⟩
      case measure => simp [intOf]; omega
    · obtain rfl : n = k := by omega
      obtain ⟨g0, g1⟩ := loadM (hr.mv 1)
      go_wp2
      go_ret2
      exact ⟨ao, rfl, hr.mv 1 |>.drop⟩


def rowU (B n : Nat) : List UInt8 := (List.range n).map fun i => UInt8.ofNat (bitOf B n i)
def rn (B : Nat) (n : Int) : Nat := if markE B n = 0 then n.toNat else 0
theorem rn_le (B : Nat) (n : Int) : rn B n ≤ 64 := by
  unfold rn
  split
  · rename_i h; obtain ⟨m, rfl, h1, h2⟩ := markE_zero h; simpa using h2
  · omega

theorem frow_ok (B : Nat) (n : Int) (hB : B < 18446744073709551616) (w : World) (L : List Asn) (h : Hold w L) :
    Calls Try.prog 18 #[.agg #[.int .u64 B, .int .i64 n]] w fun e w' => ∃ ao, e = .returned (.tuple #[.slice ao (rn B n) (rn B n), .int .i64 (markE B n)]) ∧ Hold w' (rowA 5 1 ao (rn B n) (rn B n) (ub (rowU B (rn B n))) :: L) := by
  unfold rn
  rcases markE_or B n with h0 | h0
  · obtain ⟨m, rfl, h1, h2⟩ := markE_zero h0
    rw [h0, if_pos rfl]
    simp only [Int.toNat_natCast]
    unfold rowU
    rw [← rowF_ub]
    exact row_ok B m hB h0 h2 h1 w L h
  · rw [h0, if_neg (by omega)]
    have hb := h.box 24 [.int .u64 B, .int .i64 n]
    have PC := fun w L h => check_ok B n hB w L h
    rw [h0] at PC
    go_enter Try.func18, Try.ntmps18
    go_upto_region 1 with (fail)
    refine gen_world hb (fun w1 hb => ?_)
    generalize w.heap.size = q at *
    obtain ⟨g0, g1⟩ := loadM hb
    go_wp2_with (go_at_call 25; refine (PC _ _ hb).mono ?_; rintro e w2 ⟨rfl, h2⟩)
    go_ret2
    exact ⟨none, rfl, h2.drop.nilRow 5 1⟩

theorem rrow_ok (B : Nat) (n : Int) (hB : B < 18446744073709551616) (w : World) (L : List Asn) (h : Hold w L) :
    Calls Try.prog 22 #[.agg #[.int .u64 B, .int .i64 n]] w fun e w' => ∃ ao, e = .returned (.tuple #[.slice ao (rn B n) (rn B n), .int .i64 (markE B n)]) ∧ Hold w' (rowA 5 1 ao (rn B n) (rn B n) (ub (rowU B (rn B n))) :: L) := by
  unfold rn
  rcases markE_or B n with h0 | h0
  · obtain ⟨m, rfl, h1, h2⟩ := markE_zero h0
    rw [h0, if_pos rfl]
    simp only [Int.toNat_natCast]
    unfold rowU
    rw [← rowF_ub]
    exact rrow_s B m hB h0 h2 h1 w L h
  · rw [h0, if_neg (by omega)]
    have hb := h.box 24 [.int .u64 B, .int .i64 n]
    have PC := fun w L h => rcheck_ok B n hB w L h
    rw [h0] at PC
    go_enter Try.func22, Try.ntmps22
    go_upto_region 1 with (fail)
    refine gen_world hb (fun w1 hb => ?_)
    generalize w.heap.size = q at *
    obtain ⟨g0, g1⟩ := loadM hb
    go_wp2_with (go_at_call 26; refine (PC _ _ hb).mono ?_; rintro e w2 ⟨rfl, h2⟩)
    go_ret2
    exact ⟨none, rfl, h2.drop.nilRow 5 1⟩

end Go.Proofs.Ytibmokkalloabaa
