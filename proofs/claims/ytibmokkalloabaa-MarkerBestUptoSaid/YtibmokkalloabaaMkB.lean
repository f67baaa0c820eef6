/- Contracts: markers. -/
import Derived.Test.YtibmokkalloabaaMkA
open Go.RowKit Go.Own
namespace Go.Proofs.Ytibmokkalloabaa

/-- What Check says of a marker of n bits. -/
def markE (B : Nat) (n : Int) : Nat := if n < 1 ∨ 64 < n ∨ (n < 64 ∧ B / 2 ^ n.toNat ≠ 0) then 220 else 0
theorem div_pow (B m : Nat) : (B : Int) / 2 ^ m = ((B / 2 ^ m : Nat) : Int) := by
  rw [Int.natCast_ediv, Int.natCast_pow]; rfl

set_option maxRecDepth 20000 in
theorem check_ok (B : Nat) (n : Int) (hB : B < 18446744073709551616) (w : World) (L : List Asn) (h : Hold w L) :
    Calls Try.prog 25 #[.agg #[.int .u64 B, .int .i64 n]] w fun e w' => e = .returned (.int .i64 (markE B n)) ∧ Hold w' L := by
  have hb := h.box 24 [.int .u64 B, .int .i64 n]
  by_cases h1 : n < 1
  · have e1 : markE B n = 220 := by rw [markE, if_pos (.inl h1)]
    rw [e1]
    go_enter Try.func25, Try.ntmps25
    go_upto_region 1 with (fail)
    refine gen_world hb (fun w1 hb => ?_)
    generalize w.heap.size = q at *
    have g0 := hb.cell 0
    have g1 := hb.cell 1
    simp only [List.getElem?_cons_zero, List.getElem?_cons_succ] at g0 g1
    go_wp2
    go_ret
    exact ⟨rfl, hb.drop⟩
  · by_cases h2 : 64 < n
    · have e1 : markE B n = 220 := by rw [markE, if_pos (.inr (.inl h2))]
      rw [e1]
      go_enter Try.func25, Try.ntmps25
      go_upto_region 1 with (fail)
      refine gen_world hb (fun w1 hb => ?_)
      generalize w.heap.size = q at *
      have g0 := hb.cell 0
      have g1 := hb.cell 1
      simp only [List.getElem?_cons_zero, List.getElem?_cons_succ] at g0 g1
      go_wp2
      go_ret
      exact ⟨rfl, hb.drop⟩
    · by_cases h3 : n = 64
      · subst h3
        have e1 : markE B 64 = 0 := by rw [markE, if_neg (by omega)]
        rw [e1]
        go_enter Try.func25, Try.ntmps25
        go_upto_region 1 with (fail)
        refine gen_world hb (fun w1 hb => ?_)
        generalize w.heap.size = q at *
        have g0 := hb.cell 0
        have g1 := hb.cell 1
        simp only [List.getElem?_cons_zero, List.getElem?_cons_succ] at g0 g1
        go_wp2
        go_ret
        exact ⟨rfl, hb.drop⟩
      · obtain ⟨m, rfl⟩ : ∃ m : Nat, n = m := ⟨n.toNat, by omega⟩
        have m1 : 1 ≤ (m : Int) := by omega
        have m2 : (m : Int) < 64 := by omega
        have d1 : decide ((m : Int) < 1) = false := by simp; omega
        have d2 : decide (64 < (m : Int)) = false := by simp; omega
        have hd := div_pow B m
        by_cases h4 : B / 2 ^ m = 0
        · have e1 : markE B m = 0 := by rw [markE, if_neg]; simp only [Int.toNat_natCast]; omega
          have e4 : ((B : Int) / 2 ^ m != 0) = false := by rw [hd, h4]; rfl
          clear h1 h2 h3 h4 hd
          rw [e1]
          go_enter Try.func25, Try.ntmps25
          go_upto_region 1 with (fail)
          refine gen_world hb (fun w1 hb => ?_)
          generalize w.heap.size = q at *
          have g0 := hb.cell 0
          have g1 := hb.cell 1
          simp only [List.getElem?_cons_zero, List.getElem?_cons_succ] at g0 g1
          go_wp2
          go_ret
          exact ⟨rfl, hb.drop⟩
        · have e1 : markE B m = 220 := by rw [markE, if_pos]; simp only [Int.toNat_natCast]; omega
          have e4 : ((B : Int) / 2 ^ m != 0) = true := by rw [hd, bne_iff_ne]; omega
          clear h1 h2 h3 h4 hd
          rw [e1]
          go_enter Try.func25, Try.ntmps25
          go_upto_region 1 with (fail)
          refine gen_world hb (fun w1 hb => ?_)
          generalize w.heap.size = q at *
          have g0 := hb.cell 0
          have g1 := hb.cell 1
          simp only [List.getElem?_cons_zero, List.getElem?_cons_succ] at g0 g1
          go_wp2
          go_ret
          exact ⟨rfl, hb.drop⟩

set_option maxRecDepth 20000 in
theorem rcheck_ok (B : Nat) (n : Int) (hB : B < 18446744073709551616) (w : World) (L : List Asn) (h : Hold w L) :
    Calls Try.prog 26 #[.agg #[.int .u64 B, .int .i64 n]] w fun e w' => e = .returned (.int .i64 (markE B n)) ∧ Hold w' L := by
  have hb := h.box 24 [.int .u64 B, .int .i64 n]
  by_cases h1 : n < 1
  · have e1 : markE B n = 220 := by rw [markE, if_pos (.inl h1)]
    rw [e1]
    go_enter Try.func26, Try.ntmps26
    go_upto_region 1 with (fail)
    refine gen_world hb (fun w1 hb => ?_)
    generalize w.heap.size = q at *
    have g0 := hb.cell 0
    have g1 := hb.cell 1
    simp only [List.getElem?_cons_zero, List.getElem?_cons_succ] at g0 g1
    go_wp2
    go_ret
    exact ⟨rfl, hb.drop⟩
  · by_cases h2 : 64 < n
    · have e1 : markE B n = 220 := by rw [markE, if_pos (.inr (.inl h2))]
      rw [e1]
      go_enter Try.func26, Try.ntmps26
      go_upto_region 1 with (fail)
      refine gen_world hb (fun w1 hb => ?_)
      generalize w.heap.size = q at *
      have g0 := hb.cell 0
      have g1 := hb.cell 1
      simp only [List.getElem?_cons_zero, List.getElem?_cons_succ] at g0 g1
      go_wp2
      go_ret
      exact ⟨rfl, hb.drop⟩
    · by_cases h3 : n = 64
      · subst h3
        have e1 : markE B 64 = 0 := by rw [markE, if_neg (by omega)]
        rw [e1]
        go_enter Try.func26, Try.ntmps26
        go_upto_region 1 with (fail)
        refine gen_world hb (fun w1 hb => ?_)
        generalize w.heap.size = q at *
        have g0 := hb.cell 0
        have g1 := hb.cell 1
        simp only [List.getElem?_cons_zero, List.getElem?_cons_succ] at g0 g1
        go_wp2
        go_ret
        exact ⟨rfl, hb.drop⟩
      · obtain ⟨m, rfl⟩ : ∃ m : Nat, n = m := ⟨n.toNat, by omega⟩
        have m1 : 1 ≤ (m : Int) := by omega
        have m2 : (m : Int) < 64 := by omega
        have d1 : decide ((m : Int) < 1) = false := by simp; omega
        have d2 : decide (64 < (m : Int)) = false := by simp; omega
        have hd := div_pow B m
        by_cases h4 : B / 2 ^ m = 0
        · have e1 : markE B m = 0 := by rw [markE, if_neg]; simp only [Int.toNat_natCast]; omega
          have e4 : ((B : Int) / 2 ^ m != 0) = false := by rw [hd, h4]; rfl
          clear h1 h2 h3 h4 hd
          rw [e1]
          go_enter Try.func26, Try.ntmps26
          go_upto_region 1 with (fail)
          refine gen_world hb (fun w1 hb => ?_)
          generalize w.heap.size = q at *
          have g0 := hb.cell 0
          have g1 := hb.cell 1
          simp only [List.getElem?_cons_zero, List.getElem?_cons_succ] at g0 g1
          go_wp2
          go_ret
          exact ⟨rfl, hb.drop⟩
        · have e1 : markE B m = 220 := by rw [markE, if_pos]; simp only [Int.toNat_natCast]; omega
          have e4 : ((B : Int) / 2 ^ m != 0) = true := by rw [hd, bne_iff_ne]; omega
          clear h1 h2 h3 h4 hd
          rw [e1]
          go_enter Try.func26, Try.ntmps26
          go_upto_region 1 with (fail)
          refine gen_world hb (fun w1 hb => ?_)
          generalize w.heap.size = q at *
          have g0 := hb.cell 0
          have g1 := hb.cell 1
          simp only [List.getElem?_cons_zero, List.getElem?_cons_succ] at g0 g1
          go_wp2
          go_ret
          exact ⟨rfl, hb.drop⟩

theorem wraps_u64_64 (n : Int) (h₀ : 0 ≤ n) (h₁ : n < 2 ^ 64) : IntKind.u64.wrap n = n := by rw [IntKind.wrap_u64]; omega
theorem and_one (x : Nat) (h : x < 18446744073709551616) : bits .and .u64 (x : Int) 1 = ((x % 2 : Nat) : Int) := by
  have h := bits_mask .u64 64 (by decide) wraps_u64_64 1 (by decide) (x : Int) (by omega) (by omega)
  have e : ((2 : Int) ^ 1 - 1) = 1 := by decide
  have e2 : ((2 : Int) ^ 1) = 2 := by decide
  rw [e, e2] at h
  rw [h]
  omega
/-- The i-th bit of a marker. -/
def bitOf (B n i : Nat) : Nat := B / 2 ^ (n - 1 - i) % 2

set_option maxRecDepth 20000 in
theorem bit_ok (B n i : Nat) (hB : B < 18446744073709551616) (hn : n ≤ 64) (hi : i < n) (w : World) (L : List Asn) (h : Hold w L) :
    Calls Try.prog 36 #[.agg #[.int .u64 B, .int .i64 n], .int .i64 i] w fun e w' => e = .returned (.int .u8 (bitOf B n i)) ∧ Hold w' L := by
  have hb := h.box 24 [.int .u64 B, .int .i64 n]
  go_enter Try.func36, Try.ntmps36
  go_upto_region 1 with (fail)
  refine gen_world hb (fun w1 hb => ?_)
  generalize w.heap.size = q at *
  have g0 := hb.cell 0
  have g1 := hb.cell 1
  simp only [List.getElem?_cons_zero, List.getElem?_cons_succ] at g0 g1
  have hii : (i : Int) < n := by omega
  have hnn : (n : Int) ≤ 64 := by omega
  have hd := div_pow B (n - 1 - i)
  have hlt : B / 2 ^ (n - 1 - i) < 18446744073709551616 := Nat.lt_of_le_of_lt (Nat.div_le_self _ _) hB
  have hx := and_one _ hlt
  have he : (B : Int) / 2 ^ (n - 1 - i) % 2 = ((bitOf B n i : Nat) : Int) := by rw [hd, bitOf]; omega
  have HE := Lib.hid he
  rw [← hd] at hx
  clear hd he
  go_wp2
  go_ret
  exact ⟨congrArg (fun z => Ending.returned (.int .u8 z)) HE.out, hb.drop⟩

set_option maxRecDepth 20000 in
theorem rbit_ok (B n i : Nat) (hB : B < 18446744073709551616) (hn : n ≤ 64) (hi : i < n) (w : World) (L : List Asn) (h : Hold w L) :
    Calls Try.prog 40 #[.agg #[.int .u64 B, .int .i64 n], .int .i64 i] w fun e w' => e = .returned (.int .u8 (bitOf B n i)) ∧ Hold w' L := by
  have hb := h.box 24 [.int .u64 B, .int .i64 n]
  go_enter Try.func40, Try.ntmps40
  go_upto_region 1 with (fail)
  refine gen_world hb (fun w1 hb => ?_)
  generalize w.heap.size = q at *
  have g0 := hb.cell 0
  have g1 := hb.cell 1
  simp only [List.getElem?_cons_zero, List.getElem?_cons_succ] at g0 g1
  have hii : (i : Int) < n := by omega
  have hnn : (n : Int) ≤ 64 := by omega
  have hd := div_pow B (n - 1 - i)
  have hlt : B / 2 ^ (n - 1 - i) < 18446744073709551616 := Nat.lt_of_le_of_lt (Nat.div_le_self _ _) hB
  have hx := and_one _ hlt
  have he : (B : Int) / 2 ^ (n - 1 - i) % 2 = ((bitOf B n i : Nat) : Int) := by rw [hd, bitOf]; omega
  have HE := Lib.hid he
  rw [← hd] at hx
  clear hd he
  go_wp2
  go_ret
  exact ⟨congrArg (fun z => Ending.returned (.int .u8 z)) HE.out, hb.drop⟩

end Go.Proofs.Ytibmokkalloabaa
