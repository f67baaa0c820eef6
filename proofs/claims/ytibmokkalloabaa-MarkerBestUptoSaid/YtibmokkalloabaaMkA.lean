/- Contracts: worths. -/
import Derived.Test.YtibmokkalloabaaProg
import Derived.Test.YtibmokkalloabaaAgg
import Derived.Test.YtibmokkalloabaaEq
import Derived.Test.YtibmokkalloabaaRegion3
import Derived.Test.YtibmokkalloabaaBk
open Go.RowKit Go.Own
namespace Go.Proofs.Ytibmokkalloabaa

/-- What a bit at a level is worth, of n levels. -/
def wgt (n : Int) (b l : Nat) : Int := if b = 0 then -(2 * (l : Int) - (n - 1)) else 2 * (l : Int) - (n - 1)
def worthE (n : Int) (b l : Nat) : Nat := if n < 2 ∨ 16 < n then 1 else if 1 < b then 10 else if n ≤ (l : Int) then 91 else 0
def worthV (n : Int) (b l : Nat) : Int := if worthE n b l = 0 then wgt n b l else 0

theorem num_any (e : Int) (w : World) (L : List Asn) (h : Hold w L) : Calls Try.prog 13 #[.int .i64 e] w fun r w' => r = .returned (.int .i64 e) ∧ w = w' := by
  have _ := h
  go_enter Try.func13, Try.ntmps13
  go_wp2
  go_ret
  exact ⟨rfl, rfl⟩

theorem weigher_ok (n : Int) (w : World) (L : List Asn) (h : Hold w L) :
    Calls Try.prog 34 #[.int .i64 n] w fun e w' => ∃ q, e = .returned (.func (.func 43) #[] #[.pointer (some ⟨q, 0, none⟩)]) ∧ Hold w' (cellsA q 3 [.int .i64 n] :: L) := by
  have hb := h.box 3 [.int .i64 n]
  go_enter Try.func34, Try.ntmps34
  go_upto_region 1 with (fail)
  refine gen_world hb (fun w1 hb => ?_)
  generalize w.heap.size = q at *
  go_wp2
  go_ret
  exact ⟨q, rfl, hb⟩

theorem weigh_ok (n : Int) (b l : Nat) (h1 : 0 ≤ n) (h2 : n ≤ 16) (hb : b < 256) (hl : l < 256) (q : Nat) (w : World) (L : List Asn) (h : Hold w (cellsA q 3 [.int .i64 n] :: L)) :
    Calls Try.prog 43 #[.int .u8 b, .int .u8 l, .pointer (some ⟨q, 0, none⟩)] w fun e w' => e = .returned (.int .i64 (wgt n b l)) ∧ w = w' := by
  have g0 := h.cell 0
  simp only [List.getElem?_cons_zero] at g0
  unfold wgt
  by_cases h0 : b = 0
  · subst h0
    rw [if_pos rfl]
    go_enter Try.func43, Try.ntmps43
    go_wp2
    go_ret
    exact ⟨by rfl, rfl⟩
  · rw [if_neg h0]
    have hp : 0 < (b : Int) := by omega
    have hne : ¬ ((b : Int) = 0) := by omega
    go_enter Try.func43, Try.ntmps43
    go_wp2
    go_ret
    exact ⟨by rfl, rfl⟩

theorem worth_ok (n : Int) (b l : Nat) (hb : b < 256) (hl : l < 256) (w : World) (L : List Asn) (h : Hold w L) :
    Calls Try.prog 15 #[.int .i64 n, .int .u8 b, .int .u8 l] w fun e w' => e = .returned (.tuple #[.int .i64 (worthV n b l), .int .i64 (worthE n b l)]) ∧ Hold w' L := by
  by_cases h1 : n < 2 ∨ 16 < n
  · have e1 : worthE n b l = 1 := by rw [worthE, if_pos h1]
    rw [worthV, e1, if_neg (by omega)]
    rcases h1 with h1 | h1
    all_goals
      go_enter Try.func15, Try.ntmps15
      go_wp2
      go_ret2
      exact ⟨rfl, h⟩
  · have n1 : 2 ≤ n := by omega
    have n2 : n ≤ 16 := by omega
    by_cases h2 : 1 < b
    · have e1 : worthE n b l = 10 := by rw [worthE, if_neg h1, if_pos h2]
      rw [worthV, e1, if_neg (by omega)]
      have h2' : 1 < (b : Int) := by omega
      clear h1
      go_enter Try.func15, Try.ntmps15
      go_wp2
      go_ret2
      exact ⟨rfl, h⟩
    · have h2' : (b : Int) ≤ 1 := by omega
      by_cases h3 : n ≤ (l : Int)
      · have e1 : worthE n b l = 91 := by rw [worthE, if_neg h1, if_neg h2, if_pos h3]
        rw [worthV, e1, if_neg (by omega)]
        clear h1 h2
        go_enter Try.func15, Try.ntmps15
        go_wp2
        go_ret2
        exact ⟨rfl, h⟩
      · have e1 : worthE n b l = 0 := by rw [worthE, if_neg h1, if_neg h2, if_neg h3]
        rw [worthV, e1, if_pos rfl]
        have h3' : (l : Int) < n := by omega
        have P := fun q w L h => weigh_ok n b l (by omega) n2 hb hl q w L h
        clear h1 h2 h3
        go_enter Try.func15, Try.ntmps15
        go_wp2_with (first
          | (go_at_call 34; refine (weigher_ok n _ _ h).mono ?_; rintro e w1 ⟨q, rfl, h1⟩)
          | (go_at_call 43; refine (P q _ _ h1).mono ?_; rintro e w2 ⟨rfl, rfl⟩))
        go_ret2
        exact ⟨rfl, h1.drop⟩

theorem levelled_ok (n : Int) (w : World) : Calls Try.prog 35 #[.int .i64 n] w fun e w' => e = .returned (.bool (decide (2 ≤ n ∧ n ≤ 16))) ∧ w = w' := by
  by_cases h1 : 2 ≤ n
  · by_cases h2 : n ≤ 16
    · have e : decide (2 ≤ n ∧ n ≤ 16) = true := by simp; omega
      rw [e]
      go_enter Try.func35, Try.ntmps35
      go_wp2
      go_ret
      exact ⟨rfl, rfl⟩
    · have e : decide (2 ≤ n ∧ n ≤ 16) = false := by simp; omega
      have h2' : 16 < n := by omega
      rw [e]
      go_enter Try.func35, Try.ntmps35
      go_wp2
      go_ret
      exact ⟨rfl, rfl⟩
  · have e : decide (2 ≤ n ∧ n ≤ 16) = false := by simp; omega
    have h1' : n < 2 := by omega
    rw [e]
    go_enter Try.func35, Try.ntmps35
    go_wp2
    go_ret
    exact ⟨rfl, rfl⟩

theorem rworth_ok (n : Int) (b l : Nat) (hb : b < 256) (hl : l < 256) (w : World) (L : List Asn) (h : Hold w L) :
    Calls Try.prog 16 #[.int .i64 n, .int .u8 b, .int .u8 l] w fun e w' => e = .returned (.tuple #[.int .i64 (worthV n b l), .int .i64 (worthE n b l)]) ∧ Hold w' L := by
  have P := levelled_ok n w
  by_cases h1 : n < 2 ∨ 16 < n
  · have e1 : worthE n b l = 1 := by rw [worthE, if_pos h1]
    have e2 : decide (2 ≤ n ∧ n ≤ 16) = false := by simp; omega
    rw [e2] at P
    rw [worthV, e1, if_neg (by omega)]
    go_enter Try.func16, Try.ntmps16
    go_wp2_with (go_at_call 35; refine P.mono ?_; rintro e w1 ⟨rfl, rfl⟩)
    go_ret2
    exact ⟨rfl, h⟩
  · have n1 : 2 ≤ n := by omega
    have n2 : n ≤ 16 := by omega
    have e2 : decide (2 ≤ n ∧ n ≤ 16) = true := by simp; omega
    rw [e2] at P
    clear e2
    by_cases h2 : 1 < b
    · have e1 : worthE n b l = 10 := by rw [worthE, if_neg h1, if_pos h2]
      rw [worthV, e1, if_neg (by omega)]
      have h2' : 1 < (b : Int) := by omega
      clear h1
      go_enter Try.func16, Try.ntmps16
      go_wp2_with (go_at_call 35; refine P.mono ?_; rintro e w1 ⟨rfl, rfl⟩)
      go_ret2
      exact ⟨rfl, h⟩
    · have h2' : (b : Int) ≤ 1 := by omega
      by_cases h3 : n ≤ (l : Int)
      · have e1 : worthE n b l = 91 := by rw [worthE, if_neg h1, if_neg h2, if_pos h3]
        rw [worthV, e1, if_neg (by omega)]
        clear h1 h2
        go_enter Try.func16, Try.ntmps16
        go_wp2_with (go_at_call 35; refine P.mono ?_; rintro e w1 ⟨rfl, rfl⟩)
        go_ret2
        exact ⟨rfl, h⟩
      · have e1 : worthE n b l = 0 := by rw [worthE, if_neg h1, if_neg h2, if_neg h3]
        rw [worthV, e1, if_pos rfl]
        have h3' : (l : Int) < n := by omega
        clear h1 h3
        unfold wgt
        obtain rfl | rfl : b = 0 ∨ b = 1 := by omega
        · rw [if_pos rfl]
          go_enter Try.func16, Try.ntmps16
          go_wp2_with (go_at_call 35; refine P.mono ?_; rintro e w1 ⟨rfl, rfl⟩)
          go_ret2
          exact ⟨rfl, h⟩
        · rw [if_neg (by omega)]
          go_enter Try.func16, Try.ntmps16
          go_wp2_with (go_at_call 35; refine P.mono ?_; rintro e w1 ⟨rfl, rfl⟩)
          go_ret2
          exact ⟨rfl, h⟩

end Go.Proofs.Ytibmokkalloabaa
