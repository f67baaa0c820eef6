/- Contracts: Put out of range; New where it fails. -/
import Derived.Test.YtpffofliemooiaaBuG
open Go.RowKit Go.Own
namespace Go.Proofs.Ytpffofliemooiaa

set_option maxRecDepth 20000 in
theorem put_far (b : Nat) (S : BS) (hc : 1 ≤ S.cp) (m id : Int) (hf : m < S.lo ∨ S.hi < m) (w : World) (L : List Asn) (h : Hold w (bkA b S :: L)) :
    Calls Try.prog 12 #[.pointer (some ⟨b, 0, none⟩), .int .i64 m, .int .i64 id] w fun e w' => (∃ v : Int, v ≠ 0 ∧ e = .returned (.tuple #[.int .i64 0, .bool false, .int .i64 v])) ∧ Hold w' (bkA b S :: L) := by
  obtain ⟨ro, rc, vs, hl, h1⟩ := bk_open h
  have PN := none_any b S hc w _ _ h1
  obtain ⟨g0, g1, g2, g3, g4, g5, g6, g7, g8, g9, g10⟩ := bkM h1
  have HH := Lib.hid h
  clear h h1 hl
  by_cases hlo : m < S.lo
  · go_enter Try.func12, Try.ntmps12
    go_wp2_with (first
      | (go_at_call 29; with_reducible refine PN.mono ?_; rintro e w1 ⟨rfl, rfl⟩))
    go_ret3
    exact ⟨⟨_, by decide, rfl⟩, HH.out⟩
  · have hhi : S.hi < m := by omega
    go_enter Try.func12, Try.ntmps12
    go_wp2_with (first
      | (go_at_call 29; with_reducible refine PN.mono ?_; rintro e w1 ⟨rfl, rfl⟩))
    go_ret3
    exact ⟨⟨_, by decide, rfl⟩, HH.out⟩

set_option maxRecDepth 20000 in
theorem new_bad (d lo hi cp : Int) (hlo : I64 lo) (hhi : I64 hi) (hbad : (d < 1 ∨ 65536 < d) ∨ (hi < lo ∨ cp < 1 ∨ 65536 < cp) ∨ 65536 ≤ hi / d - lo / d) (w : World) :
    Calls Try.prog 9 #[.int .i64 d, .int .i64 lo, .int .i64 hi, .int .i64 cp] w fun e w' => (∃ v : Int, v ≠ 0 ∧ e = .returned (.tuple #[.pointer none, .int .i64 v])) ∧ w = w' := by
  by_cases h1 : d < 1
  · go_enter Try.func9, Try.ntmps9
    go_wp2
    go_ret2
    exact ⟨⟨_, by decide, rfl⟩, rfl⟩
  by_cases h2 : 65536 < d
  · go_enter Try.func9, Try.ntmps9
    go_wp2
    go_ret2
    exact ⟨⟨_, by decide, rfl⟩, rfl⟩
  by_cases h3 : hi < lo
  · go_enter Try.func9, Try.ntmps9
    go_wp2
    go_ret2
    exact ⟨⟨_, by decide, rfl⟩, rfl⟩
  by_cases h4 : cp < 1
  · go_enter Try.func9, Try.ntmps9
    go_wp2
    go_ret2
    exact ⟨⟨_, by decide, rfl⟩, rfl⟩
  by_cases h5 : 65536 < cp
  · go_enter Try.func9, Try.ntmps9
    go_wp2
    go_ret2
    exact ⟨⟨_, by decide, rfl⟩, rfl⟩
  have h6 : 65536 ≤ hi / d - lo / d := by rcases hbad with (h | h) | (h | h | h) | h <;> omega
  have hd1 : 1 ≤ d := by omega
  have P1 := fun w => index_ok lo d hlo hd1 w
  have P2 := fun w => index_ok hi d hhi hd1 w
  obtain ⟨a1, a2⟩ := idx_I64 hlo hd1
  obtain ⟨b1, b2⟩ := idx_I64 hhi hd1
  obtain ⟨x, hx⟩ : ∃ x, x = lo / d := ⟨_, rfl⟩
  obtain ⟨y, hy⟩ : ∃ y, y = hi / d := ⟨_, rfl⟩
  rw [← hx] at P1 a1 a2 h6
  rw [← hy] at P2 b1 b2 h6
  clear hx hy hbad
  go_enter Try.func9, Try.ntmps9
  go_upto_if 42 with (first
    | (go_at_call 27; with_reducible refine (P1 _).mono ?_; rintro e w1 ⟨rfl, rfl⟩)
    | (go_at_call 27; with_reducible refine (P2 _).mono ?_; rintro e w1 ⟨rfl, rfl⟩))
  rw [u64_sub (by omega)]
  have hdec : decide (65536 ≤ y - x) = true := by simp; omega
  go_wp2
  go_ret2
  exact ⟨⟨_, by decide, rfl⟩, rfl⟩

end Go.Proofs.Ytpffofliemooiaa
