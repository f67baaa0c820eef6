/- Pop of an empty one; the walk of BucketsOrder. -/
import Derived.Test.YtpffofliemooiaaBuM
import Derived.Test.YtpffofliemooiaaBuI
open Go.RowKit Go.Own
namespace Go.Proofs.Ytpffofliemooiaa

set_option maxRecDepth 20000 in
theorem highest0 (b : Nat) (S : BS) (hc : 1 ≤ S.cp) (hn : S.n = 0) (w : World) (L : List Asn) (h : Hold w (bkA b S :: L)) :
    Calls Try.prog 30 #[.pointer (some ⟨b, 0, none⟩)] w fun e w' => e = .returned (.tuple #[.int .i64 0, .bool false]) ∧ w = w' := by
  obtain ⟨ro, rc, vs, hl, h1⟩ := bk_open h
  have PN := none_any b S hc w _ _ h1
  obtain ⟨g0, g1, g2, g3, g4, g5, g6, g7, g8, g9, g10⟩ := bkM h1
  rw [hn] at g6
  clear h h1 hl
  go_enter Try.func30, Try.ntmps30
  go_wp2_with (first
    | (go_at_call 29; with_reducible refine PN.mono ?_; rintro e w1 ⟨rfl, rfl⟩))
  go_ret2
  exact ⟨rfl, rfl⟩

set_option maxRecDepth 20000 in
theorem pop0 (b : Nat) (S : BS) (hc : 1 ≤ S.cp) (hn : S.n = 0) (w : World) (L : List Asn) (h : Hold w (bkA b S :: L)) :
    Calls Try.prog 16 #[.pointer (some ⟨b, 0, none⟩)] w fun e w' => e = .returned (.tuple #[.int .i64 0, .int .i64 0, .bool false]) ∧ w = w' := by
  have PH := highest0 b S hc hn w L h
  clear h
  go_enter Try.func16, Try.ntmps16
  go_wp2_with (first
    | (go_at_call 30; with_reducible refine PH.mono ?_; rintro e w1 ⟨rfl, rfl⟩))
  go_ret3
  exact ⟨rfl, rfl⟩

end Go.Proofs.Ytpffofliemooiaa
