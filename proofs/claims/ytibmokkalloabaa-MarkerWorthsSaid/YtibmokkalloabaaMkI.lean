/- The walk of MarkerWorths. -/
import Derived.Test.YtibmokkalloabaaMkH
open Go.RowKit Go.Own
namespace Go.Proofs.Ytibmokkalloabaa

theorem worths_walk (n : Int) (b l : Nat) (hb : b < 256) (hl : l < 256) (w : World) (L : List Asn) (h : Hold w L) :
    Calls Try.prog 4 #[.int .i64 n, .int .u8 b, .int .u8 l] w fun e w' => e = .returned (.bool true) ∧ Hold w' L := by
  have P1 := fun w L h => worth_ok n b l hb hl w L h
  have P2 := fun w L h => rworth_ok n b l hb hl w L h
  generalize worthV n b l = v at *
  generalize worthE n b l = c at *
  go_enter Try.func4, Try.ntmps4
  go_wp2_with (first
    | (go_at_call 15; refine (P1 _ _ h).mono ?_; rintro e w1 ⟨rfl, h1⟩)
    | (go_at_call 16; refine (P2 _ _ h1).mono ?_; rintro e w2 ⟨rfl, h2⟩)
    | (go_at_call 13; refine (num_any _ _ _ h2).mono ?_; rintro e w4 ⟨rfl, rfl⟩)
    | (go_at_call 14; refine (live_ok _ _ h2).mono ?_; rintro e w5 ⟨rfl, h5⟩))
  go_ret
  exact ⟨rfl, h5⟩

end Go.Proofs.Ytibmokkalloabaa
