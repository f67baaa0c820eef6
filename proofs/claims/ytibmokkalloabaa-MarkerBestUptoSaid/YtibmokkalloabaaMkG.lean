/- Contracts: two rows alike. -/
import Derived.Test.YtibmokkalloabaaMkF
import Derived.Test.YtibmokkalloabaaOwn3
open Go.RowKit Go.Own
namespace Go.Proofs.Ytibmokkalloabaa

theorem text_of {C : Asn} {ao : Option Addr} {n cap : Nat} {x : List UInt8} (hR : Reads C 1 (.slice ao n cap) n (ub x)) {w : World} {L : List Asn} (h : Hold w (C :: L)) : Sem.run Try.prog (convert 38 9 (.slice ao n cap)) w = .ok (.string ⟨x.toArray⟩) w := by
  obtain ⟨S, hrd⟩ := h.reads hR
  exact run_text Try.underlying38 Try.underlying5 Try.underlying9 hrd

theorem same_ok (x : List UInt8) (C : Asn) (ax ay : Option Addr) (n cx m cy : Nat) (hX : Reads C 1 (.slice ax n cx) n (ub x)) (hY : Reads C 1 (.slice ay m cy) m (ub x)) (w : World) (L : List Asn) (h : Hold w (C :: L)) :
    Calls Try.prog 21 #[.slice ax n cx, .slice ay m cy] w fun e w' => e = .returned (.bool true) ∧ w = w' := by
  have t1 := text_of hX h
  have t2 := text_of hY h
  go_enter Try.func21, Try.ntmps21
  go_wp2
  go_ret
  exact ⟨rfl, rfl⟩

/-- Is a row another? -/
theorem same_any (x y : List UInt8) (ax ay : Option Addr) (n cx m cy : Nat) (w : World) (hx : ∃ S, Rd w 1 (.slice ax n cx) n (ub x) S) (hy : ∃ S, Rd w 1 (.slice ay m cy) m (ub y) S) :
    Calls Try.prog 21 #[.slice ax n cx, .slice ay m cy] w fun e w' => e = .returned (.bool (x == y)) ∧ w = w' := by
  obtain ⟨S, hx⟩ := hx
  obtain ⟨S2, hy⟩ := hy
  have t1 := run_text Try.underlying38 Try.underlying5 Try.underlying9 hx
  have t2 := run_text Try.underlying38 Try.underlying5 Try.underlying9 hy
  go_enter Try.func21, Try.ntmps21
  go_wp2
  go_ret
  exact ⟨rfl, rfl⟩
theorem same_eq (x : List UInt8) (ax ay : Option Addr) (n cx m cy : Nat) (w : World) (hx : ∃ S, Rd w 1 (.slice ax n cx) n (ub x) S) (hy : ∃ S, Rd w 1 (.slice ay m cy) m (ub x) S) :
    Calls Try.prog 21 #[.slice ax n cx, .slice ay m cy] w fun e w' => e = .returned (.bool true) ∧ w = w' := by
  have := same_any x x ax ay n cx m cy w hx hy
  rwa [beq_self_eq_true] at this

end Go.Proofs.Ytibmokkalloabaa
