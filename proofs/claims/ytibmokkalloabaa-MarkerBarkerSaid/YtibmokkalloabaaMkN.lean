/- The walk of MarkerBarker. -/
import Derived.Test.YtibmokkalloabaaMkM
import Derived.Test.YtibmokkalloabaaMkK
open Go.RowKit Go.Own
namespace Go.Proofs.Ytibmokkalloabaa

def bl : List Value := (tab.take 4).map fun x => .string ⟨x.1.toArray⟩
set_option maxRecDepth 10000 in
theorem barker_at (k : Nat) (hk : k < 4) : ∃ (s : List UInt8) (B n : Nat), bl[k]? = some (.string ⟨s.toArray⟩) ∧ nmB (named s) = B ∧ nmN (named s) = n ∧ nmE (named s) = 0 ∧ markE B n = 0 ∧ sideV B n = 1 ∧ B < 18446744073709551616 := by
  match k, hk with
  | 0, _ => exact ⟨_, _, _, rfl, rfl, rfl, rfl, by decide, by decide, by decide⟩
  | 1, _ => exact ⟨_, _, _, rfl, rfl, rfl, rfl, by decide, by decide, by decide⟩
  | 2, _ => exact ⟨_, _, _, rfl, rfl, rfl, rfl, by decide, by decide, by decide⟩
  | 3, _ => exact ⟨_, _, _, rfl, rfl, rfl, rfl, by decide, by decide, by decide⟩

def BarkRel (a : Nat) (L : List Asn) (i : Value) (wr : World) : Prop := ∃ k : Nat, k ≤ 4 ∧ i = .int .i64 k ∧ Hold wr (cellsA a 9 bl :: L)

set_option maxRecDepth 20000 in
theorem barker_walk (w : World) (L : List Asn) (h : Hold w L) :
    Calls Try.prog 10 #[] w fun e w' => e = .returned (.bool true) ∧ Hold w' L := by
  have hb := h.box 9 bl
  go_enter Try.func10, Try.ntmps10
  go_upto_region 2 with (fail)
  refine gen_world hb (fun w1 hb => ?_)
  generalize w.heap.size = a at *
  clear h
  go_wp2
  go_loopw [2] (fun i wr => BarkRel a L i wr) (fun i _ => 4 - (intOf i).toNat)
  case atStart => exact ⟨0, by omega, rfl, hb⟩
  case round =>
    clear hb
    obtain ⟨k, hk, rfl, hr⟩ := hrel
    by_cases hlt : k < 4
    · have hki : (k : Int) < 4 := by omega
      obtain ⟨s, B, n, e1, e2, e3, e4, e5, e6, e7⟩ := barker_at k hlt
      have c0 : wr.cell? ⟨a, k, none⟩ = some (.string ⟨s.toArray⟩) := (hr.cell k).trans e1
      have P1 := fun w L h => named_ok s w L h
      rw [e2, e3, e4] at P1
      have P2 := fun w L h => sidelobe_ok B n e7 w L h
      rw [e5, e6] at P2
      clear e1 e2 e3 e4 e5 e6
      go_upto_region 6 with (go_at_call 11; refine (P1 _ _ hr).mono ?_; rintro e w1 ⟨rfl, h1⟩; have h2 := h1.box 24 [.int .u64 B, .int .i64 n])
      refine gen_world h2 (fun w2 h2 => ?_)
      generalize w1.heap.size = q at *
      obtain ⟨g0, g1⟩ := loadM h2
      go_wp2_with (first
        | (go_at_call 23; refine (P2 _ _ h2).mono ?_; rintro e w3 ⟨rfl, h3⟩)
        | (go_at_call 13; refine (num_any _ _ _ h3).mono ?_; rintro e w5 ⟨rfl, rfl⟩))
      go_roundw
      case rel => exact ⟨k + 1, by omega, by go_num, h3.drop⟩
      case measure => simp [intOf]; omega
    · obtain rfl : k = 4 := by omega
      go_wp2_with (go_at_call 14; refine (live_ok _ _ hr).mono ?_; rintro e w5 ⟨rfl, h5⟩)
      go_ret
      exact ⟨rfl, h5.drop⟩

end Go.Proofs.Ytibmokkalloabaa
