/- Contracts: Steps. -/
import Derived.Test.YtklokbmpapjjiaaQtA
open Go.RowKit Go.Own
namespace Go.Proofs.Ytklokbmpapjjiaa

theorem info3 : (Try.prog.info? 3).map (fun i => (i.zero, i.size, i.bytes)) = some (some (.int .i64 0), 1, 8) := by kernel_rfl

/-- Thresholds that Steps takes. -/
def stepsOk (xs : List Int) : Prop := 1 ≤ xs.length ∧ xs.length ≤ 15 ∧ Inc xs
def fall (xs : List Int) : Prop := ∃ i, ∃ h : i < xs.length, 1 ≤ i ∧ xs[i] ≤ xs[i - 1]'(by omega)
theorem fall_or (xs : List Int) : Inc xs ∨ fall xs := by
  by_cases h : fall xs
  · exact .inr h
  · refine .inl (inc_of fun i hi h1 => ?_)
    rcases Int.lt_or_le (xs[i - 1]'(by omega)) xs[i] with h2 | h2
    · exact h2
    · exact absurd ⟨i, hi, h1, h2⟩ h
theorem inc_not_fall {xs : List Int} (h : Inc xs) : ¬ fall xs := fun ⟨i, hi, h1, h2⟩ => by
  have := h (i - 1) i (by omega) hi; omega

theorem steps_len (xs : List Int) (ao : Option Addr) (cap : Nat) (hn : xs.length < 1 ∨ 15 < xs.length) (hm : xs.length ≤ 140737488351232) (w : World) :
    Calls Try.prog 32 #[.slice ao xs.length cap] w fun e w' => e = .returned (.tuple #[.pointer none, .int .i64 1]) ∧ w = w' := by
  generalize xs.length = n at *
  rcases hn with hn | hn
  · obtain rfl : n = 0 := by omega
    go_enter Try.func32, Try.ntmps32
    go_wp2
    go_ret2
    exact ⟨rfl, rfl⟩
  · have h1 : (15 : Int) < n := by omega
    have h2 : (1 : Int) ≤ n := by omega
    clear hn
    go_enter Try.func32, Try.ntmps32
    go_wp2
    go_ret2
    exact ⟨rfl, rfl⟩

def StepRel (xs : List Int) (n : Nat) (C : Asn) (L : List Asn) (i : Value) (wr : World) : Prop := ∃ k : Nat, 1 ≤ k ∧ k ≤ n ∧ i = .int .i64 k ∧ (∀ r (h : r < xs.length), 1 ≤ r → r < k → xs[r - 1]'(by omega) < xs[r]) ∧ Hold wr (C :: L)

set_option maxHeartbeats 4000000 in
set_option maxRecDepth 20000 in
theorem steps_ok (xs : List Int) (C : Asn) (ao : Option Addr) (n cap : Nat) (hR : Reads C 1 (.slice ao n cap) n (is xs)) (h1 : 1 ≤ n) (h15 : n ≤ 15) (hI : Inc xs) (w : World) (L : List Asn) (h : Hold w (C :: L)) :
    Calls Try.prog 32 #[.slice ao n cap] w fun e w' => ∃ b, e = .returned (.tuple #[.pointer (some ⟨b, 0, none⟩), .int .i64 0]) ∧ Hold w' (quA 87 b xs :: C :: L) := by
  obtain ⟨i3, hi, hz0, hz1, hz2⟩ := info_parts info3
  have HI := Lib.hid hI
  clear hI
  have hn1 : (1 : Int) ≤ n := by omega
  have hn15 : (n : Int) ≤ 15 := by omega
  go_enter Try.func32, Try.ntmps32
  go_wp2
  go_loopw [4] (fun i wr => StepRel xs n C L i wr) (fun i _ => n - (intOf i).toNat)
  case atStart => exact ⟨1, by omega, by omega, rfl, fun r _ _ _ => by omega, h⟩
  case round =>
    clear h
    obtain ⟨k, hk1, hk, rfl, -, hr⟩ := hrel
    obtain ⟨S, hrd⟩ := hr.reads hR
    obtain ⟨hb1, hb2, hb3⟩ := hrd.bounds
    rw [is_length] at hb1
    obtain ⟨rb, ro, rfl, -, -, hcs⟩ := hrd.addr (by omega)
    by_cases hlt : k < n
    · have hki : (k : Int) < n := by omega
      have hk1i : (1 : Int) ≤ k := by omega
      have c0 := (hcs k (by omega)).trans (is_get (xs := xs) (by omega))
      have c1 := (hcs (k - 1) (by omega)).trans (is_get (xs := xs) (by omega))
      have hx := HI.out (k - 1) k (by omega) (by omega)
      generalize (xs[k]'(by omega)) = y at *
      generalize (xs[k - 1]'(by omega)) = z at *
      clear hcs hrd
      have W1 : IntKind.i64.wrap ((k : Int) - 1) = (k : Int) - 1 := IntWalk.i64_in _ (by omega)
      have W2 : ((k : Int) - 1).toNat = k - 1 := by omega
      have W3 : 0 ≤ (k : Int) - 1 := by omega
      have W4 : (k : Int) - 1 < n := by omega
      go_upto_region 6 with (fail)
      go_quiet (fail)
      go_wp2
      go_roundw
      case rel => exact ⟨k + 1, by omega, by omega, by go_num, fun r h1 h2 h3 => HI.out (r - 1) r (by omega) h1, hr.drewN _⟩
      case measure => simp [intOf]; omega
    · obtain rfl : n = k := by omega
      have hrow := hr.nilRow 3 1
      clear hcs
      go_wp2_with ((with_reducible refine wpList_plain (o := ⟨some 30, _, _, _, _, _⟩) rfl (fun K hK => ?_)); refine wp_append_src_h (L := C :: L) _ _ 61 (by rfl) 3 i3 (.int .i64 0) 1 8 Try.underlying61 hi hz0 hz1 hz2 (by rfl) none 0 0 [] (by rfl) hrow _ (by rfl) n (is xs) S hrd (is_one xs) (by unfold maxLen; omega) (by omega) (fun ao1 cap1 w1 h1 hc1 => ?_); refine hK _ _ ?_; clear hK K)
      simp only [Nat.zero_add, List.nil_append] at h1
      have h2 := h1.box 87 [.slice ao1 n cap1]
      obtain rfl : xs.length = n := by omega
      go_ret2
      exact ⟨_, rfl, quA_close h2⟩

set_option maxHeartbeats 4000000 in
set_option maxRecDepth 20000 in
theorem steps_fall (xs : List Int) (C : Asn) (ao : Option Addr) (n cap : Nat) (hR : Reads C 1 (.slice ao n cap) n (is xs)) (h1 : 1 ≤ n) (h15 : n ≤ 15) (hF : fall xs) (w : World) (L : List Asn) (h : Hold w (C :: L)) :
    Calls Try.prog 32 #[.slice ao n cap] w fun e w' => e = .returned (.tuple #[.pointer none, .int .i64 11]) ∧ Hold w' (C :: L) := by
  have HF := Lib.hid hF
  clear hF
  have hn1 : (1 : Int) ≤ n := by omega
  have hn15 : (n : Int) ≤ 15 := by omega
  go_enter Try.func32, Try.ntmps32
  go_wp2
  go_loopw [4] (fun i wr => StepRel xs n C L i wr) (fun i _ => n - (intOf i).toNat)
  case atStart => exact ⟨1, by omega, by omega, rfl, fun r _ _ _ => by omega, h⟩
  case round =>
    clear h
    obtain ⟨k, hk1, hk, rfl, hup, hr⟩ := hrel
    have HU := Lib.hid hup
    clear hup
    obtain ⟨S, hrd⟩ := hr.reads hR
    obtain ⟨hb1, hb2, hb3⟩ := hrd.bounds
    rw [is_length] at hb1
    obtain ⟨rb, ro, rfl, -, -, hcs⟩ := hrd.addr (by omega)
    by_cases hlt : k < n
    · have hki : (k : Int) < n := by omega
      have hk1i : (1 : Int) ≤ k := by omega
      have c0 := (hcs k (by omega)).trans (is_get (xs := xs) (by omega))
      have c1 := (hcs (k - 1) (by omega)).trans (is_get (xs := xs) (by omega))
      have HX := Lib.hid (Int.lt_or_le (xs[k - 1]'(by omega)) (xs[k]'(by omega)))
      have hkx : k < xs.length := by omega
      have HU2 : (xs[k - 1]'(by omega)) < xs[k] → ∀ r (h : r < xs.length), 1 ≤ r → r < k + 1 → xs[r - 1]'(by omega) < xs[r] := fun hx r h2 h3 h4 => by
        by_cases e : r = k
        · subst e; exact hx
        · exact HU.out r h2 h3 (by omega)
      generalize xs[k] = y at *
      generalize (xs[k - 1]'(by omega)) = z at *
      clear hcs hrd
      have W1 : IntKind.i64.wrap ((k : Int) - 1) = (k : Int) - 1 := IntWalk.i64_in _ (by omega)
      have W2 : ((k : Int) - 1).toNat = k - 1 := by omega
      have W3 : 0 ≤ (k : Int) - 1 := by omega
      have W4 : (k : Int) - 1 < n := by omega
      have HU2 := Lib.hid HU2
      have hx := HX.out
      go_upto_region 6 with (fail)
      go_quiet (fail)
      rcases hx with hx | hx
      · go_wp2
        go_roundw
        case rel => exact ⟨k + 1, by omega, by omega, by go_num, HU2.out hx, hr.drewN _⟩
        case measure => simp [intOf]; omega
      · go_wp2
        go_ret2
        exact ⟨rfl, hr.drewN _⟩
    · obtain ⟨r, h2, h3, h4⟩ := HF.out
      have := HU.out r h2 h3 (by omega)
      omega

end Go.Proofs.Ytklokbmpapjjiaa
