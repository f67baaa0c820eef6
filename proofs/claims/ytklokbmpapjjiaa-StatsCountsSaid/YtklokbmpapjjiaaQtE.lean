/- Contracts: the reference's quantiser, rows of levels. -/
import Derived.Test.YtklokbmpapjjiaaQtB
open Go.RowKit Go.Own
namespace Go.Proofs.Ytklokbmpapjjiaa

theorem rlevel_nil (x : Int) (w : World) : Calls Try.prog 42 #[.pointer none, .int .i64 x] w fun e w' => e = .returned (.int .u8 0) ∧ w = w' := by
  go_enter Try.func42, Try.ntmps42
  go_wp2
  go_loop [5, 6] (fun n i => n = .int .u8 0 ∧ i = .int .i64 0) (fun _ _ => 0)
  case atStart => exact ⟨rfl, rfl⟩
  case round =>
    obtain ⟨rfl, rfl⟩ := hrel
    go_wp2
    go_ret
    exact ⟨rfl, rfl⟩

set_option maxHeartbeats 4000000 in
set_option maxRecDepth 20000 in
theorem rlevel_ok (xs : List Int) (x : Int) (b : Nat) (hn : xs.length ≤ 15) (w : World) (L : List Asn) (h : Hold w (quA 101 b xs :: L)) :
    Calls Try.prog 42 #[.pointer (some ⟨b, 0, none⟩), .int .i64 x] w fun e w' => e = .returned (.int .u8 (lvl xs x)) ∧ w = w' := by
  obtain ⟨ao, cap, h2⟩ := quA_open h
  have g2 := h2.cell 0
  have HR := Lib.hid (h2.mv 1)
  simp only [List.getElem?_cons_zero] at g2
  obtain ⟨n, hl⟩ : ∃ n, n = xs.length := ⟨_, rfl⟩
  rw [← hl] at g2
  have hni : (n : Int) ≤ 15 := by omega
  have HL := Lib.hid hl
  clear h h2 hl
  go_enter Try.func42, Try.ntmps42
  go_wp2
  go_loop [5, 6] (fun v i => ∃ k : Nat, k ≤ n ∧ i = .int .i64 k ∧ v = .int .u8 (lvl (xs.take k) x)) (fun _ i => n - (intOf i).toNat)
  case atStart => exact ⟨0, by omega, rfl, rfl⟩
  case round =>
    obtain ⟨k, hk, rfl, rfl⟩ := hrel
    by_cases hlt : k < n
    · have hki : (k : Int) < n := by omega
      have hkx : k < xs.length := by have := HL.out; omega
      obtain ⟨rb, ro, rfl, hc, -⟩ := HR.out.at (by omega)
      have c0 := (hc k (by omega)).trans (is_get hkx)
      have hle := lvl_le (xs.take k) x
      have htk : (xs.take k).length = k := by simp; omega
      rw [htk] at hle
      have hsn := lvl_snoc xs k x hkx
      have HS := Lib.hid hsn
      have HK := Lib.hid (Int.lt_or_le x xs[k])
      generalize lvl (xs.take k) x = u at *
      generalize xs[k] = y at *
      have W1 : IntKind.u8.wrap ((u : Int) + 1) = (u : Int) + 1 := IntWalk.u8_in _ (by omega)
      clear hc hsn htk
      rcases HK.out with hy | hy
      · go_wp2
        go_round
        case rel => exact ⟨k + 1, by omega, by go_num, by rw [HS.out, if_neg (by omega)]; rfl⟩
        case measure => simp [intOf]; omega
      · go_wp2
        go_round
        case rel => exact ⟨k + 1, by omega, by go_num, by rw [HS.out, if_pos (by omega)]; rfl⟩
        case measure => simp [intOf]; omega
    · obtain rfl : n = k := by omega
      have e : xs.take n = xs := List.take_of_length_le (by have := HL.out; omega)
      rw [e]
      go_wp2
      go_ret
      exact ⟨rfl, rfl⟩

theorem rlevels_nil (w : World) : Calls Try.prog 40 #[.pointer none] w fun e w' => e = .returned (.int .i64 0) ∧ w = w' := by
  go_enter Try.func40, Try.ntmps40
  go_wp2
  go_ret
  exact ⟨rfl, rfl⟩

theorem rlevels_ok (xs : List Int) (b : Nat) (hn : xs.length ≤ 15) (w : World) (L : List Asn) (h : Hold w (quA 101 b xs :: L)) :
    Calls Try.prog 40 #[.pointer (some ⟨b, 0, none⟩)] w fun e w' => e = .returned (.int .i64 (xs.length + 1 : Nat)) ∧ w = w' := by
  obtain ⟨ao, cap, h2⟩ := quA_open h
  have g2 := h2.cell 0
  simp only [List.getElem?_cons_zero] at g2
  generalize xs.length = n at *
  clear h h2
  go_enter Try.func40, Try.ntmps40
  go_wp2
  go_ret
  exact ⟨rfl, rfl⟩

theorem rsteps_len (xs : List Int) (ao : Option Addr) (cap : Nat) (hn : xs.length < 1 ∨ 15 < xs.length) (hm : xs.length ≤ 140737488351232) (w : World) :
    Calls Try.prog 38 #[.slice ao xs.length cap] w fun e w' => e = .returned (.tuple #[.pointer none, .int .i64 1]) ∧ w = w' := by
  generalize xs.length = n at *
  rcases hn with hn | hn
  · obtain rfl : n = 0 := by omega
    go_enter Try.func38, Try.ntmps38
    go_wp2
    go_ret2
    exact ⟨rfl, rfl⟩
  · have h1 : (15 : Int) < n := by omega
    have h2 : ((n : Int) == 0) = false := by simp; omega
    clear hn
    go_enter Try.func38, Try.ntmps38
    go_wp2
    go_ret2
    exact ⟨rfl, rfl⟩

set_option maxHeartbeats 4000000 in
set_option maxRecDepth 20000 in
theorem rsteps_ok (xs : List Int) (C : Asn) (ao : Option Addr) (n cap : Nat) (hR : Reads C 1 (.slice ao n cap) n (is xs)) (h1 : 1 ≤ n) (h15 : n ≤ 15) (hI : Inc xs) (w : World) (L : List Asn) (h : Hold w (C :: L)) :
    Calls Try.prog 38 #[.slice ao n cap] w fun e w' => ∃ b, e = .returned (.tuple #[.pointer (some ⟨b, 0, none⟩), .int .i64 0]) ∧ Hold w' (quA 101 b xs :: C :: L) := by
  obtain ⟨i3, hi, hz0, hz1, hz2⟩ := info_parts info3
  have HI := Lib.hid hI
  clear hI
  have hn1 : (1 : Int) ≤ n := by omega
  have hn0 : ((n : Int) == 0) = false := by simp; omega
  have hn15 : (n : Int) ≤ 15 := by omega
  go_enter Try.func38, Try.ntmps38
  go_wp2
  go_loopw [4] (fun i wr => StepRel xs n C L i wr) (fun i _ => n - (intOf i).toNat)
  case atStart => exact ⟨1, by omega, by omega, rfl, fun r _ _ _ => by omega, h⟩
  case round =>
    clear h
    obtain ⟨k, hk1, hk, rfl, -, hr⟩ := hrel
    obtain ⟨S, hrd⟩ := hr.reads hR
    obtain ⟨hb1, hb2, hb3⟩ := hrd.bounds
    rw [is_length] at hb1
    by_cases hlt : k < n
    · obtain ⟨rb, ro, rfl, -, -, hcs⟩ := hrd.addr (by omega)
      have hki : (k : Int) < n := by omega
      have hk1i : (1 : Int) ≤ k := by omega
      have c0 := (hcs k (by omega)).trans (is_get (xs := xs) (by omega))
      have c1 := (hcs (k - 1) (by omega)).trans (is_get (xs := xs) (by omega))
      have hx := HI.out (k - 1) k (by omega) (by omega)
      generalize (xs[k]'(by omega)) = y at *
      generalize (xs[k - 1]'(by omega)) = z at *
      clear hcs hrd
      have W1 : IntKind.i64.wrap ((k : Int) - 1) = (k : Int) - 1 := IntWalk.i64_in _ (by omega)
      have W2 : ((k : Int) - 1).toNat = k - 1 := by omega
      have W3 : 0 ≤ (k : Int) - 1 := by omega
      have W4 : (k : Int) - 1 < n := by omega
      go_upto_region 6 with (fail)
      go_quiet (fail)
      go_wp2
      go_roundw
      case rel => exact ⟨k + 1, by omega, by omega, by go_num, fun r h1 h2 h3 => HI.out (r - 1) r (by omega) h1, hr.drewN _⟩
      case measure => simp [intOf]; omega
    · obtain rfl : n = k := by omega
      go_wp2_with ((with_reducible refine wpList_plain (o := ⟨some 31, _, _, _, _, _⟩) rfl (fun K hK => ?_)); refine wp_append_new_h (w := wr) (L := C :: L) _ _ 61 (by rfl) 3 i3 (.int .i64 0) 1 8 Try.underlying61 hi hz0 hz1 hz2 (by rfl) hr (by rfl) ⟨rfl, rfl, rfl, rfl⟩ _ (by rfl) n (is xs) S hrd (is_one xs) (by unfold maxLen; omega) (by omega) (fun ao1 cap1 w1 h1 hc1 => ?_); refine hK _ _ ?_; clear hK K)
      have h2 := h1.box 101 [.slice ao1 n cap1]
      obtain rfl : xs.length = n := by omega
      go_ret2
      exact ⟨_, rfl, quA_close h2⟩

set_option maxHeartbeats 4000000 in
set_option maxRecDepth 20000 in
theorem rsteps_fall (xs : List Int) (C : Asn) (ao : Option Addr) (n cap : Nat) (hR : Reads C 1 (.slice ao n cap) n (is xs)) (h1 : 1 ≤ n) (h15 : n ≤ 15) (hF : fall xs) (w : World) (L : List Asn) (h : Hold w (C :: L)) :
    Calls Try.prog 38 #[.slice ao n cap] w fun e w' => e = .returned (.tuple #[.pointer none, .int .i64 11]) ∧ Hold w' (C :: L) := by
  have HF := Lib.hid hF
  clear hF
  have hn1 : (1 : Int) ≤ n := by omega
  have hn0 : ((n : Int) == 0) = false := by simp; omega
  have hn15 : (n : Int) ≤ 15 := by omega
  go_enter Try.func38, Try.ntmps38
  go_wp2
  go_loopw [4] (fun i wr => StepRel xs n C L i wr) (fun i _ => n - (intOf i).toNat)
  case atStart => exact ⟨1, by omega, by omega, rfl, fun r _ _ _ => by omega, h⟩
  case round =>
    clear h
    obtain ⟨k, hk1, hk, rfl, hup, hr⟩ := hrel
    have HU := Lib.hid hup
    clear hup
    obtain ⟨S, hrd⟩ := hr.reads hR
    obtain ⟨hb1, hb2, hb3⟩ := hrd.bounds
    rw [is_length] at hb1
    obtain ⟨rb, ro, rfl, -, -, hcs⟩ := hrd.addr (by omega)
    by_cases hlt : k < n
    · have hki : (k : Int) < n := by omega
      have hk1i : (1 : Int) ≤ k := by omega
      have c0 := (hcs k (by omega)).trans (is_get (xs := xs) (by omega))
      have c1 := (hcs (k - 1) (by omega)).trans (is_get (xs := xs) (by omega))
      have HX := Lib.hid (Int.lt_or_le (xs[k - 1]'(by omega)) (xs[k]'(by omega)))
      have hkx : k < xs.length := by omega
      have HU2 : (xs[k - 1]'(by omega)) < xs[k] → ∀ r (h : r < xs.length), 1 ≤ r → r < k + 1 → xs[r - 1]'(by omega) < xs[r] := fun hx r h2 h3 h4 => by
        by_cases e : r = k
        · subst e; exact hx
        · exact HU.out r h2 h3 (by omega)
      generalize xs[k] = y at *
      generalize (xs[k - 1]'(by omega)) = z at *
      clear hcs hrd
      have W1 : IntKind.i64.wrap ((k : Int) - 1) = (k : Int) - 1 := IntWalk.i64_in _ (by omega)
      have W2 : ((k : Int) - 1).toNat = k - 1 := by omega
      have W3 : 0 ≤ (k : Int) - 1 := by omega
      have W4 : (k : Int) - 1 < n := by omega
      have HU2 := Lib.hid HU2
      have hx := HX.out
      go_upto_region 6 with (fail)
      go_quiet (fail)
      rcases hx with hx | hx
      · go_wp2
        go_roundw
        case rel => exact ⟨k + 1, by omega, by omega, by go_num, HU2.out hx, hr.drewN _⟩
        case measure => simp [intOf]; omega
      · go_wp2
        go_ret2
        exact ⟨rfl, hr.drewN _⟩
    · obtain ⟨r, h2, h3, h4⟩ := HF.out
      have := HU.out r h2 h3 (by omega)
      omega

end Go.Proofs.Ytklokbmpapjjiaa
