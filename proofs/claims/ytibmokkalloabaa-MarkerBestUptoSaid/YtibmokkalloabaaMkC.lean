/- Contracts: levels below, and what a marker is worth at a place. -/
import Derived.Test.YtibmokkalloabaaMkB
open Go.RowKit Go.Own
namespace Go.Proofs.Ytibmokkalloabaa

theorem Reads.sliced {C : Asn} {sz n cap : Nat} {ao : Option Addr} {xs : List Value} (h : Reads C sz (.slice ao n cap) n xs) {l u m : Nat} (h1 : l ≤ u) (h2 : u ≤ n) (h3 : u ≤ m) (h4 : m ≤ cap) : Reads C sz (sliced ao l u m sz) (u - l) ((xs.drop (l * sz)).take ((u - l) * sz)) := by
  intro B w hB
  obtain ⟨S, h5, h6⟩ := h B w hB
  exact ⟨S, h5.sliced h1 h2 h3 h4, h6⟩

def chkE (B : Nat) (n N : Int) : Nat := if markE B n ≠ 0 then markE B n else if N < 2 ∨ 16 < N then 1 else 0
theorem markE_or (B : Nat) (n : Int) : markE B n = 0 ∨ markE B n = 220 := by unfold markE; split <;> simp

theorem loadM {w : World} {q : Nat} {B : Nat} {n : Int} {L : List Asn} (h : Hold w (cellsA q 24 [.int .u64 B, .int .i64 n] :: L)) : w.cell? ⟨q, 0, none⟩ = some (.int .u64 B) ∧ w.cell? ⟨q, 1, none⟩ = some (.int .i64 n) := ⟨h.cell 0, h.cell 1⟩

set_option maxRecDepth 20000 in
theorem mcheck_ok (B : Nat) (n N : Int) (hB : B < 18446744073709551616) (w : World) (L : List Asn) (h : Hold w L) :
    Calls Try.prog 37 #[.agg #[.int .u64 B, .int .i64 n], .int .i64 N] w fun e w' => e = .returned (.int .i64 (chkE B n N)) ∧ Hold w' L := by
  have hb := h.box 24 [.int .u64 B, .int .i64 n]
  have P := fun w L h => check_ok B n hB w L h
  rcases markE_or B n with h0 | h0
  · rw [h0] at P
    by_cases h1 : N < 2 ∨ 16 < N
    · have e1 : chkE B n N = 1 := by rw [chkE, if_neg (by omega), if_pos h1]
      rw [e1]
      rcases h1 with h1 | h1
      all_goals
        go_enter Try.func37, Try.ntmps37
        go_upto_region 1 with (fail)
        refine gen_world hb (fun w1 hb => ?_)
        generalize w.heap.size = q at *
        obtain ⟨g0, g1⟩ := loadM hb
        go_wp2_with (go_at_call 25; refine (P _ _ hb).mono ?_; rintro e w2 ⟨rfl, h2⟩)
        go_ret
        exact ⟨rfl, h2.drop⟩
    · have e1 : chkE B n N = 0 := by rw [chkE, if_neg (by omega), if_neg h1]
      rw [e1]
      have n1 : 2 ≤ N := by omega
      have n2 : N ≤ 16 := by omega
      clear h1
      go_enter Try.func37, Try.ntmps37
      go_upto_region 1 with (fail)
      refine gen_world hb (fun w1 hb => ?_)
      generalize w.heap.size = q at *
      obtain ⟨g0, g1⟩ := loadM hb
      go_wp2_with (go_at_call 25; refine (P _ _ hb).mono ?_; rintro e w2 ⟨rfl, h2⟩)
      go_ret
      exact ⟨rfl, h2.drop⟩
  · have e1 : chkE B n N = 220 := by rw [chkE, if_pos (by omega), h0]
    rw [e1]
    rw [h0] at P
    go_enter Try.func37, Try.ntmps37
    go_upto_region 1 with (fail)
    refine gen_world hb (fun w1 hb => ?_)
    generalize w.heap.size = q at *
    obtain ⟨g0, g1⟩ := loadM hb
    go_wp2_with (go_at_call 25; refine (P _ _ hb).mono ?_; rintro e w2 ⟨rfl, h2⟩)
    go_ret
    exact ⟨rfl, h2.drop⟩

/-- All levels are below N. -/
def allB (N : Int) (ys : List UInt8) : Bool := ys.all fun y => decide ((y.toNat : Int) < N)
theorem allB_no {N : Int} {ys : List UInt8} {k : Nat} (hk : k < ys.length) (h : N ≤ ((ys[k]).toNat : Int)) : allB N ys = false := by
  rw [allB, List.all_eq_false]
  exact ⟨ys[k], List.getElem_mem hk, by simp; omega⟩
theorem allB_yes {N : Int} {ys : List UInt8} (h : ∀ k (hk : k < ys.length), ((ys[k]).toNat : Int) < N) : allB N ys = true := by
  rw [allB, List.all_eq_true]
  intro y hy
  obtain ⟨k, hk, rfl⟩ := List.getElem_of_mem hy
  simpa using h k hk

def AllRel (n : Nat) (N : Int) (ys : List UInt8) (C : Asn) (L : List Asn) (i : Value) (wr : World) : Prop := ∃ k : Nat, k ≤ n ∧ i = .int .i64 k ∧ (∀ j (hj : j < ys.length), j < k → ((ys[j]).toNat : Int) < N) ∧ Hold wr (C :: L)

set_option maxRecDepth 20000 in
theorem allBelow_ok (N : Int) (ys : List UInt8) (C : Asn) (ao : Option Addr) (n cap : Nat) (hR : Reads C 1 (.slice ao n cap) n (ub ys)) (w : World) (L : List Asn) (h : Hold w (C :: L)) :
    Calls Try.prog 38 #[.int .i64 N, .slice ao n cap] w fun e w' => e = .returned (.bool (allB N ys)) ∧ Hold w' (C :: L) := by
  obtain ⟨S0, r0⟩ := h.reads hR
  obtain ⟨b1, b2, b3⟩ := r0.bounds
  unfold maxLen at b3
  have hyn : ys.length = n := by simpa using b1
  have HY := Lib.hid hyn
  clear r0 b1 hyn
  go_enter Try.func38, Try.ntmps38
  go_wp2
  go_loopw [9] (fun i wr => AllRel n N ys C L i wr) (fun i _ => n - (intOf i).toNat)
  case atStart => exact ⟨0, by omega, rfl, fun j _ h => by omega, h⟩
  case round =>
    clear h
    obtain ⟨k, hk, rfl, hlow, hr⟩ := hrel
    have HLow := Lib.hid hlow
    clear hlow
    by_cases hlt : k < n
    · have hki : (k : Int) < n := by omega
      have hky : k < ys.length := by have := HY.out; omega
      obtain ⟨S, hrd⟩ := hr.reads hR
      obtain ⟨rb, ro, rfl, -, -, hcs⟩ := hrd.addr (by omega)
      have c0 : wr.cell? ⟨rb, ro + k, none⟩ = some (.int .u8 ((ys[k]).toNat : Nat)) := (hcs k (by omega)).trans (ub_get ys k hky)
      have hx : (ys[k]).toNat < 256 := (ys[k]).toNat_lt
      clear hcs hrd
      by_cases hb : N ≤ ((ys[k]).toNat : Int)
      · have HE := Lib.hid (allB_no hky hb)
        generalize (ys[k]).toNat = z at *
        go_wp2
        go_ret
        exact ⟨by rw [HE.out]; rfl, hr⟩
      · have hb2 : ((ys[k]).toNat : Int) < N := by omega
        have HB := Lib.hid hb2
        have hs : ∀ j (hj : j < ys.length), j < k + 1 → ((ys[j]).toNat : Int) < N := fun j hj hjk => by
          rcases Nat.lt_or_ge j k with h1 | h1
          · exact HLow.out j hj h1
          · obtain rfl : j = k := by omega
            exact HB.out
        have HS := Lib.hid hs
        clear hb hs
        generalize (ys[k]).toNat = z at *
        go_wp2
        go_roundw
        case rel => exact ⟨k + 1, by omega, by go_num, HS.out, hr⟩
        case measure => simp [intOf]; omega
    · obtain rfl : n = k := by omega
      have e : allB N ys = true := allB_yes fun j hj => HLow.out j hj (by have := HY.out; omega)
      have HE := Lib.hid e
      clear e
      go_wp2
      go_ret
      exact ⟨by rw [HE.out]; rfl, hr⟩

end Go.Proofs.Ytibmokkalloabaa
