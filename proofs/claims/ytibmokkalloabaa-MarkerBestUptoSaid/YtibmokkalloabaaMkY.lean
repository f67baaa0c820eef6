/- Contracts: is it a marker, and are there so many levels; the walk of MarkerOne. -/
import Derived.Test.YtibmokkalloabaaMkW
open Go.RowKit Go.Own
namespace Go.Proofs.Ytibmokkalloabaa

def rightB (B : Nat) (n N : Int) : Bool := decide (chkE B n N = 0)
set_option maxRecDepth 20000 in
theorem right_ok (B : Nat) (n N : Int) (hB : B < 18446744073709551616) (w : World) (L : List Asn) (h : Hold w L) :
    Calls Try.prog 17 #[.agg #[.int .u64 B, .int .i64 n], .int .i64 N] w fun e w' => e = .returned (.bool (rightB B n N)) ∧ Hold w' L := by
  have hb := h.box 24 [.int .u64 B, .int .i64 n]
  have PC := fun w L h => rcheck_ok B n hB w L h
  unfold rightB
  rcases chk_view B n N with ⟨h1, h2⟩ | ⟨h1, h2, h3⟩ | ⟨h1, h2, h3, h4, m, rfl, h5, h6⟩
  · rw [h1, decide_eq_false (by omega)]
    rw [h2] at PC
    go_enter Try.func17, Try.ntmps17
    go_upto_region 1 with (fail)
    refine gen_world hb (fun w1 hb => ?_)
    generalize w.heap.size = q at *
    obtain ⟨g0, g1⟩ := loadM hb
    go_wp2_with (go_at_call 26; refine (PC _ _ hb).mono ?_; rintro e w2 ⟨rfl, h2⟩)
    go_ret
    exact ⟨rfl, h2.drop⟩
  · rw [h1, decide_eq_false (by omega)]
    rw [h2] at PC
    have h4 : N < 2 ∨ 2 ≤ N ∧ 16 < N := by omega
    clear h1 h3
    have h6 : N < 2 ∨ 2 ≤ N ∧ decide (N ≤ 16) = false := by
      rcases h4 with h4 | ⟨h4, h5⟩
      · exact .inl h4
      · exact .inr ⟨h4, by simp; omega⟩
    clear h4
    rcases h6 with h4 | ⟨h4, h5⟩
    all_goals
      go_enter Try.func17, Try.ntmps17
      go_upto_region 1 with (fail)
      refine gen_world hb (fun w1 hb => ?_)
      generalize w.heap.size = q at *
      obtain ⟨g0, g1⟩ := loadM hb
      go_wp2_with (go_at_call 26; refine (PC _ _ hb).mono ?_; rintro e w2 ⟨rfl, h2⟩)
      go_ret
      exact ⟨rfl, h2.drop⟩
  · rw [h1, decide_eq_true rfl]
    rw [h2] at PC
    clear h1
    go_enter Try.func17, Try.ntmps17
    go_upto_region 1 with (fail)
    refine gen_world hb (fun w1 hb => ?_)
    generalize w.heap.size = q at *
    obtain ⟨g0, g1⟩ := loadM hb
    go_wp2_with (go_at_call 26; refine (PC _ _ hb).mono ?_; rintro e w2 ⟨rfl, h2⟩)
    go_ret
    exact ⟨rfl, h2.drop⟩
theorem right_no {B : Nat} {n N : Int} (h : ¬ chkE B n N = 0) : rightB B n N = false := decide_eq_false h
theorem right_yes {B : Nat} {n N : Int} (h : chkE B n N = 0) : rightB B n N = true := decide_eq_true h

/-- One level changed. -/
theorem atS_set (N : Int) (B n : Nat) (ys : List UInt8) (a : Nat) (l : UInt8) (ha : a < ys.length) : ∀ k, atS N B n (ys.set a l) k = atS N B n ys k + if a < k then wgt N (bitOf B n a) l.toNat - wgt N (bitOf B n a) (ys.getD a 0).toNat else 0
  | 0 => by simp [atS]
  | k + 1 => by
    have ih := atS_set N B n ys a l ha k
    simp only [atS]
    rw [ih]
    by_cases h : a = k
    · subst h
      have e : (ys.set a l).getD a 0 = l := by simp [List.getD, ha]
      rw [e, if_neg (by omega), if_pos (by omega)]
      omega
    · have e : (ys.set a l).getD k 0 = ys.getD k 0 := by simp [List.getD, List.getElem?_set_ne h]
      rw [e]
      by_cases h2 : a < k
      · rw [if_pos h2, if_pos (by omega)]; omega
      · rw [if_neg h2, if_neg (by omega)]; omega
theorem valAt_set (N : Int) (B n : Nat) (ys : List UInt8) (p a : Nat) (l : UInt8) (h : p + a < ys.length) (ha : a < n) :
    valAt N B n (ys.set (p + a) l) p - valAt N B n ys p = (if bitOf B n a = 0 then -1 else 1) * (2 * ((l.toNat : Int) - ((ys[p + a]).toNat : Int))) := by
  unfold valAt
  have e : (ys.set (p + a) l).drop p = (ys.drop p).set a l := by
    rw [List.drop_set, if_neg (by omega), Nat.add_sub_cancel_left]
  rw [e, atS_set N B n (ys.drop p) a l (by simp; omega) n, if_pos ha]
  have e2 : (ys.drop p).getD a 0 = ys[p + a] := by simp [List.getD, h]
  rw [e2]
  unfold wgt
  split <;> omega
theorem allB_set {N : Int} {ys : List UInt8} {p n a : Nat} {l : UInt8} (h : allB N ((ys.drop p).take n) = true) (hl : (l.toNat : Int) < N) : allB N (((ys.set (p + a) l).drop p).take n) = true := by
  have e : (ys.set (p + a) l).drop p = (ys.drop p).set a l := by
    rw [List.drop_set, if_neg (by omega), Nat.add_sub_cancel_left]
  rw [e, List.take_set]
  rw [allB, List.all_eq_true] at h ⊢
  intro y hy
  rcases List.mem_or_eq_of_mem_set hy with h1 | rfl
  · exact h y h1
  · simpa using hl
theorem ub_set (ys : List UInt8) (j : Nat) (l : UInt8) : ub (ys.set j l) = (ub ys).set j (.int .u8 (l.toNat : Int)) := by
  simp [ub, List.map_set]
theorem ownA_set {ao : Option Addr} {n cap : Nat} {ys : List UInt8} {w : World} {L : List Asn} {b o : Nat} (he : ao = some ⟨b, o, none⟩) (hn : ys.length = n) (h : Hold w (ownA ao n cap ys :: L)) (j : Nat) (hj : j < n) (l : UInt8) :
    Hold (w.setCell ⟨b, o + j, none⟩ (.int .u8 (l.toNat : Int))) (ownA ao n cap (ys.set j l) :: L) := by
  subst he
  have := Hold.put h j (by omega) (.int .u8 (l.toNat : Int))
  unfold ownA
  rw [ub_set]
  rwa [List.set_append_left _ _ (by simpa using (by omega : j < ys.length))] at this

end Go.Proofs.Ytibmokkalloabaa
