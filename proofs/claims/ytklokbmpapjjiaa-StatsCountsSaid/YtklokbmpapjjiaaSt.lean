/- What statistics are, in plain numbers. -/
import Derived.Test.YtklokbmpapjjiaaProg
import Derived.Test.YtklokbmpapjjiaaHold
open Go.RowKit Go.Own
namespace Go.Proofs.Ytklokbmpapjjiaa

/-- Levels, and 32 counts: of zeros at 0 .. 15, of ones at 16 .. 31. -/
structure SV where
  lv : Int
  c : Nat → Nat

def SV.ok (s : SV) : Prop := -9223372036854775808 ≤ s.lv ∧ s.lv ≤ 9223372036854775807 ∧ ∀ i, i < 32 → s.c i < 4294967296

def u32s (n : Nat) (c : Nat → Nat) : List Value := (List.range n).map fun i => .int .u32 (c i : Int)

theorem u32s_get {n : Nat} {c : Nat → Nat} {i : Nat} (h : i < n) : (u32s n c)[i]? = some (.int .u32 (c i : Int)) := by simp [u32s, h]
theorem u32s_length (n : Nat) (c : Nat → Nat) : (u32s n c).length = n := by simp [u32s]
theorem u32s_congr {n : Nat} {c d : Nat → Nat} (h : ∀ i, i < n → c i = d i) : u32s n c = u32s n d := by
  unfold u32s
  refine List.map_congr_left fun i hi => ?_
  rw [h i (by simpa using hi)]

def upd (c : Nat → Nat) (i x : Nat) : Nat → Nat := fun j => if j = i then x else c j

theorem u32s_set {n : Nat} {c : Nat → Nat} {i : Nat} (x : Nat) : (u32s n c).set i (.int .u32 (x : Int)) = u32s n (upd c i x) := by
  apply List.ext_getElem?
  intro j
  rw [List.getElem?_set]
  by_cases hj : j < n
  · rw [u32s_get (c := upd c i x) hj]
    by_cases e : i = j
    · subst e; simp [hj, upd, u32s_length]
    · rw [if_neg e, u32s_get hj]; simp [upd, Ne.symm e]
  · have h1 : (u32s n (upd c i x))[j]? = none := by simp [u32s, hj]
    have h2 : (u32s n c)[j]? = none := by simp [u32s, hj]
    rw [h1]
    by_cases e : i = j
    · subst e; rw [if_pos rfl, if_neg (by rw [u32s_length]; exact hj)]
    · rw [if_neg e, h2]

def enc (s : SV) : List Value := .int .i64 s.lv :: u32s 32 s.c

theorem enc_length (s : SV) : (enc s).length = 33 := by simp [enc, u32s_length]
theorem enc_get {s : SV} {i : Nat} (h : i < 32) : (enc s)[i + 1]? = some (.int .u32 (s.c i : Int)) := by simp [enc, u32s_get h]
theorem enc_at {s : SV} {i j : Nat} (h : i < 32) (hj : j = i + 1) : (enc s)[j]? = some (.int .u32 (s.c i : Int)) := by subst hj; exact enc_get h
theorem enc_lv (s : SV) : (enc s)[0]? = some (.int .i64 s.lv) := rfl
theorem enc_set (s : SV) (i x : Nat) : (enc s).set (i + 1) (.int .u32 (x : Int)) = enc ⟨s.lv, upd s.c i x⟩ := by
  simp [enc, u32s_set]
theorem enc_congr {s t : SV} (h : s.lv = t.lv) (hc : ∀ i, i < 32 → s.c i = t.c i) : enc s = enc t := by
  unfold enc; rw [h, u32s_congr hc]

/-- What makes row r bad. -/
def badAt (s : SV) (r : Nat) : Bool :=
  decide (4095 < s.c r) || decide (4095 < s.c (16 + r)) || (decide (s.lv ≤ r) && !(s.c r == 0 && s.c (16 + r) == 0)) || (decide ((r : Int) < s.lv) && (s.c r == 0 && s.c (16 + r) == 0))

theorem bad_of {s : SV} {r : Nat} (h : 4095 < s.c r ∨ 4095 < s.c (16 + r) ∨ (s.lv ≤ r ∧ ¬ (s.c r = 0 ∧ s.c (16 + r) = 0)) ∨ ((r : Int) < s.lv ∧ s.c r = 0 ∧ s.c (16 + r) = 0)) : badAt s r = true := by
  cases hb : badAt s r with
  | true => rfl
  | false =>
    simp only [badAt, Bool.or_eq_false_iff, Bool.and_eq_false_iff, decide_eq_false_iff_not, Bool.not_eq_false', Bool.and_eq_true, beq_iff_eq, beq_eq_false_iff_ne] at hb
    omega
theorem good_of {s : SV} {r : Nat} (h : ¬ (4095 < s.c r ∨ 4095 < s.c (16 + r) ∨ (s.lv ≤ r ∧ ¬ (s.c r = 0 ∧ s.c (16 + r) = 0)) ∨ ((r : Int) < s.lv ∧ s.c r = 0 ∧ s.c (16 + r) = 0))) : badAt s r = false := by
  cases hb : badAt s r with
  | false => rfl
  | true =>
    simp only [badAt, Bool.or_eq_true, Bool.and_eq_true, decide_eq_true_eq, Bool.not_eq_true', Bool.and_eq_false_iff, beq_iff_eq, beq_eq_false_iff_ne] at hb
    omega

def sumTo (c : Nat → Nat) : Nat → Nat
  | 0 => 0
  | k + 1 => sumTo c k + c k

def ones (c : Nat → Nat) : Nat → Nat := fun i => c (16 + i)

/-- Check's answer. -/
def check (s : SV) : Nat :=
  if s.lv < 2 ∨ 16 < s.lv then 90 else if (List.range 16).any (badAt s) then 90 else if sumTo s.c 16 = 0 ∨ sumTo (ones s.c) 16 = 0 then 90 else 0

theorem check_lv {s : SV} (h : s.lv < 2 ∨ 16 < s.lv) : check s = 90 := by unfold check; rw [if_pos h]
theorem check_bad {s : SV} {r : Nat} (hr : r < 16) (h : badAt s r = true) : check s = 90 := by
  unfold check
  split
  · rfl
  · rw [if_pos (List.any_eq_true.2 ⟨r, by simpa using hr, h⟩)]
theorem check_end {s : SV} (h : ¬ (s.lv < 2 ∨ 16 < s.lv)) (hb : ∀ r, r < 16 → badAt s r = false) : check s = if sumTo s.c 16 = 0 ∨ sumTo (ones s.c) 16 = 0 then 90 else 0 := by
  unfold check
  rw [if_neg h, if_neg]
  intro h
  obtain ⟨r, hr, h⟩ := List.any_eq_true.1 h
  rw [hb r (by simpa using hr)] at h
  cases h

theorem good_at {s : SV} {r : Nat} (h : badAt s r = false) : s.c r ≤ 4095 ∧ s.c (16 + r) ≤ 4095 ∧ (s.lv ≤ r → s.c r = 0 ∧ s.c (16 + r) = 0) ∧ ((r : Int) < s.lv → ¬ (s.c r = 0 ∧ s.c (16 + r) = 0)) := by
  simp only [badAt, Bool.or_eq_false_iff, Bool.and_eq_false_iff, decide_eq_false_iff_not, Bool.not_eq_false', Bool.and_eq_true, beq_iff_eq, beq_eq_false_iff_ne] at h
  omega

theorem sumTo_le {c : Nat → Nat} {k m : Nat} (h : ∀ r, r < k → c r ≤ m) : sumTo c k ≤ k * m := by
  induction k with
  | zero => simp [sumTo]
  | succ k ih =>
    have h1 := ih (fun r hr => h r (by omega))
    have h2 := h k (by omega)
    have h3 : (k + 1) * m = k * m + m := Nat.succ_mul k m
    simp only [sumTo]
    omega

end Go.Proofs.Ytklokbmpapjjiaa
