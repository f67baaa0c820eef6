/- A sender told plainly: what it keeps, its numbers, its steps. -/
import Derived.Test.YtjnjbmkkfkdhcaaArr
namespace Go.Proofs.Ytjnjbmkkfkdhcaa

structure SS where
  window : Nat
  store : Nat
  timeout : Nat
  base : Nat
  next : Nat
  top : Nat
  fin : Nat
  timer : Nat
  L : List (List UInt8)

structure SI (S : SS) : Prop where
  w1 : 1 ≤ S.window
  ws : S.window ≤ S.store
  s256 : S.store ≤ 256
  t1 : 1 ≤ S.timeout
  tm : S.timeout ≤ 1048576
  tl : S.timer < S.timeout
  bn : S.base ≤ S.next
  nt : S.next ≤ S.top
  tf : S.top ≤ S.fin
  fin : S.fin = S.base + S.L.length
  max : S.fin ≤ 4294967295
  ll : S.L.length ≤ S.store
  win : S.next - S.base ≤ S.window
  rest : S.base = S.next → S.timer = 0
  short : ∀ l ∈ S.L, l.length ≤ 64

def tickS (S : SS) : SS := if S.base < S.next then (if S.timer + 1 = S.timeout then { S with next := S.base, timer := 0 } else { S with timer := S.timer + 1 }) else S
def ready (S : SS) : Bool := decide (S.next < S.fin ∧ S.next - S.base < S.window)
def goS (S : SS) : SS := { S with next := S.next + 1, top := max S.top (S.next + 1) }
def slotS (S : SS) : SS := if ready (tickS S) then goS (tickS S) else tickS S
def sendE (S : SS) (n : Nat) : Nat := if 64 < n then 6 else if S.fin = 4294967295 then 4 else if S.L.length = S.store then 2 else 0
def addS (S : SS) (x : List UInt8) : SS := { S with fin := S.fin + 1, L := S.L ++ [x] }
def ackN (S : SS) (n : Nat) : Nat := if n ≤ S.base ∨ S.top < n then 0 else n - S.base
def ackS (S : SS) (n : Nat) : SS := if n ≤ S.base ∨ S.top < n then S else { S with base := n, next := max S.next n, timer := 0, L := S.L.drop (n - S.base) }
def newS (w s t f : Nat) : SS := ⟨w, s, t, f, f, f, f, 0, []⟩

theorem SI.new {w s t f : Nat} (h1 : 1 ≤ w) (h2 : w ≤ s) (h3 : s ≤ 256) (h4 : 1 ≤ t) (h5 : t ≤ 1048576) (h6 : f ≤ 4294967295) : SI (newS w s t f) :=
  ⟨h1, h2, h3, h4, h5, h4, Nat.le_refl _, Nat.le_refl _, Nat.le_refl _, rfl, h6, Nat.zero_le _, by simp [newS], fun _ => rfl, by simp [newS]⟩
theorem SI.tick {S : SS} (H : SI S) : SI (tickS S) := by
  obtain ⟨a1, a2, a3, a4, a5, a6, a7, a8, a9, b1, b2, b3, b4, b5, b6⟩ := H
  unfold tickS
  split
  · split
    · exact ⟨a1, a2, a3, a4, a5, by simp; omega, Nat.le_refl _, by simp; omega, a9, b1, b2, b3, by simp, fun _ => rfl, b6⟩
    · exact ⟨a1, a2, a3, a4, a5, by simp; omega, a7, a8, a9, b1, b2, b3, b4, fun h => by simp at h; omega, b6⟩
  · exact ⟨a1, a2, a3, a4, a5, a6, a7, a8, a9, b1, b2, b3, b4, b5, b6⟩
theorem SI.go {S : SS} (H : SI S) (h : ready S = true) : SI (goS S) := by
  obtain ⟨a1, a2, a3, a4, a5, a6, a7, a8, a9, b1, b2, b3, b4, b5, b6⟩ := H
  simp only [ready, decide_eq_true_eq] at h
  refine ⟨a1, a2, a3, a4, a5, a6, by simp only [goS]; omega, by simp only [goS]; omega, by simp only [goS]; omega, b1, b2, b3, by simp only [goS]; omega, fun h => by simp only [goS] at h; omega, b6⟩
theorem SI.slot {S : SS} (H : SI S) : SI (slotS S) := by
  unfold slotS
  by_cases h : ready (tickS S) = true
  · rw [if_pos h]; exact H.tick.go h
  · rw [if_neg h]; exact H.tick
theorem SI.add {S : SS} (H : SI S) {x : List UInt8} (h : sendE S x.length = 0) : SI (addS S x) := by
  obtain ⟨a1, a2, a3, a4, a5, a6, a7, a8, a9, b1, b2, b3, b4, b5, b6⟩ := H
  unfold sendE at h
  split at h
  · omega
  · split at h
    · omega
    · split at h
      · omega
      · refine ⟨a1, a2, a3, a4, a5, a6, a7, a8, by simp only [addS]; omega, by simp only [addS, List.length_append, List.length_cons, List.length_nil]; omega, by simp only [addS]; omega, by simp only [addS, List.length_append, List.length_cons, List.length_nil]; omega, b4, b5, fun l hl => ?_⟩
        rcases List.mem_append.1 hl with h | h
        · exact b6 l h
        · simp at h; subst h; omega
theorem SI.ack {S : SS} (H : SI S) (n : Nat) : SI (ackS S n) := by
  unfold ackS
  by_cases h : n ≤ S.base ∨ S.top < n
  · rw [if_pos h]; exact H
  · rw [if_neg h]
    obtain ⟨a1, a2, a3, a4, a5, a6, a7, a8, a9, b1, b2, b3, b4, b5, b6⟩ := H
    refine ⟨a1, a2, a3, a4, a5, by simp; omega, by simp only; omega, by simp only; omega, a9, by simp only [List.length_drop]; omega, b2, by simp only [List.length_drop]; omega, by simp only; omega, fun _ => rfl, fun l hl => b6 l (List.mem_of_mem_drop hl)⟩

/-- Places in a ring: from f on, round. -/
structure Ring (rows : List (List UInt8)) (f : Nat) (L : List (List UInt8)) : Prop where
  fl : f < rows.length
  ll : L.length ≤ rows.length
  at_ : ∀ i, i < L.length → rows[(f + i) % rows.length]? = L[i]?
  out : ∀ j, j < rows.length → (∀ i, i < L.length → (f + i) % rows.length ≠ j) → rows[j]? = some []

theorem mod_inj {f m i j : Nat} (hi : i < m) (hj : j < m) (h : (f + i) % m = (f + j) % m) : i = j := by
  have h1 := Nat.div_add_mod (f + i) m
  have h2 := Nat.div_add_mod (f + j) m
  rcases Nat.lt_trichotomy ((f + i) / m) ((f + j) / m) with h3 | h3 | h3
  · have h4 : m * ((f + i) / m + 1) ≤ m * ((f + j) / m) := Nat.mul_le_mul_left m h3
    rw [Nat.mul_add] at h4
    omega
  · rw [h3] at h1; omega
  · have h4 : m * ((f + j) / m + 1) ≤ m * ((f + i) / m) := Nat.mul_le_mul_left m h3
    rw [Nat.mul_add] at h4
    omega

theorem Ring.new (s : Nat) (h : 0 < s) : Ring (List.replicate s []) 0 [] :=
  ⟨by simpa using h, by simp, by simp, fun j hj _ => by simp at hj; simp [hj]⟩
theorem Ring.push {rows L : List (List UInt8)} {f : Nat} (H : Ring rows f L) (hn : L.length < rows.length) (x : List UInt8) : Ring (rows.set ((f + L.length) % rows.length) x) f (L ++ [x]) := by
  have hq : (f + L.length) % rows.length < rows.length := Nat.mod_lt _ (by omega)
  refine ⟨by simpa using H.fl, by simp; omega, fun i hi => ?_, fun j hj ho => ?_⟩
  · simp at hi
    rw [List.length_set]
    by_cases h : i = L.length
    · subst h
      simp [hq]
    · have hne : (f + L.length) % rows.length ≠ (f + i) % rows.length := fun e => h (mod_inj (by omega) hn e.symm)
      rw [List.getElem?_set_ne hne, H.at_ i (by omega), List.getElem?_append_left (by omega)]
  · rw [List.length_set] at hj ho
    have h1 := ho L.length (by simp)
    rw [List.getElem?_set_ne h1]
    exact H.out j hj fun i hi => ho i (by simp; omega)
theorem Ring.cut1 {rows L : List (List UInt8)} {f : Nat} (H : Ring rows f L) (hn : 0 < L.length) : Ring (rows.set f []) ((f + 1) % rows.length) (L.drop 1) := by
  have hl := H.ll
  have hr : ∀ i, ((f + 1) % rows.length + i) % rows.length = (f + (i + 1)) % rows.length := fun i => by rw [Nat.mod_add_mod]; congr 1; omega
  have hf : f % rows.length = f := Nat.mod_eq_of_lt H.fl
  refine ⟨by rw [List.length_set]; exact Nat.mod_lt _ (by omega), by simp; omega, fun i hi => ?_, fun j hj ho => ?_⟩
  · simp at hi
    rw [List.length_set, hr]
    have hne : f ≠ (f + (i + 1)) % rows.length := fun e => by
      have := mod_inj (f := f) (i := 0) (j := i + 1) (m := rows.length) (by omega) (by omega) (by rw [Nat.add_zero, hf]; exact e)
      omega
    rw [List.getElem?_set_ne hne, H.at_ (i + 1) (by omega), List.getElem?_drop, Nat.add_comm]
  · rw [List.length_set] at hj ho
    by_cases h : f = j
    · subst h; simp [hj]
    · rw [List.getElem?_set_ne h]
      refine H.out j hj fun i hi => ?_
      cases i with
      | zero => rw [Nat.add_zero, hf]; exact h
      | succ i => rw [← hr]; exact ho i (by simp; omega)

/-! ### Slots, one behind the other. -/
def slotN : Nat → SS → SS
  | 0, S => S
  | k + 1, S => slotN k (slotS S)
theorem slotN_succ (k : Nat) : ∀ S, slotN (k + 1) S = slotS (slotN k S) := by
  induction k with
  | zero => exact fun S => rfl
  | succ k ih => exact fun S => ih (slotS S)
/-- What a slot sends: its number less the base. -/
def sentD (S : SS) : Option Nat := if ready (tickS S) then some ((tickS S).next - (tickS S).base) else none

end Go.Proofs.Ytjnjbmkkfkdhcaa
