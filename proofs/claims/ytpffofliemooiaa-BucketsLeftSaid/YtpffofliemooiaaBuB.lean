/- Contracts: buckets of metrics; what a row of buckets is in memory. -/
import Derived.Test.YtpffofliemooiaaBuA
import Derived.Deep.LoopGhost
open Go.RowKit Go.Own
namespace Go.Proofs.Ytpffofliemooiaa

def I64 (n : Int) : Prop := -9223372036854775808 ≤ n ∧ n ≤ 9223372036854775807
def is (xs : List Int) : List Value := xs.map fun x => .int .i64 x
@[simp] theorem is_length (xs : List Int) : (is xs).length = xs.length := by simp [is]
theorem is_get {xs : List Int} {i : Nat} (h : i < xs.length) : (is xs)[i]? = some (.int .i64 xs[i]) := by simp [is, h]

theorem num_any (e : Int) (w : World) : Calls Try.prog 10 #[.int .i64 e] w fun r w' => r = .returned (.int .i64 e) ∧ w = w' := by
  go_enter Try.func10, Try.ntmps10
  go_wp2
  go_ret
  exact ⟨rfl, rfl⟩

theorem idx_I64 {m d : Int} (hm : I64 m) (hd : 1 ≤ d) : I64 (m / d) := by
  obtain ⟨h1, h2⟩ := hm
  refine ⟨Int.le_ediv_of_mul_le (by omega) (by omega), ?_⟩
  have : m / d < 9223372036854775808 := Int.ediv_lt_of_lt_mul (by omega) (by omega)
  omega

theorem index_ok (m d : Int) (hm : I64 m) (h1 : 1 ≤ d) (w : World) : Calls Try.prog 27 #[.int .i64 m, .int .i64 d] w fun e w' => e = .returned (.int .i64 (m / d)) ∧ w = w' := by
  have hf := tdiv_floor m d h1
  obtain ⟨q1, q2⟩ := idx_I64 hm h1
  obtain ⟨m1, m2⟩ := hm
  have hdne : ¬ d = 0 := by omega
  by_cases hr : m.tmod d < 0
  · rw [if_pos hr] at hf
    have W1 : wrap64 (m.tdiv d - 1) = m.tdiv d - 1 := IntWalk.wrap64_in _ (by omega)
    have HF := Lib.hid hf
    clear hf q1 q2
    go_enter Try.func27, Try.ntmps27
    go_wp2
    go_ret
    exact ⟨by rw [← HF.out, W1]; rfl, rfl⟩
  · rw [if_neg hr] at hf
    have HF := Lib.hid hf
    have hr2 : 0 ≤ m.tmod d := by omega
    clear hf q1 q2 hr
    go_enter Try.func27, Try.ntmps27
    go_wp2
    go_ret
    exact ⟨by rw [← HF.out]; rfl, rfl⟩

def idxE (d : Int) : Nat := if d < 1 ∨ 65536 < d then 140 else 0
def idxV (m d : Int) : Int := if d < 1 ∨ 65536 < d then 0 else m / d
set_option maxRecDepth 20000 in
theorem Index_ok (m d : Int) (hm : I64 m) (w : World) : Calls Try.prog 17 #[.int .i64 m, .int .i64 d] w fun e w' => e = .returned (.tuple #[.int .i64 (idxV m d), .int .i64 (idxE d)]) ∧ w = w' := by
  unfold idxE idxV
  by_cases h : d < 1 ∨ 65536 < d
  · rw [if_pos h, if_pos h]
    have h2 : d < 1 ∨ 1 ≤ d ∧ 65536 < d := by omega
    clear h
    rcases h2 with h | ⟨h, h2⟩
    all_goals
      go_enter Try.func17, Try.ntmps17
      go_wp2
      go_ret2
      exact ⟨rfl, rfl⟩
  · rw [if_neg h, if_neg h]
    have h1 : 1 ≤ d := by omega
    have h2 : d ≤ 65536 := by omega
    have P := fun w => index_ok m d hm h1 w
    clear h
    go_enter Try.func17, Try.ntmps17
    go_wp2_with (go_at_call 27; refine (P _).mono ?_; rintro e w1 ⟨rfl, rfl⟩)
    go_ret2
    exact ⟨rfl, rfl⟩
set_option maxRecDepth 20000 in
theorem rIndex_ok (m d : Int) (hm : I64 m) (w : World) : Calls Try.prog 14 #[.int .i64 m, .int .i64 d] w fun e w' => e = .returned (.tuple #[.int .i64 (idxV m d), .int .i64 (idxE d)]) ∧ w = w' := by
  unfold idxE idxV
  by_cases h : d < 1 ∨ 65536 < d
  · rw [if_pos h, if_pos h]
    have h2 : d < 1 ∨ 1 ≤ d ∧ 65536 < d := by omega
    clear h
    rcases h2 with h | ⟨h, h2⟩
    all_goals
      go_enter Try.func14, Try.ntmps14
      go_wp2
      go_ret2
      exact ⟨rfl, rfl⟩
  · rw [if_neg h, if_neg h]
    have h1 : 1 ≤ d := by omega
    have h2 : d ≤ 65536 := by omega
    clear h
    have hf := tdiv_floor m d h1
    obtain ⟨q1, q2⟩ := idx_I64 hm h1
    obtain ⟨m1, m2⟩ := hm
    have hdne : ¬ d = 0 := by omega
    by_cases hr : m.tmod d < 0
    · rw [if_pos hr] at hf
      have W1 : wrap64 (m.tdiv d - 1) = m.tdiv d - 1 := IntWalk.wrap64_in _ (by omega)
      have HF := Lib.hid hf
      clear hf q1 q2
      go_enter Try.func14, Try.ntmps14
      go_wp2
      go_ret2
      exact ⟨by rw [← HF.out, W1]; rfl, rfl⟩
    · rw [if_neg hr] at hf
      have HF := Lib.hid hf
      have hr2 : 0 ≤ m.tmod d := by omega
      clear hf q1 q2 hr
      go_enter Try.func14, Try.ntmps14
      go_wp2
      go_ret2
      exact ⟨by rw [← HF.out]; rfl, rfl⟩

/-! ### A row of buckets. -/
structure BS where
  d : Int
  lo : Int
  hi : Int
  cp : Int
  base : Int
  rows : List (List Int)
  n : Nat
  low : Nat
  top : Nat
  mark : Int
  marked : Bool

def BS.cells (S : BS) (v : Value) : List Value := [.int .i64 S.d, .int .i64 S.lo, .int .i64 S.hi, .int .i64 S.cp, .int .i64 S.base, v, .int .i64 S.n, .int .i64 S.low, .int .i64 S.top, .int .i64 S.mark, .bool S.marked]
/-- The slices of the rows, and the rows themselves; vs: where each lies, and its room. -/
def sl : List (List Int) → List (Option Addr × Nat) → List Value
  | xs :: rows, v :: vs => .slice v.1 xs.length v.2 :: sl rows vs
  | _, _ => []
def rws : List (List Int) → List (Option Addr × Nat) → List Asn
  | xs :: rows, v :: vs => rowA 3 1 v.1 xs.length v.2 (is xs) :: rws rows vs
  | _, _ => []
theorem sl_get : ∀ {rows : List (List Int)} {vs : List (Option Addr × Nat)} {k : Nat} {xs : List Int}, vs.length = rows.length → rows[k]? = some xs → ∃ v, vs[k]? = some v ∧ (sl rows vs)[k]? = some (.slice v.1 xs.length v.2) ∧ (rws rows vs)[k]? = some (rowA 3 1 v.1 xs.length v.2 (is xs))
  | [], _, k, xs, _, h => by simp at h
  | _ :: _, [], _, _, h, _ => by simp at h
  | x :: rows, v :: vs, 0, xs, _, h => by
    simp at h; subst h
    exact ⟨v, rfl, rfl, rfl⟩
  | x :: rows, v :: vs, k + 1, xs, hl, h => by
    obtain ⟨u, h1, h2, h3⟩ := sl_get (rows := rows) (vs := vs) (k := k) (by simpa using hl) (by simpa using h)
    exact ⟨u, by simpa using h1, by simpa [sl] using h2, by simpa [rws] using h3⟩
theorem sl_length : ∀ {rows : List (List Int)} {vs : List (Option Addr × Nat)}, vs.length = rows.length → (sl rows vs).length = rows.length
  | [], [], _ => rfl
  | x :: rows, v :: vs, h => by simp [sl, sl_length (rows := rows) (vs := vs) (by simpa using h)]
theorem rws_length : ∀ {rows : List (List Int)} {vs : List (Option Addr × Nat)}, vs.length = rows.length → (rws rows vs).length = rows.length
  | [], [], _ => rfl
  | x :: rows, v :: vs, h => by simp [rws, rws_length (rows := rows) (vs := vs) (by simpa using h)]
theorem sl_set : ∀ (rows : List (List Int)) (vs : List (Option Addr × Nat)) (k : Nat) (xs : List Int) (v : Option Addr × Nat), sl (rows.set k xs) (vs.set k v) = (sl rows vs).set k (.slice v.1 xs.length v.2)
  | [], [], k, xs, v => by simp [sl]
  | [], _ :: _, k, xs, v => by simp [sl]
  | _ :: _, [], k, xs, v => by cases k <;> simp [sl]
  | x :: rows, u :: vs, 0, xs, v => rfl
  | x :: rows, u :: vs, k + 1, xs, v => by simp [sl, sl_set rows vs k xs v]
theorem rws_set : ∀ (rows : List (List Int)) (vs : List (Option Addr × Nat)) (k : Nat) (xs : List Int) (v : Option Addr × Nat), rws (rows.set k xs) (vs.set k v) = (rws rows vs).set k (rowA 3 1 v.1 xs.length v.2 (is xs))
  | [], [], k, xs, v => by simp [rws]
  | [], _ :: _, k, xs, v => by simp [rws]
  | _ :: _, [], k, xs, v => by cases k <;> simp [rws]
  | x :: rows, u :: vs, 0, xs, v => rfl
  | x :: rows, u :: vs, k + 1, xs, v => by simp [rws, rws_set rows vs k xs v]

/-- Buckets at block b. -/
def bkA (b : Nat) (S : BS) : Asn := exA fun p : Option Addr × Nat × List (Option Addr × Nat) => starA (pureA (p.2.2.length = S.rows.length)) (starA (cellsA b 67 (S.cells (.slice p.1 S.rows.length p.2.1))) (starA (rowA 24 1 p.1 S.rows.length p.2.1 (sl S.rows p.2.2)) (starL (rws S.rows p.2.2))))
theorem bk_open {w : World} {b : Nat} {S : BS} {L : List Asn} (h : Hold w (bkA b S :: L)) : ∃ ro rc vs, vs.length = S.rows.length ∧ Hold w (cellsA b 67 (S.cells (.slice ro S.rows.length rc)) :: rowA 24 1 ro S.rows.length rc (sl S.rows vs) :: starL (rws S.rows vs) :: L) := by
  obtain ⟨⟨ro, rc, vs⟩, h1⟩ := Hold.ex.1 h
  obtain ⟨h2, h3⟩ := Hold.pure.1 (Hold.star.1 h1)
  have h4 := (Hold.star.1 h3).mv 1
  have h5 := Hold.star.1 h4
  exact ⟨ro, rc, vs, h2, h5.arr [2, 0, 1]⟩
theorem bk_close {w : World} {b : Nat} {S : BS} {L : List Asn} {ro : Option Addr} {rc : Nat} {vs : List (Option Addr × Nat)} (hl : vs.length = S.rows.length) (h : Hold w (cellsA b 67 (S.cells (.slice ro S.rows.length rc)) :: rowA 24 1 ro S.rows.length rc (sl S.rows vs) :: starL (rws S.rows vs) :: L)) : Hold w (bkA b S :: L) := by
  refine Hold.ex.2 ⟨(ro, rc, vs), Hold.star.2 (Hold.pure.2 ⟨hl, Hold.star.2 ?_⟩)⟩
  exact (Hold.star.2 (h.arr [1, 2, 0])).swap

end Go.Proofs.Ytpffofliemooiaa
