/- An arena's invariant: kids counted. -/
import Derived.Test.YtahhbbcgfhmmgaaArA
namespace Go.Proofs.Ytahhbbcgfhmmgaa

def isKid (i : Int) (p : PL) : Bool := p.taken && decide (p.parent = i)
def kidsOf (l : List PL) (i : Int) : Nat := (l.filter (isKid i)).length
theorem kidsOf_set : ∀ {l : List PL} {j : Nat} {q p : PL} (i : Int), l[j]? = some q → kidsOf (l.set j p) i + (if isKid i q then 1 else 0) = kidsOf l i + (if isKid i p then 1 else 0)
  | [], j, q, p, i, h => by simp at h
  | x :: l, 0, q, p, i, h => by
    simp at h; subst h
    simp only [kidsOf, List.set_cons_zero, List.filter_cons]
    by_cases h1 : isKid i x = true
    · by_cases h2 : isKid i p = true
      · simp [h1, h2]
      · simp [h1, h2]
    · by_cases h2 : isKid i p = true
      · simp [h1, h2]
      · simp [h1, h2]
  | x :: l, j + 1, q, p, i, h => by
    have ih := kidsOf_set (l := l) (j := j) (q := q) (p := p) i (by simpa using h)
    simp only [kidsOf, List.set_cons_succ, List.filter_cons] at ih ⊢
    by_cases h1 : isKid i x = true
    · simp only [h1, if_true, List.length_cons]; omega
    · simp only [h1, Bool.false_eq_true, if_false]; exact ih
theorem kidsOf_append (l : List PL) (p : PL) (i : Int) : kidsOf (l ++ [p]) i = kidsOf l i + (if isKid i p then 1 else 0) := by
  simp only [kidsOf, List.filter_append, List.length_append, List.filter_cons, List.filter_nil]
  split <;> simp
theorem kidsOf_pos {l : List PL} {i : Int} (h : 0 < kidsOf l i) : ∃ (j : Nat) (p : PL), l[j]? = some p ∧ p.taken = true ∧ p.parent = i := by
  unfold kidsOf at h
  obtain ⟨p, hp⟩ := List.exists_mem_of_length_pos h
  obtain ⟨h1, h2⟩ := List.mem_filter.1 hp
  obtain ⟨j, hj⟩ := List.mem_iff_getElem?.1 h1
  simp only [isKid, Bool.and_eq_true, decide_eq_true_eq] at h2
  exact ⟨j, p, hj, h2.1, h2.2⟩

/-- What holds of an arena between two calls; born: when each place was taken last. -/
structure AI (A : AR) (born : Nat → Nat) : Prop where
  cap1 : 1 ≤ A.cap
  cap2 : A.cap ≤ 65536
  len : A.all.length ≤ A.cap
  nodup : A.free.Nodup
  free : ∀ id : Nat, id ∈ A.free ↔ ∃ p, A.all[id]? = some p ∧ p.taken = false
  count : A.taken + A.free.length = A.all.length
  zero : ∀ (i : Nat) (p : PL), A.all[i]? = some p → p.taken = false → p = PL.zero
  up : ∀ (i : Nat) (p : PL), A.all[i]? = some p → p.taken = true → p.parent = -1 ∨ ∃ (u : Nat) (q : PL), p.parent = u ∧ A.all[u]? = some q ∧ q.taken = true ∧ born u < born i
  kids : ∀ (i : Nat) (p : PL), A.all[i]? = some p → p.taken = true → p.kids = kidsOf A.all i
  nums : ∀ (i : Nat) (p : PL), A.all[i]? = some p → p.st ≤ 4294967295 ∧ p.bit ≤ 255
theorem AI.new {c : Nat} (h1 : 1 ≤ c) (h2 : c ≤ 65536) : AI ⟨c, [], [], 0⟩ (fun _ => 0) :=
  ⟨h1, h2, Nat.zero_le _, List.nodup_nil, by simp, rfl, by simp, by simp, by simp, by simp⟩

end Go.Proofs.Ytahhbbcgfhmmgaa
