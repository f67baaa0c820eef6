/- An arena told plainly: its places, its steps. -/
import Derived.Test.YtahhbbcgfhmmgaaArr
namespace Go.Proofs.Ytahhbbcgfhmmgaa

structure PL where
  st : Nat
  depth : Int
  metric : Int
  parent : Int
  bit : Nat
  kids : Nat
  held : Bool
  taken : Bool
def PL.zero : PL := ⟨0, 0, 0, 0, 0, 0, false, false⟩
/-- The cells of a place: the program's, the reference's. -/
def PL.cells (p : PL) : List Value := [.int .u32 p.st, .int .i64 p.depth, .int .i64 p.metric, .int .i64 p.parent, .int .u8 p.bit, .int .i64 p.kids, .bool p.held, .bool p.taken]
def PL.rcells (p : PL) : List Value := [.bool p.taken, .int .u32 p.st, .int .i64 p.depth, .int .i64 p.metric, .int .i64 p.parent, .int .u8 p.bit, .bool p.held, .int .i64 p.kids]

structure AR where
  cap : Nat
  all : List PL
  free : List Nat
  taken : Nat

/-- Places in a row, cell by cell. -/
def flat (f : PL → List Value) (l : List PL) : List Value := l.flatMap f
theorem flat_length (f : PL → List Value) (hf : ∀ p, (f p).length = 8) : ∀ l, (flat f l).length = l.length * 8
  | [] => rfl
  | p :: l => by
    have := flat_length f hf l
    simp only [flat, List.flatMap_cons, List.length_append, List.length_cons, hf] at this ⊢
    omega
theorem flat_get (f : PL → List Value) (hf : ∀ p, (f p).length = 8) : ∀ (l : List PL) (i : Nat) (p : PL), l[i]? = some p → ∀ k, k < 8 → (flat f l)[i * 8 + k]? = (f p)[k]?
  | [], i, p, h, _, _ => by simp at h
  | q :: l, 0, p, h, k, hk => by
    simp at h; subst h
    simp only [flat, List.flatMap_cons]
    rw [Nat.zero_mul, Nat.zero_add, List.getElem?_append_left (by rw [hf]; exact hk)]
  | q :: l, i + 1, p, h, k, hk => by
    have := flat_get f hf l i p (by simpa using h) k hk
    simp only [flat, List.flatMap_cons] at this ⊢
    rw [List.getElem?_append_right (by rw [hf]; omega), hf, show (i + 1) * 8 + k - 8 = i * 8 + k by omega]
    exact this
theorem flat_set (f : PL → List Value) (hf : ∀ p, (f p).length = 8) : ∀ (l : List PL) (i : Nat) (p : PL), i < l.length → flat f (l.set i p) = (flat f l).take (i * 8) ++ f p ++ (flat f l).drop (i * 8 + 8)
  | [], i, p, h => by simp at h
  | q :: l, 0, p, _ => by
    simp only [flat, List.set_cons_zero, List.flatMap_cons, Nat.zero_mul, List.take_zero, List.nil_append, Nat.zero_add]
    rw [List.drop_left' (hf q)]
  | q :: l, i + 1, p, h => by
    have ih := flat_set f hf l i p (by simpa using h)
    simp only [flat, List.set_cons_succ, List.flatMap_cons] at ih ⊢
    rw [ih]
    have e1 : (f q ++ List.flatMap f l).take ((i + 1) * 8) = f q ++ (List.flatMap f l).take (i * 8) := by
      rw [List.take_append, hf, List.take_of_length_le (by rw [hf]; omega), show (i + 1) * 8 - 8 = i * 8 by omega]
    have e2 : (f q ++ List.flatMap f l).drop ((i + 1) * 8 + 8) = (List.flatMap f l).drop (i * 8 + 8) := by
      rw [List.drop_append, hf, List.drop_eq_nil_of_le (by rw [hf]; omega), List.nil_append, show (i + 1) * 8 + 8 - 8 = i * 8 + 8 by omega]
    rw [e1, e2]
    simp [List.append_assoc]
theorem cells8 (p : PL) : p.cells.length = 8 := rfl
theorem rcells8 (p : PL) : p.rcells.length = 8 := rfl

/-- A place is taken: its number, what is there then. -/
def takeA (A : AR) (p : PL) : Nat × AR :=
  match A.free.getLast? with
  | some id => (id, { A with all := A.all.set id { p with held := true, taken := true }, free := A.free.dropLast, taken := A.taken + 1 })
  | none => (A.all.length, { A with all := A.all ++ [{ p with held := true, taken := true }], taken := A.taken + 1 })
def hasA (A : AR) (id : Int) : Bool := decide (0 ≤ id) && (match A.all[id.toNat]? with | some p => p.taken | none => false)

end Go.Proofs.Ytahhbbcgfhmmgaa
