/- Own words: memory told as a list of parts that lie apart (Hold), with the steps that the walks take. -/
import Derived.Test.YtlfchokafpodcaaOwn2
import Derived.Test.YtlfchokafpodcaaOwn3
import Derived.Test.YtlfchokafpodcaaRegion
import Derived.Deep.DeepCutAuto
import Derived.Deep.CutBlock
import Derived.Lib.Hide
open Go.RowKit
namespace Go.Own

/-- What some blocks hold. -/
structure Asn where
  ok : List Nat → World → Prop
  stable : ∀ {B : List Nat} {w w' : World}, w'.os = w.os → w'.tape = w.tape → w'.output = w.output → (∀ k, k ∈ B → k < w.heap.size) → w.heap.size ≤ w'.heap.size → (∀ k, k ∈ B → w'.heap[k]? = w.heap[k]?) → ok B w → ok B w'

def Sep (w : World) : List Asn → List Nat → Prop
  | [], X => X = []
  | A :: L, X => ∃ B Y, X = B ++ Y ∧ A.ok B w ∧ Sep w L Y

/-- The parts of L lie apart in w. -/
def Hold (w : World) (L : List Asn) : Prop := ∃ X, Sep w L X ∧ X.Nodup ∧ ∀ k, k ∈ X → k < w.heap.size

theorem Sep.stable {w w' : World} : ∀ {L : List Asn} {X : List Nat}, Sep w L X → w'.os = w.os → w'.tape = w.tape → w'.output = w.output → (∀ k, k ∈ X → k < w.heap.size) → w.heap.size ≤ w'.heap.size → (∀ k, k ∈ X → w'.heap[k]? = w.heap[k]?) → Sep w' L X
  | [], _, h, _, _, _, _, _, _ => h
  | A :: L, _, ⟨B, Y, e, h1, h2⟩, a, b, c, d, s, f => by
    subst e
    exact ⟨B, Y, rfl, A.stable a b c (fun k hk => d k (by simp [hk])) s (fun k hk => f k (by simp [hk])) h1, h2.stable a b c (fun k hk => d k (by simp [hk])) s (fun k hk => f k (by simp [hk]))⟩

/-- Any step that leaves all of L alone. -/
theorem Hold.fr {w w' : World} {L : List Asn} (h : Hold w L) (hf : Fr [] w w') : Hold w' L := by
  obtain ⟨X, h1, h2, h3⟩ := h
  exact ⟨X, h1.stable hf.os hf.tape hf.output h3 hf.size (fun k hk => hf.block k (h3 k hk) (by simp)), h2, fun k hk => Nat.lt_of_lt_of_le (h3 k hk) hf.size⟩

theorem Hold.drew {w : World} {L : List Asn} (h : Hold w L) : Hold w.drew L := h.fr (Fr.refl _ _).drew
theorem Hold.drewN {w : World} {L : List Asn} (h : Hold w L) (n : Nat) : Hold (w.drewN n) L := h.fr ((Fr.refl _ _).drewN n)
theorem Hold.junk {w : World} {L : List Asn} (h : Hold w L) (o : Obj) : Hold (w.alloc o) L := h.fr ((Fr.refl _ _).alloc o)

/-- A step that writes in the first part alone. -/
theorem Hold.step {w : World} {A : Asn} {L : List Asn} (h : Hold w (A :: L)) : ∃ B, A.ok B w ∧ (∀ k, k ∈ B → k < w.heap.size) ∧
    ∀ (w' : World) (A' : Asn) (B' : List Nat), Fr B w w' → A'.ok B' w' → B'.Nodup → (∀ k, k ∈ B' → (k ∈ B ∨ w.heap.size ≤ k) ∧ k < w'.heap.size) → Hold w' (A' :: L) := by
  obtain ⟨X, ⟨B, Y, rfl, h1, h2⟩, h3, h4⟩ := h
  rw [List.nodup_append] at h3
  refine ⟨B, h1, fun k hk => h4 k (by simp [hk]), fun w' A' B' hf ha hn hb => ⟨B' ++ Y, ⟨B', Y, rfl, ha, h2.stable hf.os hf.tape hf.output (fun k hk => h4 k (by simp [hk])) hf.size (fun k hk => hf.block k (h4 k (by simp [hk])) (fun hB => h3.2.2 k hB k hk rfl))⟩, ?_, ?_⟩⟩
  · rw [List.nodup_append]
    refine ⟨hn, h3.2.1, fun a ha b hb2 hab => ?_⟩
    subst hab
    rcases (hb a ha).1 with h | h
    · exact h3.2.2 a h a hb2 rfl
    · have := h4 a (by simp [hb2]); omega
  · intro k hk
    rcases List.mem_append.1 hk with hk | hk
    · exact (hb k hk).2
    · exact Nat.lt_of_lt_of_le (h4 k (by simp [hk])) hf.size

/-- A new part. -/
theorem Hold.new {w w' : World} {L : List Asn} (h : Hold w L) (hf : Fr [] w w') {A : Asn} {B : List Nat} (ha : A.ok B w') (hn : B.Nodup) (hb : ∀ k, k ∈ B → w.heap.size ≤ k ∧ k < w'.heap.size) : Hold w' (A :: L) := by
  obtain ⟨X, h1, h2, h3⟩ := h.fr hf
  obtain ⟨X', h1', h2', h3'⟩ := h
  refine ⟨B ++ X', ⟨B, X', rfl, ha, h1'.stable hf.os hf.tape hf.output h3' hf.size (fun k hk => hf.block k (h3' k hk) (by simp))⟩, ?_, ?_⟩
  · rw [List.nodup_append]
    exact ⟨hn, h2', fun a ha b hb2 hab => by subst hab; have := h3' a hb2; have := (hb a ha).1; omega⟩
  · intro k hk
    rcases List.mem_append.1 hk with hk | hk
    · exact (hb k hk).2
    · exact Nat.lt_of_lt_of_le (h3' k hk) hf.size

theorem Hold.drop {w : World} {A : Asn} {L : List Asn} (h : Hold w (A :: L)) : Hold w L := by
  obtain ⟨X, ⟨B, Y, rfl, h1, h2⟩, h3, h4⟩ := h
  rw [List.nodup_append] at h3
  exact ⟨Y, h2, h3.2.1, fun k hk => h4 k (by simp [hk])⟩

theorem Hold.first {w : World} {A : Asn} {L : List Asn} (h : Hold w (A :: L)) : ∃ B, A.ok B w ∧ B.Nodup ∧ ∀ k, k ∈ B → k < w.heap.size := by
  obtain ⟨X, ⟨B, Y, rfl, h1, h2⟩, h3, h4⟩ := h
  rw [List.nodup_append] at h3
  exact ⟨B, h1, h3.1, fun k hk => h4 k (by simp [hk])⟩

theorem Hold.swap {w : World} {A C : Asn} {L : List Asn} (h : Hold w (A :: C :: L)) : Hold w (C :: A :: L) := by
  obtain ⟨X, ⟨B, Y, rfl, h1, ⟨B2, Y2, rfl, h5, h6⟩⟩, h3, h4⟩ := h
  refine ⟨B2 ++ (B ++ Y2), ⟨B2, _, rfl, h5, ⟨B, Y2, rfl, h1, h6⟩⟩, ?_, fun k hk => h4 k (by simp at hk ⊢; rcases hk with h | h | h <;> simp [h])⟩
  exact (List.perm_append_comm_assoc B B2 Y2).nodup_iff.1 h3

theorem Hold.under {w : World} {A : Asn} {L L' : List Asn} (f : ∀ X, Sep w L X → ∃ X', Sep w L' X' ∧ List.Perm X X') (h : Hold w (A :: L)) : Hold w (A :: L') := by
  obtain ⟨X, ⟨B, Y, rfl, h1, h2⟩, h3, h4⟩ := h
  obtain ⟨Y', h5, h6⟩ := f Y h2
  have hp : List.Perm (B ++ Y) (B ++ Y') := h6.append_left B
  exact ⟨B ++ Y', ⟨B, Y', rfl, h1, h5⟩, hp.nodup_iff.1 h3, fun k hk => h4 k (hp.mem_iff.2 hk)⟩

/-- L with its part i first. -/
@[reducible] def front : Nat → List Asn → List Asn
  | 0, L => L
  | _ + 1, [] => []
  | n + 1, A :: L => match front n L with
    | [] => [A]
    | C :: R => C :: A :: R

theorem front_sep {w : World} : ∀ (n : Nat) (L : List Asn) (X : List Nat), Sep w L X → ∃ X', Sep w (front n L) X' ∧ List.Perm X X'
  | 0, L, X, h => ⟨X, h, List.Perm.refl _⟩
  | _ + 1, [], X, h => ⟨X, h, List.Perm.refl _⟩
  | n + 1, A :: L, X, h => by
    obtain ⟨B, Y, rfl, h1, h2⟩ := h
    obtain ⟨Y', h5, h6⟩ := front_sep n L Y h2
    simp only [front]
    revert h5
    cases front n L with
    | nil => intro h5; exact ⟨B ++ Y', ⟨B, Y', rfl, h1, h5⟩, h6.append_left B⟩
    | cons C R =>
      rintro ⟨B2, Y2, rfl, h7, h8⟩
      exact ⟨B2 ++ (B ++ Y2), ⟨B2, _, rfl, h7, ⟨B, Y2, rfl, h1, h8⟩⟩, (h6.append_left B).trans (List.perm_append_comm_assoc B B2 Y2)⟩

theorem Hold.mv {w : World} {L : List Asn} (n : Nat) (h : Hold w L) : Hold w (front n L) := by
  obtain ⟨X, h1, h3, h4⟩ := h
  obtain ⟨X', h5, h6⟩ := front_sep n L X h1
  exact ⟨X', h5, h6.nodup_iff.1 h3, fun k hk => h4 k (h6.mem_iff.2 hk)⟩

/-! ### Parts out of parts. -/

def starA (A C : Asn) : Asn where
  ok B w := ∃ B1 B2, B = B1 ++ B2 ∧ A.ok B1 w ∧ C.ok B2 w
  stable := by
    rintro B w w' a b c d s f ⟨B1, B2, rfl, h1, h2⟩
    exact ⟨B1, B2, rfl, A.stable a b c (fun k hk => d k (by simp [hk])) s (fun k hk => f k (by simp [hk])) h1, C.stable a b c (fun k hk => d k (by simp [hk])) s (fun k hk => f k (by simp [hk])) h2⟩

def exA {α : Type} (f : α → Asn) : Asn where
  ok B w := ∃ x, (f x).ok B w
  stable := by
    rintro B w w' a b c d s g ⟨x, h⟩
    exact ⟨x, (f x).stable a b c d s g h⟩

def pureA (p : Prop) : Asn where
  ok B _ := B = [] ∧ p
  stable := by rintro B w w' _ _ _ _ _ _ h; exact h

theorem Hold.star {w : World} {A C : Asn} {L : List Asn} : Hold w (starA A C :: L) ↔ Hold w (A :: C :: L) := by
  constructor
  · rintro ⟨X, ⟨B, Y, rfl, ⟨B1, B2, rfl, h1, h2⟩, h3⟩, h4, h5⟩
    exact ⟨B1 ++ (B2 ++ Y), ⟨B1, _, rfl, h1, ⟨B2, Y, rfl, h2, h3⟩⟩, by rwa [List.append_assoc] at h4, fun k hk => h5 k (by rwa [List.append_assoc])⟩
  · rintro ⟨X, ⟨B1, Y, rfl, h1, ⟨B2, Y2, rfl, h2, h3⟩⟩, h4, h5⟩
    exact ⟨(B1 ++ B2) ++ Y2, ⟨_, _, rfl, ⟨B1, B2, rfl, h1, h2⟩, h3⟩, by rwa [List.append_assoc], fun k hk => h5 k (by rwa [List.append_assoc] at hk)⟩

theorem Hold.ex {α : Type} {w : World} {f : α → Asn} {L : List Asn} : Hold w (exA f :: L) ↔ ∃ x, Hold w (f x :: L) := by
  constructor
  · rintro ⟨X, ⟨B, Y, rfl, ⟨x, h1⟩, h3⟩, h4, h5⟩
    exact ⟨x, B ++ Y, ⟨B, Y, rfl, h1, h3⟩, h4, h5⟩
  · rintro ⟨x, X, ⟨B, Y, rfl, h1, h3⟩, h4, h5⟩
    exact ⟨B ++ Y, ⟨B, Y, rfl, ⟨x, h1⟩, h3⟩, h4, h5⟩

theorem Hold.pure {w : World} {p : Prop} {L : List Asn} : Hold w (pureA p :: L) ↔ p ∧ Hold w L := by
  constructor
  · rintro ⟨X, ⟨B, Y, rfl, ⟨rfl, h1⟩, h3⟩, h4, h5⟩
    exact ⟨h1, Y, h3, h4, h5⟩
  · rintro ⟨h1, X, h3, h4, h5⟩
    exact ⟨X, ⟨[], X, rfl, ⟨rfl, h1⟩, h3⟩, h4, h5⟩

/-- All that was there at w0 is there as it was. -/
def oldA (w0 : World) : Asn where
  ok B w := B = List.range w0.heap.size ∧ Fr [] w0 w
  stable := by
    rintro B w w' a b c d s f ⟨rfl, h⟩
    exact ⟨rfl, a.trans h.os, b.trans h.tape, c.trans h.output, Nat.le_trans h.size s, fun k hk _ => (f k (by simpa using hk)).trans (h.block k hk (by simp))⟩

theorem Hold.start (w : World) : Hold w [oldA w] := ⟨List.range w.heap.size, ⟨_, [], by simp, ⟨rfl, Fr.refl _ _⟩, rfl⟩, List.nodup_range, by simp⟩

theorem Hold.old {w0 w : World} {L : List Asn} (h : Hold w (oldA w0 :: L)) : Fr [] w0 w := by
  obtain ⟨B, ⟨_, h⟩, _⟩ := h.first
  exact h

/-- Block b holds just these cells. -/
def cellsA (b : Nat) (T : TypeId) (cs : List Value) : Asn where
  ok B w := B = [b] ∧ Blk w b T cs
  stable := by
    rintro B w w' _ _ _ _ _ f ⟨rfl, h⟩
    exact ⟨rfl, (f b (by simp)).trans h⟩

theorem Hold.blk {w : World} {b : Nat} {T : TypeId} {cs : List Value} {L : List Asn} (h : Hold w (cellsA b T cs :: L)) : Blk w b T cs := by
  obtain ⟨B, ⟨_, h⟩, _⟩ := h.first
  exact h

theorem Hold.cell {w : World} {b : Nat} {T : TypeId} {cs : List Value} {L : List Asn} (h : Hold w (cellsA b T cs :: L)) (i : Nat) : w.cell? ⟨b, i, none⟩ = cs[i]? := h.blk.cell i
theorem Hold.frozen {w : World} {b : Nat} {T : TypeId} {cs : List Value} {L : List Asn} (h : Hold w (cellsA b T cs :: L)) (i : Nat) : w.frozen? ⟨b, i, none⟩ = false := h.blk.frozen i
theorem Hold.lt {w : World} {b : Nat} {T : TypeId} {cs : List Value} {L : List Asn} (h : Hold w (cellsA b T cs :: L)) : b < w.heap.size := h.blk.lt

/-- A new block. -/
theorem Hold.box {w : World} {L : List Asn} (h : Hold w L) (T : TypeId) (cs : List Value) : Hold (w.alloc (.cells cs.toArray T)) (cellsA w.heap.size T cs :: L) :=
  h.new ((Fr.refl _ _).alloc _) (B := [w.heap.size]) ⟨rfl, Blk.new w T cs⟩ (by simp) (by simp)

theorem Hold.st {w : World} {b : Nat} {T : TypeId} {cs : List Value} {L : List Asn} (h : Hold w (cellsA b T cs :: L)) (i : Nat) (v : Value) : Hold (w.setCell ⟨b, i, none⟩ v) (cellsA b T (cs.set i v) :: L) := by
  obtain ⟨B, ⟨rfl, h1⟩, h2, h3⟩ := h.step
  refine h3 _ _ [b] ((Fr.refl _ _).setCell (by simp) v) ⟨rfl, h1.setCell i v⟩ (by simp) (fun k hk => ⟨.inl hk, ?_⟩)
  have := h2 k hk
  simpa [World.setCell] using this

theorem Hold.as {w : World} {b : Nat} {T : TypeId} {cs ds : List Value} {L : List Asn} (h : Hold w (cellsA b T cs :: L)) (e : cs = ds) : Hold w (cellsA b T ds :: L) := e ▸ h

theorem Hold.ne {w : World} {b c : Nat} {T U : TypeId} {cs ds : List Value} {L : List Asn} (h : Hold w (cellsA b T cs :: cellsA c U ds :: L)) : b ≠ c := by
  obtain ⟨X, ⟨B, Y, rfl, ⟨rfl, h1⟩, ⟨B2, Y2, rfl, ⟨rfl, h5⟩, h6⟩⟩, h3, h4⟩ := h
  rw [List.nodup_append] at h3
  intro hbc
  subst hbc
  exact h3.2.2 b (by simp) b (by simp) rfl

/-- A row of one's own: the slice (ao, n, cap) holds xs, sz cells an element. -/
def rowA (E : TypeId) (sz : Nat) (ao : Option Addr) (n cap : Nat) (xs : List Value) : Asn where
  ok B w := Own w E sz (.slice ao n cap) n xs B
  stable := by
    rintro B w w' a b c d s f h
    obtain ⟨h1, h2⟩ := h
    refine ⟨h1, ?_⟩
    rcases h2 with h2 | ⟨b, off, cap, cur, hv, rfl, hh, r⟩
    · exact .inl h2
    · exact .inr ⟨b, off, cap, cur, hv, rfl, (f b (by simp)).trans hh, r⟩

theorem Own.nodup {w : World} {E : TypeId} {sz : Nat} {v : Value} {n : Nat} {xs : List Value} {B : List Nat} (h : Own w E sz v n xs B) : B.Nodup := by
  rcases h.shape with ⟨_, _, _, rfl⟩ | ⟨b, _, _, _, rfl, _⟩ <;> simp

theorem Hold.own {w : World} {E : TypeId} {sz : Nat} {ao : Option Addr} {n cap : Nat} {xs : List Value} {L : List Asn} (h : Hold w (rowA E sz ao n cap xs :: L)) : ∃ B, Own w E sz (.slice ao n cap) n xs B := by
  obtain ⟨B, h1, _⟩ := h.first
  exact ⟨B, h1⟩

theorem Hold.rd {w : World} {E : TypeId} {sz : Nat} {ao : Option Addr} {n cap : Nat} {xs : List Value} {L : List Asn} (h : Hold w (rowA E sz ao n cap xs :: L)) : ∃ S, Rd w sz (.slice ao n cap) n xs S := by
  obtain ⟨B, h1⟩ := h.own
  exact ⟨B, h1.rd⟩

theorem Hold.bounds {w : World} {E : TypeId} {sz : Nat} {ao : Option Addr} {n cap : Nat} {xs : List Value} {L : List Asn} (h : Hold w (rowA E sz ao n cap xs :: L)) : xs.length = n * sz ∧ n ≤ cap ∧ cap ≤ maxLen := by
  obtain ⟨B, h1⟩ := h.rd
  exact h1.bounds

/-- Where the row has an element: its address, and what stands there. -/
theorem Hold.at {w : World} {E : TypeId} {sz : Nat} {ao : Option Addr} {n cap : Nat} {xs : List Value} {L : List Asn} (h : Hold w (rowA E sz ao n cap xs :: L)) (hn : 0 < n) :
    ∃ b o, ao = some ⟨b, o, none⟩ ∧ (∀ j, j < n * sz → w.cell? ⟨b, o + j, none⟩ = xs[j]?) ∧ ∀ j, w.frozen? ⟨b, j, none⟩ = false := by
  obtain ⟨B, h1⟩ := h.own
  obtain ⟨b, o, rfl, _, _, hc⟩ := h1.rd.addr hn
  exact ⟨b, o, rfl, hc, h1.at.2.1⟩

/-- A store into a row. -/
theorem Hold.put {w : World} {E : TypeId} {sz b o : Nat} {n cap : Nat} {xs : List Value} {L : List Asn} (h : Hold w (rowA E sz (some ⟨b, o, none⟩) n cap xs :: L)) (j : Nat) (hj : j < n * sz) (u : Value) :
    Hold (w.setCell ⟨b, o + j, none⟩ u) (rowA E sz (some ⟨b, o, none⟩) n cap (xs.set j u) :: L) := by
  obtain ⟨B, h1, h2, h3⟩ := h.step
  have hB : B = [b] := h1.at.2.2.2.2.1
  subst hB
  refine h3 _ _ [b] ((Fr.refl _ _).setCell (by simp) u) (Own.set h1 j hj u) (by simp) (fun k hk => ⟨.inl hk, ?_⟩)
  have := h2 k hk
  simpa [World.setCell] using this

theorem Hold.nilRow {w : World} {L : List Asn} (h : Hold w L) (E : TypeId) (sz : Nat) : Hold w (rowA E sz none 0 0 [] :: L) :=
  h.new (Fr.refl _ _) (B := []) (Own.nil w E sz) (by simp) (by simp)

/-- C's blocks hold what the slice v reads. -/
def Reads (C : Asn) (sz : Nat) (v : Value) (n : Nat) (xs : List Value) : Prop := ∀ B w, C.ok B w → ∃ S, Rd w sz v n xs S ∧ ∀ k, k ∈ S → k ∈ B

theorem Reads.row (E : TypeId) (sz : Nat) (ao : Option Addr) (n cap : Nat) (xs : List Value) : Reads (rowA E sz ao n cap xs) sz (.slice ao n cap) n xs :=
  fun B _ h => ⟨B, Own.rd h, fun _ h => h⟩

theorem Reads.old {W : World} {sz : Nat} {v : Value} {n : Nat} {xs : List Value} {S : List Nat} (h : Rd W sz v n xs S) (hS : ∀ k, k ∈ S → k < W.heap.size) : Reads (oldA W) sz v n xs := by
  rintro B w ⟨rfl, hf⟩
  exact ⟨S, h.fr hf (by simp), fun k hk => by simpa using hS k hk⟩

theorem Reads.none (C : Asn) (sz cap : Nat) (ao : Option Addr) (hc : cap ≤ maxLen) : Reads C sz (.slice ao 0 cap) 0 [] :=
  fun _ _ _ => ⟨[], ⟨by simp, ao, cap, rfl, Nat.zero_le _, hc, .inl rfl⟩, by simp⟩

theorem Hold.reads {w : World} {C : Asn} {L : List Asn} {sz : Nat} {v : Value} {n : Nat} {xs : List Value} (h : Hold w (C :: L)) (hr : Reads C sz v n xs) : ∃ S, Rd w sz v n xs S := by
  obtain ⟨B, h1, _⟩ := h.first
  obtain ⟨S, h2, _⟩ := hr B w h1
  exact ⟨S, h2⟩

/-- A struct with a row behind it, and the like: a part that is another part, whatever its blocks. -/
theorem Hold.imp {w : World} {A A' : Asn} {L : List Asn} (h : Hold w (A :: L)) (hi : ∀ B, A.ok B w → A'.ok B w) : Hold w (A' :: L) := by
  obtain ⟨X, ⟨B, Y, rfl, h1, h2⟩, h3, h4⟩ := h
  exact ⟨B ++ Y, ⟨B, Y, rfl, hi B h1, h2⟩, h3, h4⟩

section
variable {P : Program}

theorem wp_append_one_h {w W : World} {L : List Asn} {o : Oper} {a : Act} {K : Act → World → Prop} {Q : Exit → Act → World → Prop} (s x : Operand) (t : TypeId)
    (hop : o.op = Op.call { callee := Callee.builtin Builtin.append, args := #[s, x], argTypes := #[t, t] })
    (E : TypeId) (i : TypeInfo) (z : Value) (sz by_ : Nat) (ht : P.underlying t = some (.slice E)) (hi : P.info? E = some i) (hz : i.zero = some z) (hsz : i.size = sz) (hby : i.bytes = by_)
    (hzc : z.cells.size = sz) (ao : Option Addr) (n cap : Nat) (xs : List Value) (hv : a.eval s = .slice ao n cap) (h : Hold w (rowA E sz ao n cap xs :: L)) (cs : List Value)
    (hx : a.eval x = .slice (some ⟨w.heap.size, 0, none⟩) 1 1) (hW : W.heap = w.heap.push (.cells cs.toArray E) ∧ W.os = w.os ∧ W.tape = w.tape ∧ W.output = w.output) (hcs : cs.length = sz) (h1 : ∀ u ∈ cs, u.oneCell' = true)
    (h63 : n + 1 ≤ maxLen) (hfit : (n + 1) * by_ ≤ 140737488355328)
    (hK : ∀ ao' cap' w', Hold w' (rowA E sz ao' (n + 1) cap' (xs ++ cs) :: L) → n + 1 ≤ cap' → K (a.put o.dst (.slice ao' (n + 1) cap')) w') : o.wp P a W K Q := by
  obtain ⟨B, hB, hlt, hstep⟩ := h.step
  refine wp_append_one s x t hop E i z sz by_ ht hi hz hsz hby hzc ao n cap xs B hv hB cs hx hW hcs h1 h63 hfit (fun ao' cap' w' B' r1 r2 r3 => ?_)
  refine hK ao' cap' w' (hstep w' _ B' r2 r1 r1.nodup (fun k hk => ⟨r3 k hk, r1.lt k hk⟩)) r1.rd.bounds.2.1

/-- append(v, src...), v owned, src read. -/
theorem wp_append_src_h {w : World} {L : List Asn} {o : Oper} {a : Act} {K : Act → World → Prop} {Q : Exit → Act → World → Prop} (s x : Operand) (t : TypeId)
    (hop : o.op = Op.call { callee := Callee.builtin Builtin.append, args := #[s, x], argTypes := #[t, t] })
    (E : TypeId) (i : TypeInfo) (z : Value) (sz by_ : Nat) (ht : P.underlying t = some (.slice E)) (hi : P.info? E = some i) (hz : i.zero = some z) (hsz : i.size = sz) (hby : i.bytes = by_)
    (hzc : z.cells.size = sz) (ao : Option Addr) (n cap : Nat) (xs : List Value) (hv : a.eval s = .slice ao n cap) (h : Hold w (rowA E sz ao n cap xs :: L)) (sv : Value) (hx : a.eval x = sv) (m : Nat) (news : List Value) (S : List Nat)
    (hr : Rd w sz sv m news S) (h1 : ∀ u ∈ news, u.oneCell' = true) (h63 : n + m ≤ maxLen) (hfit : (n + m) * by_ ≤ 140737488355328)
    (hK : ∀ ao' cap' w', Hold w' (rowA E sz ao' (n + m) cap' (xs ++ news) :: L) → n + m ≤ cap' → K (a.put o.dst (.slice ao' (n + m) cap')) w') : o.wp P a w K Q := by
  obtain ⟨B, hB, hlt, hstep⟩ := h.step
  refine wp_append_src s x t hop E i z sz by_ ht hi hz hsz hby hzc ao n cap xs B hv hB sv hx m news S hr h1 h63 hfit (fun ao' cap' w' B' r1 r2 r3 => ?_)
  exact hK ao' cap' w' (hstep w' _ B' r2 r1 r1.nodup (fun k hk => ⟨r3 k hk, r1.lt k hk⟩)) r1.rd.bounds.2.1

/-- append([]E{}, src...): a new row. -/
theorem wp_append_new_h {w W : World} {L : List Asn} {o : Oper} {a : Act} {K : Act → World → Prop} {Q : Exit → Act → World → Prop} (s x : Operand) (t : TypeId)
    (hop : o.op = Op.call { callee := Callee.builtin Builtin.append, args := #[s, x], argTypes := #[t, t] })
    (E : TypeId) (i : TypeInfo) (z : Value) (sz by_ : Nat) (ht : P.underlying t = some (.slice E)) (hi : P.info? E = some i) (hz : i.zero = some z) (hsz : i.size = sz) (hby : i.bytes = by_)
    (hzc : z.cells.size = sz) (h : Hold w L) (hv : a.eval s = .slice (some ⟨w.heap.size, 0, none⟩) 0 0) (hW : W.heap = w.heap.push (.cells #[] E) ∧ W.os = w.os ∧ W.tape = w.tape ∧ W.output = w.output)
    (sv : Value) (hx : a.eval x = sv) (m : Nat) (news : List Value) (S : List Nat)
    (hr : Rd w sz sv m news S) (h1 : ∀ u ∈ news, u.oneCell' = true) (h63 : m ≤ maxLen) (hfit : m * by_ ≤ 140737488355328)
    (hK : ∀ ao' cap' w', Hold w' (rowA E sz ao' m cap' news :: L) → m ≤ cap' → K (a.put o.dst (.slice ao' m cap')) w') : o.wp P a W K Q := by
  refine wp_append_new (w := w) s x t hop E i z sz by_ ht hi hz hsz hby hzc hv hW sv hx m news S hr h1 h63 hfit (fun ao' cap' w' B' r1 r2 r3 r4 => ?_)
  exact hK ao' cap' w' (h.new r2 (A := rowA E sz ao' m cap' news) r1 r1.nodup (fun k hk => ⟨r3 k hk, r1.lt k hk⟩)) r1.rd.bounds.2.1

/-- make([]T, n): a new row of zeros. -/
theorem wp_make_h {w : World} {L : List Asn} {o : Oper} {a : Act} {K : Act → World → Prop} {Q : Exit → Act → World → Prop} (l c : Operand) (t : TypeId) (hop : o.op = Op.makeSlice t l c)
    (E : TypeId) (i : TypeInfo) (z : Value) (sz by_ : Nat) (ht : P.underlying t = some (.slice E)) (hi : P.info? E = some i) (hz : i.zero = some z) (hsz : i.size = sz) (hby : i.bytes = by_)
    (kl kc : IntKind) (n m : Int) (hl : a.eval l = .int kl n) (hc : a.eval c = .int kc m) (h0 : 0 ≤ n) (hnm : n ≤ m) (hm : m ≤ 9223372036854775807) (hbytes : (by_ : Int) * m ≤ 281474976710656) (h : Hold w L)
    (hK : ∀ ao w', Hold w' (rowA E sz ao n.toNat m.toNat (((madeCells z.cells (m.toNat * sz)).toList).take (n.toNat * sz)) :: L) → K (a.put o.dst (.slice ao n.toNat m.toNat)) w') : o.wp P a w K Q :=
  wp_make_any l c t hop E i z sz by_ ht hi hz hsz hby kl kc n m hl hc h0 hnm hm hbytes (fun w' r1 r2 r3 _ =>
    hK _ w' (h.new r2 (A := rowA E sz _ n.toNat m.toNat _) r1 r1.nodup (fun k hk => ⟨by simp at hk; omega, r1.lt k hk⟩)))

/-- copy into an owned row, from its place p on. -/
theorem wp_copy_h {w : World} {L : List Asn} {o : Oper} {a : Act} {K : Act → World → Prop} {Q : Exit → Act → World → Prop} (d s : Operand) (dT sT : TypeId)
    (hop : o.op = .call { callee := .builtin .copy, args := #[d, s], argTypes := #[dT, sT] }) (E : TypeId) (hu : P.underlying dT = some (.slice E)) (hsz : (P.info? E).map (·.size) = some 1)
    (ao : Option Addr) (n cap : Nat) (xs : List Value) (h : Hold w (rowA E 1 ao n cap xs :: L)) (p : Nat) (dao : Option Addr) (dn dcap : Nat) (hd : a.eval d = .slice dao dn dcap)
    (hda : dn = 0 ∨ dao = ao.map (·.add p)) (hpn : p + dn ≤ n) (sv : Value) (m : Nat) (ys : List Value) (S : List Nat) (hs : a.eval s = sv) (hr : Rd w 1 sv m ys S) (h1 : ∀ u ∈ ys, u.oneCell' = true)
    (hK : ∀ w', Hold w' (rowA E 1 ao n cap (xs.take p ++ ys.take (Nat.min m dn) ++ xs.drop (p + Nat.min m dn)) :: L) → K (a.put o.dst (goInt (Nat.min m dn))) w') : o.wp P a w K Q := by
  obtain ⟨B, hB, hlt, hstep⟩ := h.step
  refine wp_copy_any d s dT sT hop E hu hsz ao n cap xs B hB p dao dn dcap hd hda hpn sv m ys S hs hr h1 (fun w' r1 r2 r3 => ?_)
  exact hK w' (hstep w' (rowA E 1 ao n cap _) B r2 r1 r1.nodup (fun k hk => ⟨.inl hk, r1.lt k hk⟩))
end

/-- A cut of a row. -/
theorem Hold.cut {w : World} {E : TypeId} {sz : Nat} {ao : Option Addr} {n cap : Nat} {xs : List Value} {L : List Asn} (h : Hold w (rowA E sz ao n cap xs :: L)) {l u m : Nat} (h1 : l ≤ u) (h2 : u ≤ n) (h3 : u ≤ m) (h4 : m ≤ cap) :
    ∃ ao', sliced ao l u m sz = .slice ao' (u - l) (m - l) ∧ Hold w (rowA E sz ao' (u - l) (m - l) ((xs.drop (l * sz)).take ((u - l) * sz)) :: L) := by
  obtain ⟨ao', he⟩ := sliced_form ao l u m sz
  refine ⟨ao', he, h.imp fun B hB => ?_⟩
  have := Own.sliced hB h1 h2 h3 h4
  rw [he] at this
  exact this

#print axioms wp_copy_h
#print axioms Hold.mv
end Go.Own
