/- Own words for the walks of this seat: frames with a list of blocks that may turn, rows that are owned. -/
import Derived.WalkKit
import Derived.Deep.AppendSrc
import Derived.Deep.Upon
import Derived.KernelRfl
import Derived.Deep.QuietTactic
import Derived.BigQuiet
import Derived.Deep.RegionHeld3
open Go.RowKit
namespace Go.Own

/-- w' is w, with new blocks, and other contents in the blocks of F. -/
structure Fr (F : List Nat) (w w' : World) : Prop where
  os : w'.os = w.os
  tape : w'.tape = w.tape
  output : w'.output = w.output
  size : w.heap.size ≤ w'.heap.size
  block : ∀ k, k < w.heap.size → k ∉ F → w'.heap[k]? = w.heap[k]?

theorem Fr.refl (F : List Nat) (w : World) : Fr F w w := ⟨rfl, rfl, rfl, Nat.le_refl _, fun _ _ _ => rfl⟩

theorem Fr.trans {F G : List Nat} {a b c : World} (h : Fr F a b) (k : Fr G b c) (hG : ∀ x, x ∈ G → x ∈ F ∨ a.heap.size ≤ x) : Fr F a c :=
  ⟨k.os.trans h.os, k.tape.trans h.tape, k.output.trans h.output, Nat.le_trans h.size k.size, fun i hi hF =>
    (k.block i (Nat.lt_of_lt_of_le hi h.size) (fun hg => by rcases hG i hg with h1 | h1; exact hF h1; omega)).trans (h.block i hi hF)⟩

theorem Fr.mono {F G : List Nat} {a b : World} (h : Fr F a b) (hG : ∀ x, x ∈ F → x ∈ G) : Fr G a b :=
  ⟨h.os, h.tape, h.output, h.size, fun i hi hF => h.block i hi (fun hx => hF (hG i hx))⟩

theorem Fr.nil {F : List Nat} {a b : World} (h : Fr [] a b) : Fr F a b := h.mono (by simp)

theorem Fr.drew {F : List Nat} {a w : World} (h : Fr F a w) : Fr F a w.drew := ⟨h.os, h.tape, h.output, h.size, h.block⟩
theorem Fr.drewN {F : List Nat} {a w : World} (h : Fr F a w) (n : Nat) : Fr F a (w.drewN n) := ⟨h.os, h.tape, h.output, h.size, h.block⟩

theorem Fr.of_drew {F : List Nat} {a w : World} (h : Fr F a.drew w) : Fr F a w := ⟨h.os, h.tape, h.output, h.size, h.block⟩
theorem Fr.of_drewN {F : List Nat} {a w : World} {n : Nat} (h : Fr F (a.drewN n) w) : Fr F a w := ⟨h.os, h.tape, h.output, h.size, h.block⟩

theorem Fr.alloc {F : List Nat} {a w : World} (h : Fr F a w) (o : Obj) : Fr F a (w.alloc o) :=
  h.trans (G := []) ⟨rfl, rfl, rfl, by simp, fun k hk _ => Below.heap_alloc _ _ _ hk⟩ (by simp)

theorem Fr.of_alloc {F : List Nat} {a w : World} {o : Obj} (h : Fr F (a.alloc o) w) : Fr F a w := ((Fr.refl F a).alloc o).trans h (fun _ h => .inl h)

theorem Fr.setCell {F : List Nat} {a w : World} (h : Fr F a w) {p : Addr} (hp : p.block ∈ F ∨ a.heap.size ≤ p.block) (u : Value) : Fr F a (w.setCell p u) :=
  h.trans (G := [p.block]) ⟨rfl, rfl, rfl, by simp [World.setCell], fun k _ hk2 => Below.heap_setCell _ _ _ _ (by simpa using hk2)⟩ (by simpa using hp)

theorem Fr.cell {F : List Nat} {w w' : World} (h : Fr F w w') {p : Addr} (hp : p.block < w.heap.size) (hF : p.block ∉ F) : w'.cell? p = w.cell? p :=
  World.cell?_of_block (w := w) (h.block p.block hp hF)
theorem Fr.frozen {F : List Nat} {w w' : World} (h : Fr F w w') {p : Addr} (hp : p.block < w.heap.size) (hF : p.block ∉ F) : w'.frozen? p = w.frozen? p :=
  World.frozen?_of_block (w := w) (h.block p.block hp hF)

theorem Fr.below {w w' : World} (h : Fr [] w w') : Below w.heap.size w w' := ⟨h.os, h.tape, h.output, h.size, fun k hk => h.block k hk (by simp)⟩

theorem Fr.obj {F : List Nat} {w w' : World} (h : Fr F w w') {k : Nat} {o : Obj} (hk : w.heap[k]? = some o) (hF : k ∉ F) : w'.heap[k]? = some o := by
  rw [h.block k (Array.getElem?_eq_some_iff.1 hk).1 hF]; exact hk

/-- Block b holds just these cells. -/
def Blk (w : World) (b : Nat) (T : TypeId) (cs : List Value) : Prop := w.heap[b]? = some (.cells cs.toArray T (0, 0))

theorem Blk.lt {w : World} {b : Nat} {T : TypeId} {cs : List Value} (h : Blk w b T cs) : b < w.heap.size := (Array.getElem?_eq_some_iff.1 h).1

theorem Blk.cell {w : World} {b : Nat} {T : TypeId} {cs : List Value} (h : Blk w b T cs) (i : Nat) : w.cell? ⟨b, i, none⟩ = cs[i]? := by
  unfold Blk at h; simp [World.cell?, h]

theorem Blk.frozen {w : World} {b : Nat} {T : TypeId} {cs : List Value} (h : Blk w b T cs) (i : Nat) : w.frozen? ⟨b, i, none⟩ = false := by
  unfold Blk at h; simp [World.frozen?, h]

theorem Blk.fr {F : List Nat} {w w' : World} (h : Fr F w w') {b : Nat} {T : TypeId} {cs : List Value} (hb : Blk w b T cs) (hF : b ∉ F) : Blk w' b T cs := h.obj hb hF

theorem Blk.drew {w : World} {b : Nat} {T : TypeId} {cs : List Value} (h : Blk w b T cs) : Blk w.drew b T cs := h
theorem Blk.drewN {w : World} {b : Nat} {T : TypeId} {cs : List Value} (h : Blk w b T cs) (n : Nat) : Blk (w.drewN n) b T cs := h

theorem Blk.alloc {w : World} {b : Nat} {T : TypeId} {cs : List Value} (h : Blk w b T cs) (o : Obj) : Blk (w.alloc o) b T cs := by
  unfold Blk at *; rw [Below.heap_alloc _ _ _ (Array.getElem?_eq_some_iff.1 h).1]; exact h

theorem Blk.new (w : World) (T : TypeId) (cs : List Value) : Blk (w.alloc (.cells cs.toArray T)) w.heap.size T cs := by
  show (w.heap.push _)[w.heap.size]? = _
  simp

theorem Blk.setCell {w : World} {b : Nat} {T : TypeId} {cs : List Value} (h : Blk w b T cs) (i : Nat) (v : Value) : Blk (w.setCell ⟨b, i, none⟩ v) b T (cs.set i v) := by
  unfold Blk at *
  simp [World.setCell, Array.getElem?_modify, h]

theorem Blk.setCell_other {w : World} {b : Nat} {T : TypeId} {cs : List Value} (h : Blk w b T cs) {p : Addr} (hp : b ≠ p.block) (v : Value) : Blk (w.setCell p v) b T cs := by
  unfold Blk at *
  rw [Below.heap_setCell _ _ _ _ hp]; exact h

/-- v is a slice of n elements, of sz cells each, which are xs; its row is block B's (none: it is nil). Whoever has it may write there. -/
def Own (w : World) (E : TypeId) (sz : Nat) (v : Value) (n : Nat) (xs : List Value) (B : List Nat) : Prop :=
  xs.length = n * sz ∧
  ((v = .slice none 0 0 ∧ n = 0 ∧ B = []) ∨
   ∃ b off cap cur, v = .slice (some ⟨b, off, none⟩) n cap ∧ B = [b] ∧ w.heap[b]? = some (.cells cur E (0, 0)) ∧ n ≤ cap ∧ cap ≤ maxLen ∧ off + cap * sz ≤ cur.size ∧
     ∀ j, j < n * sz → cur[off + j]? = xs[j]?)

theorem Own.nil (w : World) (E : TypeId) (sz : Nat) : Own w E sz (.slice none 0 0) 0 [] [] := ⟨by simp, .inl ⟨rfl, rfl, rfl⟩⟩

theorem Own.lt {w : World} {E : TypeId} {sz : Nat} {v : Value} {n : Nat} {xs : List Value} {B : List Nat} (h : Own w E sz v n xs B) : ∀ k, k ∈ B → k < w.heap.size := by
  obtain ⟨_, ⟨_, _, rfl⟩ | ⟨b, off, cap, cur, _, rfl, hh, _⟩⟩ := h
  · simp
  · intro k hk; simp at hk; subst hk; exact (Array.getElem?_eq_some_iff.1 hh).1

theorem Own.fr {F : List Nat} {w w' : World} (hf : Fr F w w') {E : TypeId} {sz : Nat} {v : Value} {n : Nat} {xs : List Value} {B : List Nat} (h : Own w E sz v n xs B) (hF : ∀ k, k ∈ B → k ∉ F) : Own w' E sz v n xs B := by
  obtain ⟨h1, h2⟩ := h
  refine ⟨h1, ?_⟩
  rcases h2 with h2 | ⟨b, off, cap, cur, hv, rfl, hh, r⟩
  · exact .inl h2
  · exact .inr ⟨b, off, cap, cur, hv, rfl, hf.obj hh (hF b (by simp)), r⟩

theorem Own.alloc {w : World} {E : TypeId} {sz : Nat} {v : Value} {n : Nat} {xs : List Value} {B : List Nat} (h : Own w E sz v n xs B) (o : Obj) : Own (w.alloc o) E sz v n xs B :=
  h.fr ((Fr.refl [] w).alloc o) (by simp)
theorem Own.drew {w : World} {E : TypeId} {sz : Nat} {v : Value} {n : Nat} {xs : List Value} {B : List Nat} (h : Own w E sz v n xs B) : Own w.drew E sz v n xs B := h
theorem Own.drewN {w : World} {E : TypeId} {sz : Nat} {v : Value} {n : Nat} {xs : List Value} {B : List Nat} (h : Own w E sz v n xs B) (k : Nat) : Own (w.drewN k) E sz v n xs B := h
theorem Own.setCell {w : World} {E : TypeId} {sz : Nat} {v : Value} {n : Nat} {xs : List Value} {B : List Nat} (h : Own w E sz v n xs B) {p : Addr} (hp : p.block ∉ B) (u : Value) : Own (w.setCell p u) E sz v n xs B :=
  h.fr (F := [p.block]) ((Fr.refl _ w).setCell (by simp) u) (fun k hk hk2 => by simp at hk2; subst hk2; exact hp hk)

/-- A block that was just made, the slice at its head. -/
theorem Own.new (w : World) (E : TypeId) (sz n cap : Nat) (cs : Array Value) (hn : n ≤ cap) (hm : cap ≤ maxLen) (hs : cs.size = cap * sz) :
    Own (w.alloc (.cells cs E)) E sz (.slice (some ⟨w.heap.size, 0, none⟩) n cap) n (cs.toList.take (n * sz)) [w.heap.size] := by
  have hle : n * sz ≤ cap * sz := Nat.mul_le_mul_right _ hn
  refine ⟨by simp; omega, .inr ⟨w.heap.size, 0, cap, cs, rfl, rfl, ?_, hn, hm, by omega, ?_⟩⟩
  · show (w.heap.push _)[w.heap.size]? = _
    simp
  · intro j hj
    simp [hj]

/-- What stands at a place. -/
theorem Own.at {w : World} {E : TypeId} {sz : Nat} {n cap b off : Nat} {xs : List Value} {B : List Nat} (h : Own w E sz (.slice (some ⟨b, off, none⟩) n cap) n xs B) :
    (∀ j, j < n * sz → w.cell? ⟨b, off + j, none⟩ = xs[j]?) ∧ (∀ j, w.frozen? ⟨b, j, none⟩ = false) ∧ n ≤ cap ∧ cap ≤ maxLen ∧ B = [b] ∧
      (∀ j, j < cap * sz → (w.cell? ⟨b, off + j, none⟩).isSome = true) := by
  obtain ⟨h1, ⟨hv, _, _⟩ | ⟨b', off', cap', cur, hv, rfl, hh, h3, h4, h5, h6⟩⟩ := h
  · simp at hv
  · simp only [Value.slice.injEq, Option.some.injEq, Addr.mk.injEq] at hv
    obtain ⟨⟨rfl, rfl, _⟩, _, rfl⟩ := hv
    refine ⟨fun j hj => ?_, fun j => ?_, h3, h4, rfl, fun j hj => ?_⟩
    · simp [World.cell?, hh, h6 j hj]
    · simp [World.frozen?, hh]
    · simp [World.cell?, hh]; omega

/-- The shape of what is owned. -/
theorem Own.shape {w : World} {E : TypeId} {sz : Nat} {v : Value} {n : Nat} {xs : List Value} {B : List Nat} (h : Own w E sz v n xs B) :
    (v = .slice none 0 0 ∧ n = 0 ∧ xs = [] ∧ B = []) ∨ ∃ b off cap, v = .slice (some ⟨b, off, none⟩) n cap ∧ B = [b] ∧ n ≤ cap ∧ cap ≤ maxLen := by
  obtain ⟨h1, ⟨hv, rfl, hB⟩ | ⟨b, off, cap, cur, hv, hB, hh, h3, h4, h5, h6⟩⟩ := h
  · exact .inl ⟨hv, rfl, by simpa using h1, hB⟩
  · exact .inr ⟨b, off, cap, hv, hB, h3, h4⟩

theorem Own.val {w : World} {E : TypeId} {sz : Nat} {v : Value} {n : Nat} {xs : List Value} {B : List Nat} (h : Own w E sz v n xs B) : ∃ ao cap, v = .slice ao n cap ∧ n ≤ cap ∧ cap ≤ maxLen := by
  rcases h.shape with ⟨rfl, rfl, _, _⟩ | ⟨b, off, cap, rfl, _, h1, h2⟩
  · exact ⟨none, 0, rfl, Nat.le_refl _, by unfold maxLen; omega⟩
  · exact ⟨_, cap, rfl, h1, h2⟩

/-- v reads as the n elements xs (sz cells each), which lie in block S; nobody says that it may be written. -/
def Rd (w : World) (sz : Nat) (v : Value) (n : Nat) (xs : List Value) (S : List Nat) : Prop :=
  xs.length = n * sz ∧ ∃ ao cap, v = .slice ao n cap ∧ n ≤ cap ∧ cap ≤ maxLen ∧
    (n = 0 ∨ ∃ b o, ao = some ⟨b, o, none⟩ ∧ S = [b] ∧ b < w.heap.size ∧ ∀ j, j < n * sz → w.cell? ⟨b, o + j, none⟩ = xs[j]?)

theorem Own.rd {w : World} {E : TypeId} {sz : Nat} {v : Value} {n : Nat} {xs : List Value} {B : List Nat} (h : Own w E sz v n xs B) : Rd w sz v n xs B := by
  obtain ⟨h1, ⟨rfl, rfl, rfl⟩ | ⟨b, off, cap, cur, rfl, rfl, hh, h3, h4, h5, h6⟩⟩ := h
  · exact ⟨h1, none, 0, rfl, Nat.le_refl _, by unfold maxLen; omega, .inl rfl⟩
  · exact ⟨h1, _, cap, rfl, h3, h4, .inr ⟨b, off, rfl, rfl, (Array.getElem?_eq_some_iff.1 hh).1, fun j hj => by simp [World.cell?, hh, h6 j hj]⟩⟩

theorem Rd.fr {F : List Nat} {w w' : World} (hf : Fr F w w') {sz : Nat} {v : Value} {n : Nat} {xs : List Value} {S : List Nat} (h : Rd w sz v n xs S) (hF : ∀ k, k ∈ S → k ∉ F) : Rd w' sz v n xs S := by
  obtain ⟨h1, ao, cap, h2, h3, h4, h5⟩ := h
  refine ⟨h1, ao, cap, h2, h3, h4, ?_⟩
  rcases h5 with h5 | ⟨b, o, ha, rfl, hb, hc⟩
  · exact .inl h5
  · exact .inr ⟨b, o, ha, rfl, Nat.lt_of_lt_of_le hb hf.size, fun j hj => by rw [hf.cell (p := ⟨b, o + j, none⟩) hb (hF b (by simp))]; exact hc j hj⟩

/-- Where there is an element there is an address. -/
theorem Rd.addr {w : World} {sz : Nat} {ao : Option Addr} {n cap : Nat} {xs : List Value} {S : List Nat} (h : Rd w sz (.slice ao n cap) n xs S) (hn : 0 < n) :
    ∃ b o, ao = some ⟨b, o, none⟩ ∧ S = [b] ∧ b < w.heap.size ∧ ∀ j, j < n * sz → w.cell? ⟨b, o + j, none⟩ = xs[j]? := by
  obtain ⟨_, ao', cap', hv, _, _, h5⟩ := h
  simp only [Value.slice.injEq] at hv
  obtain ⟨rfl, _, rfl⟩ := hv
  rcases h5 with h5 | h5
  · omega
  · exact h5

theorem Rd.bounds {w : World} {sz : Nat} {ao : Option Addr} {n cap : Nat} {xs : List Value} {S : List Nat} (h : Rd w sz (.slice ao n cap) n xs S) : xs.length = n * sz ∧ n ≤ cap ∧ cap ≤ maxLen := by
  obtain ⟨h1, ao', cap', hv, h2, h3, _⟩ := h
  simp only [Value.slice.injEq] at hv
  obtain ⟨rfl, _, rfl⟩ := hv
  exact ⟨h1, h2, h3⟩

theorem Rd.val {w : World} {sz : Nat} {v : Value} {n : Nat} {xs : List Value} {S : List Nat} (h : Rd w sz v n xs S) : ∃ ao cap, v = .slice ao n cap := by
  obtain ⟨_, ao, cap, h2, _⟩ := h
  exact ⟨ao, cap, h2⟩

theorem Rd.src {P : Program} {w : World} {sz : Nat} {v : Value} {n : Nat} {xs : List Value} {S : List Nat} (h : Rd w sz v n xs S) {tx e' : TypeId} (hk : P.underlying tx = some (.slice e')) (h1 : ∀ u ∈ xs, u.oneCell' = true) : Src P sz tx v n xs w := by
  obtain ⟨hl, ao, cap, rfl, h2, h3, h4⟩ := h
  rcases h4 with rfl | ⟨b, o, rfl, rfl, hb, hc⟩
  · have hx : xs = [] := by simpa using hl
    subst hx
    cases ao with
    | none => exact ⟨.inl ⟨e', hk⟩, fun _ => rfl, run_firstCells_none w sz 0 0 cap, run_firstCells_none w.drew sz 0 0 cap, by simp, fun _ h => by cases h⟩
    | some ad => exact Src.ofSlice w hk ad 0 cap [] (by simp) (by simp) (by simp)
  · exact Src.ofSlice w hk ⟨b, o, none⟩ n cap xs hl (fun j u hu => by
      have hj : j < n * sz := by have := (List.getElem?_eq_some_iff.1 hu).1; omega
      rw [Addr.add_lit, hc j hj, hu]) h1

theorem cells_setCells (b : Nat) : ∀ (vs : List Value) (o : Nat) (w : World) (cur : Array Value) (E : TypeId) (f : Nat × Nat), w.heap[b]? = some (.cells cur E f) →
    ∃ cur', (w.setCells b o vs).heap[b]? = some (.cells cur' E f) ∧ cur'.size = cur.size ∧ ∀ j, cur'[j]? = if o ≤ j ∧ j < o + vs.length ∧ j < cur.size then vs[j - o]? else cur[j]?
  | [], o, w, cur, E, f, h => ⟨cur, h, rfl, fun j => by rw [if_neg (by simp; omega)]⟩
  | v :: vs, o, w, cur, E, f, h => by
    have h1 : (w.setCell ⟨b, o, none⟩ v).heap[b]? = some (.cells (cur.setIfInBounds o v) E f) := by
      simp [World.setCell, Array.getElem?_modify, h]
    obtain ⟨cur', a1, a2, a3⟩ := cells_setCells b vs (o + 1) _ _ E f h1
    refine ⟨cur', a1, by simpa using a2, fun j => ?_⟩
    rw [a3 j]
    simp only [Array.size_setIfInBounds, List.length_cons]
    by_cases hj : j = o
    · subst hj
      rw [if_neg (by omega)]
      by_cases hs : j < cur.size
      · rw [if_pos (by omega)]; simp [hs]
      · rw [if_neg (by omega), Array.getElem?_eq_none (by simp; omega), Array.getElem?_eq_none (by omega)]
    · by_cases hc : o + 1 ≤ j ∧ j < o + 1 + vs.length ∧ j < cur.size
      · rw [if_pos hc, if_pos (by omega)]
        obtain ⟨d, rfl⟩ : ∃ d, j = o + 1 + d := ⟨j - (o + 1), by omega⟩
        rw [show o + 1 + d - o = (o + 1 + d - (o + 1)) + 1 from by omega]; simp
      · rw [if_neg hc, if_neg (by omega), Array.getElem?_setIfInBounds]
        rw [if_neg (by omega)]

theorem Fr.setCells (w : World) (b o : Nat) (vs : List Value) : Fr [b] w (w.setCells b o vs) := by
  induction vs generalizing o w with
  | nil => exact Fr.refl _ _
  | cons v vs ih =>
    have h1 : Fr [b] w (w.setCell ⟨b, o, none⟩ v) := (Fr.refl _ w).setCell (by simp) v
    exact h1.trans (ih (w := w.setCell ⟨b, o, none⟩ v) (o := o + 1)) (by simp)

section
variable {P : Program}

/-- append onto an owned slice, whatever is appended. -/
theorem run_append_any (w : World) (t tx ty E : TypeId) (i : TypeInfo) (z : Value) (sz by_ : Nat) (ht : P.underlying t = some (.slice E)) (hi : P.info? E = some i) (hz : i.zero = some z) (hsz : i.size = sz) (hby : i.bytes = by_)
    (hzc : z.cells.size = sz) (v : Value) (n : Nat) (xs : List Value) (B : List Nat) (h : Own w E sz v n xs B) (x : Value) (m : Nat) (news : List Value) (hs : Src P sz tx x m news w)
    (h63 : n + m ≤ maxLen) (hfit : (n + m) * by_ ≤ 140737488355328) :
    ∃ v' w' B', (Builtin.append_ #[t, tx] ty #[v, x]).run P w = .ok v' w' ∧ Own w' E sz v' (n + m) (xs ++ news) B' ∧ Fr B w w' ∧ (B' = B ∨ B' = [w.heap.size]) := by
  subst hsz; subst hby
  unfold maxLen at h63
  obtain ⟨h1, ⟨rfl, rfl, rfl⟩ | ⟨b, off, cap, cur, rfl, rfl, hh, h3, h4, h5, h6⟩⟩ := h
  · -- nil
    have hx0 : xs = [] := by simpa using h1
    subst hx0
    by_cases hm : m = 0
    · subst hm
      have hn0 : news = [] := by have := hs.newsLen; simpa using this
      subst hn0
      refine ⟨.slice none 0 0, w, [], ?_, ⟨by simp, .inl ⟨rfl, rfl, rfl⟩⟩, Fr.refl _ _, .inl rfl⟩
      rcases hs.kind with ⟨e', hk⟩ | hk <;> simp [Builtin.append_, run_underlying ht, run_underlying hk, sizeOf, typeInfo, hi, hs.len, hs.cells]
    · have hg := run_append_grow_src (P := P) w t tx ty E i z ht hi hz none 0 0 [] (by simp [Builtin.firstCells]) x m news hs (by omega) (by omega)
        (growslice_fits (by omega) (by simpa using hfit))
      refine ⟨_, _, _, hg, ?_, ?_, .inr rfl⟩
      · have hc1 := grownCap_ge w (0 + m) 0 E
        have hc2 := grownCap_le_maxLen w (0 + m) 0 E (by unfold maxLen; omega)
        have hnl := hs.newsLen
        have := Own.new w.drew E i.size (0 + m) (grownCap w (0 + m) 0 E) (([] ++ news).toArray ++ Builtin.zeroCells z.cells (grownCap w (0 + m) 0 E - (0 + m))) hc1 hc2
          (by simp only [List.nil_append, Array.size_append, List.size_toArray, size_zeroCells, hzc, hnl]; rw [← Nat.add_mul]; congr 1; omega)
        have e : ((([] : List Value) ++ news).toArray ++ Builtin.zeroCells z.cells (grownCap w (0 + m) 0 E - (0 + m))).toList.take ((0 + m) * i.size) = [] ++ news := by
          simp only [List.nil_append, Array.toList_append, Nat.zero_add]
          rw [List.take_append_of_le_length (by omega), List.take_of_length_le (by omega)]
        rw [e] at this
        exact this
      · exact ((Fr.refl [] w).drew).alloc _
  · have hbl : b < w.heap.size := (Array.getElem?_eq_some_iff.1 hh).1
    have hnl := hs.newsLen
    have hcell : ∀ j, j < n * i.size → w.cell? ⟨b, off + j, none⟩ = xs[j]? := fun j hj => by simp [World.cell?, hh, h6 j hj]
    by_cases hroom : n + m ≤ cap
    · have hmul : (n + m) * i.size ≤ cap * i.size := Nat.mul_le_mul_right _ hroom
      rw [Nat.add_mul] at hmul
      have hg := run_append_room_src (P := P) w t tx ty E i ht hi b off n cap x m news hs hroom
        (fun j hj => by simp [World.cell?, hh]; omega) (fun j hj => by simp [World.frozen?, hh])
      refine ⟨_, _, [b], hg, ?_, Fr.setCells w b _ news, .inl rfl⟩
      obtain ⟨cur', a1, a2, a3⟩ := cells_setCells b news (off + n * i.size) w cur E (0, 0) hh
      refine ⟨by rw [List.length_append, h1, hnl, Nat.add_mul], .inr ⟨b, off, cap, cur', rfl, rfl, a1, hroom, h4, by omega, ?_⟩⟩
      intro j hj
      rw [Nat.add_mul] at hj
      rw [a3]
      by_cases hjn : j < n * i.size
      · rw [if_neg (by omega), h6 j hjn, List.getElem?_append_left (by omega)]
      · rw [if_pos (by omega), List.getElem?_append_right (by omega), h1]
        congr 1; omega
    · have hold : (Builtin.firstCells i.size n (.slice (some ⟨b, off, none⟩) n cap)).run P w.drew = .ok xs.toArray w.drew :=
        run_firstCells_some w.drew i.size n ⟨b, off, none⟩ n cap xs h1 (fun j u hu => by
          have hj : j < n * i.size := by have := (List.getElem?_eq_some_iff.1 hu).1; omega
          have := hcell j hj
          rw [hu] at this
          simpa [Addr.add_lit] using this)
      have hg := run_append_grow_src (P := P) w t tx ty E i z ht hi hz (some ⟨b, off, none⟩) n cap xs hold x m news hs (by omega) (by omega)
        (growslice_fits (by omega) hfit)
      refine ⟨_, _, _, hg, ?_, ((Fr.refl [b] w).drew).alloc _, .inr rfl⟩
      have hc1 := grownCap_ge w (n + m) cap E
      have hc2 := grownCap_le_maxLen w (n + m) cap E (by unfold maxLen; omega)
      have hle : (xs ++ news).length = (n + m) * i.size := by rw [List.length_append, h1, hnl, Nat.add_mul]
      have := Own.new w.drew E i.size (n + m) (grownCap w (n + m) cap E) ((xs ++ news).toArray ++ Builtin.zeroCells z.cells (grownCap w (n + m) cap E - (n + m))) hc1 hc2
        (by simp only [Array.size_append, List.size_toArray, size_zeroCells, hzc, hle]; rw [← Nat.add_mul]; congr 1; omega)
      have e : ((xs ++ news).toArray ++ Builtin.zeroCells z.cells (grownCap w (n + m) cap E - (n + m))).toList.take ((n + m) * i.size) = xs ++ news := by
        rw [Array.toList_append]
        rw [List.take_append_of_le_length (by simp [hle]), List.take_of_length_le (by simp [hle])]
      rw [e] at this
      exact this

/-- The same at the operation. -/
theorem wp_append_any {w : World} {o : Oper} {a : Act} {K : Act → World → Prop} {Q : Exit → Act → World → Prop} (s x : Operand) (t tx : TypeId)
    (hop : o.op = Op.call { callee := Callee.builtin Builtin.append, args := #[s, x], argTypes := #[t, tx] })
    (E : TypeId) (i : TypeInfo) (z : Value) (sz by_ : Nat) (ht : P.underlying t = some (.slice E)) (hi : P.info? E = some i) (hz : i.zero = some z) (hsz : i.size = sz) (hby : i.bytes = by_)
    (hzc : z.cells.size = sz) (v : Value) (n : Nat) (xs : List Value) (B : List Nat) (hv : a.eval s = v) (h : Own w E sz v n xs B) (xv : Value) (hx : a.eval x = xv) (m : Nat) (news : List Value) (hs : Src P sz tx xv m news w)
    (h63 : n + m ≤ maxLen) (hfit : (n + m) * by_ ≤ 140737488355328)
    (hK : ∀ v' w' B', Own w' E sz v' (n + m) (xs ++ news) B' → Fr B w w' → (B' = B ∨ B' = [w.heap.size]) → K (a.put o.dst v') w') : o.wp P a w K Q := by
  obtain ⟨v', w', B', hrun, r1, r2, r3⟩ := run_append_any (P := P) w t tx o.type E i z sz by_ ht hi hz hsz hby hzc v n xs B h xv m news hs h63 hfit
  unfold Oper.wp
  simp [execOp, hop, resolve, invoke, builtin, hv, hx, hrun, Result.andThen]
  exact hK _ _ _ r1 r2 r3

theorem wpList_append_any {w : World} {ops : Array Oper} {rest : List Oper} {o : Oper} {a : Act} {Q : Exit → Act → World → Prop} (hgd : o.guard = none) (s x : Operand) (t tx : TypeId)
    (hop : o.op = Op.call { callee := Callee.builtin Builtin.append, args := #[s, x], argTypes := #[t, tx] })
    (E : TypeId) (i : TypeInfo) (z : Value) (sz by_ : Nat) (ht : P.underlying t = some (.slice E)) (hi : P.info? E = some i) (hz : i.zero = some z) (hsz : i.size = sz) (hby : i.bytes = by_)
    (hzc : z.cells.size = sz) (v : Value) (n : Nat) (xs : List Value) (B : List Nat) (hv : a.eval s = v) (h : Own w E sz v n xs B) (xv : Value) (hx : a.eval x = xv) (m : Nat) (news : List Value) (hs : Src P sz tx xv m news w)
    (h63 : n + m ≤ maxLen) (hfit : (n + m) * by_ ≤ 140737488355328)
    (hK : ∀ v' w' B', Own w' E sz v' (n + m) (xs ++ news) B' → Fr B w w' → (B' = B ∨ B' = [w.heap.size]) → wpList P ops Q rest (a.put o.dst v') w') : wpList P ops Q (o :: rest) a w :=
  wpList_plain hgd fun _ hK' => wp_append_any s x t tx hop E i z sz by_ ht hi hz hsz hby hzc v n xs B hv h xv hx m news hs h63 hfit (fun v' w' B' h1 h2 h3 => hK' _ _ (hK v' w' B' h1 h2 h3))

/-- append of one element, which the statement has just laid into a block of its own (W: the world then; w: the world ahead of that block). -/
theorem wp_append_one {w W : World} {o : Oper} {a : Act} {K : Act → World → Prop} {Q : Exit → Act → World → Prop} (s x : Operand) (t : TypeId)
    (hop : o.op = Op.call { callee := Callee.builtin Builtin.append, args := #[s, x], argTypes := #[t, t] })
    (E : TypeId) (i : TypeInfo) (z : Value) (sz by_ : Nat) (ht : P.underlying t = some (.slice E)) (hi : P.info? E = some i) (hz : i.zero = some z) (hsz : i.size = sz) (hby : i.bytes = by_)
    (hzc : z.cells.size = sz) (ao : Option Addr) (n cap : Nat) (xs : List Value) (B : List Nat) (hv : a.eval s = .slice ao n cap) (h : Own w E sz (.slice ao n cap) n xs B) (cs : List Value)
    (hx : a.eval x = .slice (some ⟨w.heap.size, 0, none⟩) 1 1) (hW : W.heap = w.heap.push (.cells cs.toArray E) ∧ W.os = w.os ∧ W.tape = w.tape ∧ W.output = w.output) (hcs : cs.length = sz) (h1 : ∀ u ∈ cs, u.oneCell' = true)
    (h63 : n + 1 ≤ maxLen) (hfit : (n + 1) * by_ ≤ 140737488355328)
    (hK : ∀ ao' cap' w' B', Own w' E sz (.slice ao' (n + 1) cap') (n + 1) (xs ++ cs) B' → Fr B w w' → (∀ k, k ∈ B' → k ∈ B ∨ w.heap.size ≤ k) → K (a.put o.dst (.slice ao' (n + 1) cap')) w') : o.wp P a W K Q := by
  have hfr : Fr [] w W := ⟨hW.2.1, hW.2.2.1, hW.2.2.2, by rw [hW.1]; simp, fun k hk _ => by rw [hW.1, Array.getElem?_push, if_neg (by omega)]⟩
  have hnew : W.heap[w.heap.size]? = some (.cells cs.toArray E (0, 0)) := by rw [hW.1]; simp
  refine wp_append_any s x t t hop E i z sz by_ ht hi hz hsz hby hzc _ n xs B hv (h.fr hfr (by simp)) _ hx 1 cs
    (Src.ofSlice W ht ⟨w.heap.size, 0, none⟩ 1 1 cs (by simpa using hcs) (fun j u hu => ?_) h1) h63 hfit (fun v' w' B' r1 r2 r3 => ?_)
  · rw [Addr.add_lit]; simp [World.cell?, hnew, hu]
  · obtain ⟨ao', cap', rfl, _, _⟩ := r1.val
    refine hK ao' cap' w' B' r1 (hfr.nil.trans r2 (fun k hk => .inl hk)) (fun k hk => ?_)
    rcases r3 with rfl | rfl
    · exact .inl hk
    · have := hfr.size; simp at hk; subst hk; exact .inr this

/-- append(v, src...), v owned, src read. -/
theorem wp_append_src {w : World} {o : Oper} {a : Act} {K : Act → World → Prop} {Q : Exit → Act → World → Prop} (s x : Operand) (t : TypeId)
    (hop : o.op = Op.call { callee := Callee.builtin Builtin.append, args := #[s, x], argTypes := #[t, t] })
    (E : TypeId) (i : TypeInfo) (z : Value) (sz by_ : Nat) (ht : P.underlying t = some (.slice E)) (hi : P.info? E = some i) (hz : i.zero = some z) (hsz : i.size = sz) (hby : i.bytes = by_)
    (hzc : z.cells.size = sz) (ao : Option Addr) (n cap : Nat) (xs : List Value) (B : List Nat) (hv : a.eval s = .slice ao n cap) (h : Own w E sz (.slice ao n cap) n xs B) (sv : Value) (hx : a.eval x = sv) (m : Nat) (news : List Value) (S : List Nat)
    (hr : Rd w sz sv m news S) (h1 : ∀ u ∈ news, u.oneCell' = true) (h63 : n + m ≤ maxLen) (hfit : (n + m) * by_ ≤ 140737488355328)
    (hK : ∀ ao' cap' w' B', Own w' E sz (.slice ao' (n + m) cap') (n + m) (xs ++ news) B' → Fr B w w' → (∀ k, k ∈ B' → k ∈ B ∨ w.heap.size ≤ k) → K (a.put o.dst (.slice ao' (n + m) cap')) w') : o.wp P a w K Q := by
  refine wp_append_any s x t t hop E i z sz by_ ht hi hz hsz hby hzc _ n xs B hv h sv hx m news (hr.src ht h1) h63 hfit (fun v' w' B' r1 r2 r3 => ?_)
  obtain ⟨ao', cap', rfl, _, _⟩ := r1.val
  refine hK ao' cap' w' B' r1 r2 (fun k hk => ?_)
  rcases r3 with rfl | rfl
  · exact .inl hk
  · simp at hk; subst hk; exact .inr (Nat.le_refl _)

/-- append([]E{}, src...): a new row (W: the world behind the empty literal; w: the world ahead of it). -/
theorem wp_append_new {w W : World} {o : Oper} {a : Act} {K : Act → World → Prop} {Q : Exit → Act → World → Prop} (s x : Operand) (t : TypeId)
    (hop : o.op = Op.call { callee := Callee.builtin Builtin.append, args := #[s, x], argTypes := #[t, t] })
    (E : TypeId) (i : TypeInfo) (z : Value) (sz by_ : Nat) (ht : P.underlying t = some (.slice E)) (hi : P.info? E = some i) (hz : i.zero = some z) (hsz : i.size = sz) (hby : i.bytes = by_)
    (hzc : z.cells.size = sz) (hv : a.eval s = .slice (some ⟨w.heap.size, 0, none⟩) 0 0) (hW : W.heap = w.heap.push (.cells #[] E) ∧ W.os = w.os ∧ W.tape = w.tape ∧ W.output = w.output)
    (sv : Value) (hx : a.eval x = sv) (m : Nat) (news : List Value) (S : List Nat)
    (hr : Rd w sz sv m news S) (h1 : ∀ u ∈ news, u.oneCell' = true) (h63 : m ≤ maxLen) (hfit : m * by_ ≤ 140737488355328)
    (hK : ∀ ao' cap' w' B', Own w' E sz (.slice ao' m cap') m news B' → Fr [] w w' → (∀ k, k ∈ B' → w.heap.size ≤ k) → w.heap.size < w'.heap.size → K (a.put o.dst (.slice ao' m cap')) w') : o.wp P a W K Q := by
  have hfr : Fr [] w W := ⟨hW.2.1, hW.2.2.1, hW.2.2.2, by rw [hW.1]; simp, fun k hk _ => by rw [hW.1, Array.getElem?_push, if_neg (by omega)]⟩
  have hnew : W.heap[w.heap.size]? = some (.cells #[] E (0, 0)) := by rw [hW.1]; simp
  have hown : Own W E sz (.slice (some ⟨w.heap.size, 0, none⟩) 0 0) 0 [] [w.heap.size] :=
    ⟨by simp, .inr ⟨w.heap.size, 0, 0, #[], rfl, rfl, hnew, Nat.le_refl _, by unfold maxLen; omega, by simp, fun j hj => by omega⟩⟩
  have hWs : W.heap.size = w.heap.size + 1 := by rw [hW.1]; simp
  refine wp_append_src s x t hop E i z sz by_ ht hi hz hsz hby hzc _ 0 0 [] _ hv hown sv hx m news S (hr.fr hfr (by simp)) h1 (by omega) (by simpa using hfit) (fun ao' cap' w' B' r1 r2 r3 => ?_)
  have := hK ao' cap' w' B' (by simpa using r1) (hfr.trans r2 (fun k hk => by simp at hk; exact .inr (by omega))) (fun k hk => by
    rcases r3 k hk with h | h
    · simp at h; omega
    · omega) (by have := r2.size; omega)
  simpa using this

end

#print axioms wpList_append_any
#print axioms wp_append_one
end Go.Own
