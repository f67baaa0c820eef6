/- The law's held: rows marked, lengthened, looked at again. -/
import Derived.Test.YtjnjbmkkfkdhcaaSeY
open Go.RowKit Go.Own
namespace Go.Proofs.Ytjnjbmkkfkdhcaa

/-- The mark of row i. -/
def M (i : Nat) : UInt8 := UInt8.ofNat (100 + i)
structure P1 (X Y : List (List UInt8)) (i0 k0 : Nat) : Prop where
  len : Y.length = X.length
  row : ∀ (i : Nat) (x y : List UInt8), X[i]? = some x → Y[i]? = some y → y.length = x.length ∧ ∀ k, k < x.length → (i < i0 ∨ (i = i0 ∧ k < k0)) → y[k]? = some (M i)
theorem P1.start (X : List (List UInt8)) : P1 X X 0 0 := ⟨rfl, fun i x y hx hy => by
  rw [hx] at hy
  obtain rfl : x = y := by simpa using hy
  exact ⟨rfl, fun k _ h => by omega⟩⟩
theorem P1.set {X Y : List (List UInt8)} {i0 k0 : Nat} (H : P1 X Y i0 k0) {x y : List UInt8} (hx : X[i0]? = some x) (hy : Y[i0]? = some y) (hk : k0 < x.length) : P1 X (Y.set i0 (y.set k0 (M i0))) i0 (k0 + 1) := by
  refine ⟨by simpa using H.len, fun i x' y' hx' hy' => ?_⟩
  by_cases hi : i0 = i
  · subst hi
    rw [hx] at hx'
    obtain rfl : x = x' := by simpa using hx'
    have hlt := (List.getElem?_eq_some_iff.1 hy).1
    rw [List.getElem?_set_self hlt] at hy'
    obtain rfl : y.set k0 (M i0) = y' := by simpa using hy'
    obtain ⟨a, b⟩ := H.row _ _ _ hx hy
    refine ⟨by simpa using a, fun k hk' h => ?_⟩
    by_cases hkk : k0 = k
    · subst hkk
      rw [List.getElem?_set_self (by omega)]
    · rw [List.getElem?_set_ne hkk]
      exact b k hk' (by omega)
  · rw [List.getElem?_set_ne hi] at hy'
    obtain ⟨a, b⟩ := H.row _ _ _ hx' hy'
    exact ⟨a, fun k hk' h => b k hk' (by omega)⟩
theorem P1.next {X Y : List (List UInt8)} {i0 : Nat} {x : List UInt8} (H : P1 X Y i0 x.length) (hx : X[i0]? = some x) : P1 X Y (i0 + 1) 0 := by
  refine ⟨H.len, fun i x' y' hx' hy' => ?_⟩
  obtain ⟨a, b⟩ := H.row _ _ _ hx' hy'
  refine ⟨a, fun k hk h => b k hk ?_⟩
  by_cases hi : i = i0
  · subst hi
    rw [hx] at hx'
    obtain rfl : x = x' := by simpa using hx'
    exact .inr ⟨rfl, hk⟩
  · omega

structure P2 (X Y : List (List UInt8)) (i0 k0 : Nat) : Prop where
  len : Y.length = X.length
  row : ∀ (i : Nat) (x y : List UInt8), X[i]? = some x → Y[i]? = some y → x.length ≤ y.length ∧ y.length ≤ x.length + (if i < i0 then 64 else if i = i0 then k0 else 0) ∧ ∀ k, k < x.length → y[k]? = some (M i)
theorem P2.start {X Y : List (List UInt8)} (H : P1 X Y X.length 0) : P2 X Y 0 0 := ⟨H.len, fun i x y hx hy => by
  obtain ⟨a, b⟩ := H.row _ _ _ hx hy
  have hlt := (List.getElem?_eq_some_iff.1 hx).1
  exact ⟨by omega, by omega, fun k hk => b k hk (.inl hlt)⟩⟩
theorem P2.app {X Y : List (List UInt8)} {i0 k0 : Nat} (H : P2 X Y i0 k0) {y : List UInt8} (hy : Y[i0]? = some y) (v : UInt8) : P2 X (Y.set i0 (y ++ [v])) i0 (k0 + 1) := by
  refine ⟨by simpa using H.len, fun i x' y' hx' hy' => ?_⟩
  by_cases hi : i0 = i
  · subst hi
    have hlt := (List.getElem?_eq_some_iff.1 hy).1
    rw [List.getElem?_set_self hlt] at hy'
    obtain rfl : y ++ [v] = y' := by simpa using hy'
    obtain ⟨a, b, c⟩ := H.row _ _ _ hx' hy
    rw [if_neg (by omega), if_pos rfl] at b ⊢
    refine ⟨by simp; omega, by simp; omega, fun k hk => ?_⟩
    rw [List.getElem?_append_left (by omega)]
    exact c k hk
  · rw [List.getElem?_set_ne hi] at hy'
    obtain ⟨a, b, c⟩ := H.row _ _ _ hx' hy'
    refine ⟨a, ?_, c⟩
    by_cases h : i < i0
    · rw [if_pos h] at b ⊢; exact b
    · rw [if_neg h, if_neg (by omega)] at b ⊢; exact b
theorem P2.next {X Y : List (List UInt8)} {i0 : Nat} (H : P2 X Y i0 64) : P2 X Y (i0 + 1) 0 := by
  refine ⟨H.len, fun i x' y' hx' hy' => ?_⟩
  obtain ⟨a, b, c⟩ := H.row _ _ _ hx' hy'
  refine ⟨a, ?_, c⟩
  by_cases h : i < i0
  · rw [if_pos h] at b; rw [if_pos (by omega)]; exact b
  · by_cases h2 : i = i0
    · rw [if_neg h, if_pos h2] at b; rw [if_pos (by omega)]; exact b
    · rw [if_neg h, if_neg h2] at b; rw [if_neg (by omega)]; split <;> omega

/-- A row of one's own with one element. -/
theorem oneRow {w : World} {L : List Asn} (h : Hold w L) (E : TypeId) (v : Value) : Hold (w.alloc (.cells #[v] E)) (rowA E 1 (some ⟨w.heap.size, 0, none⟩) 1 1 [v] :: L) :=
  h.new ((Fr.refl _ _).alloc _) (B := [w.heap.size]) (Own.new w E 1 1 1 #[v] (by omega) (by unfold maxLen; omega) (by simp)) (by simp) (by simp)

/-- A place in a row of rows. -/
theorem rows_put {w : World} {ao : Option Addr} {cap : Nat} {Y : List (List UInt8)} {L : List Asn} (h : Hold w (rowsA ao cap Y :: L)) {i : Nat} {y : List UInt8} (hy : Y[i]? = some y) :
    ∃ rb ro co cc, ao = some ⟨rb, ro, none⟩ ∧ w.cell? ⟨rb, ro + i, none⟩ = some (.slice co y.length cc) ∧ ∀ k (hk : k < y.length), ∃ cb cp, co = some ⟨cb, cp, none⟩ ∧ w.cell? ⟨cb, cp + k, none⟩ = some (.int .u8 (y[k].toNat : Nat)) ∧ w.frozen? ⟨cb, cp + k, none⟩ = false ∧
      ∀ v : UInt8, Hold (w.setCell ⟨cb, cp + k, none⟩ (.int .u8 (v.toNat : Nat))) (rowsA ao cap (Y.set i (y.set k v)) :: L) := by
  obtain ⟨vs, hl, h1⟩ := rows_open h
  have hi := (List.getElem?_eq_some_iff.1 hy).1
  obtain ⟨u, hu, hs, hr⟩ := sl_get hl hy
  obtain ⟨rb, ro, rfl, hc, -⟩ := h1.at (by omega)
  refine ⟨rb, ro, u.1, u.2, rfl, by rw [hc i (by omega)]; exact hs, fun k hk => ?_⟩
  have h2 := (h1.mv 1).out hr
  (try dsimp only [Go.Own.front, Go.Own.arrA, Go.Own.atA, Go.Own.dropA, List.length_cons, List.length_nil, Nat.zero_add, Nat.reduceAdd] at h2)
  obtain ⟨cb, cp, he, hcc, hff⟩ := h2.at (by omega)
  refine ⟨cb, cp, he, by rw [hcc k (by omega)]; simp [ub, hk], hff _, fun v => ?_⟩
  rw [he] at h2
  have h3 := h2.put k (by omega) (.int .u8 (v.toNat : Nat))
  have e1 : (ub y).set k (.int .u8 (v.toNat : Nat)) = ub (y.set k v) := by simp [ub, List.map_set]
  rw [e1] at h3
  have h4 := h3.back (by rw [rws_length hl]; exact hi)
  have hlen : (y.set k v).length = y.length := by simp
  have e2 := rws_set Y vs i (y.set k v) u
  have e3 := sl_set Y vs i (y.set k v) u
  rw [he, hlen] at e2
  rw [← e2] at h4
  have e4 : sl (Y.set i (y.set k v)) (vs.set i u) = sl Y vs := by
    rw [e3, hlen]
    apply List.ext_getElem?
    intro j
    by_cases hj : i = j
    · subst hj
      rw [List.getElem?_set_self (by rw [sl_length hl]; exact hi), hs]
    · rw [List.getElem?_set_ne hj]
  have h5 := h4.swap
  rw [← e4] at h5
  have e5 : Y.length = (Y.set i (y.set k v)).length := by simp
  rw [e5] at h5
  exact rows_close (by simp [hl]) h5

/-- One of the rows by itself, to be put back longer. -/
theorem rows_take {w : World} {ao : Option Addr} {cap : Nat} {Y : List (List UInt8)} {L : List Asn} (h : Hold w (rowsA ao cap Y :: L)) {i : Nat} {y : List UInt8} (hy : Y[i]? = some y) :
    ∃ rb ro co cc Z, ao = some ⟨rb, ro, none⟩ ∧ Hold w (rowA 5 1 co y.length cc (ub y) :: Z ++ L) ∧ (∀ W R, Hold W (R :: Z ++ L) → W.cell? ⟨rb, ro + i, none⟩ = some (.slice co y.length cc) ∧ W.frozen? ⟨rb, ro + i, none⟩ = false) ∧
      ∀ W (c2 : Option Addr) (d2 : Nat) (y2 : List UInt8), Hold W (rowA 5 1 c2 y2.length d2 (ub y2) :: Z ++ L) → Hold (W.setCell ⟨rb, ro + i, none⟩ (.slice c2 y2.length d2)) (rowsA ao cap (Y.set i y2) :: L) := by
  obtain ⟨vs, hl, h1⟩ := rows_open h
  have hi := (List.getElem?_eq_some_iff.1 hy).1
  obtain ⟨u, hu, hs, hr⟩ := sl_get hl hy
  obtain ⟨rb, ro, rfl, hc, -⟩ := h1.at (by omega)
  have h2 := (h1.mv 1).out hr
  (try dsimp only [Go.Own.front, Go.Own.arrA, Go.Own.atA, Go.Own.dropA, List.length_cons, List.length_nil, Nat.zero_add, Nat.reduceAdd] at h2)
  refine ⟨rb, ro, u.1, u.2, [Go.Own.starL ((rws Y vs).eraseIdx i), rowA 32 1 (some ⟨rb, ro, none⟩) Y.length cap (sl Y vs)], rfl, h2, fun W R hW => ?_, fun W c2 d2 y2 hW => ?_⟩
  · have hW' : Hold W (R :: Go.Own.starL ((rws Y vs).eraseIdx i) :: rowA 32 1 (some ⟨rb, ro, none⟩) Y.length cap (sl Y vs) :: L) := hW
    obtain ⟨b', o', he, hcc, hff⟩ := (hW'.mv 2).at (by omega)
    simp only [Option.some.injEq, Addr.mk.injEq, and_true] at he
    obtain ⟨rfl, rfl⟩ := he
    exact ⟨by rw [hcc i (by omega)]; exact hs, hff _⟩
  · have hW' : Hold W (rowA 5 1 c2 y2.length d2 (ub y2) :: Go.Own.starL ((rws Y vs).eraseIdx i) :: rowA 32 1 (some ⟨rb, ro, none⟩) Y.length cap (sl Y vs) :: L) := hW
    have h3 := (hW'.mv 2).put i (by omega) (.slice c2 y2.length d2)
    have h4 := h3.arr [1, 2, 0]
    (try dsimp only [Go.Own.front, Go.Own.arrA, Go.Own.atA, Go.Own.dropA, List.length_cons, List.length_nil, Nat.zero_add, Nat.reduceAdd] at h4)
    have h5 := h4.back (by rw [rws_length hl]; exact hi)
    have e2 := rws_set Y vs i y2 (c2, d2)
    have e3 := sl_set Y vs i y2 (c2, d2)
    simp only at e2 e3
    rw [← e2] at h5
    have h6 := h5.swap
    rw [← e3] at h6
    have e5 : Y.length = (Y.set i y2).length := by simp
    rw [e5] at h6
    exact rows_close (by simp [hl]) h6

end Go.Proofs.Ytjnjbmkkfkdhcaa
