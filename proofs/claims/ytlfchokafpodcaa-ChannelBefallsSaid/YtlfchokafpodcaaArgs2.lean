/- Arguments opened: rows of structs, each told by a property of its cells. -/
import Derived.Test.YtlfchokafpodcaaArgs
open Go.ChangeShapes Go.WideShapes Go.ChangeAt Go.RowKit Go.Deep
namespace Go.Own

/-- Structs in a row, each with Row. -/
def RowsOf (C : Asn) (sz : Nat) (Row : List Value → Prop) (ao : Option Addr) (n cap : Nat) : Prop := ∃ cells, Reads C sz (.slice ao n cap) n cells ∧ ∀ i, i < n → Row ((cells.drop (i * sz)).take sz)

section
variable {H : Type} {enc : TypeId × Value → H} {P : Program} {W : World}
theorem open_structs {Row : List Value → Prop} {t e : TypeId} {sz by_ : Nat} {r : Reach} {b1 : Nat} {v : Value} {d : DataW H} {ps : List MemPlace} (ht : P.underlying t = some (.slice e)) (hc : P.cellsOf e = sz) (hb : P.bytesOf e = by_) (hsz : 0 < sz)
    (hel : ∀ (fuel : Nat) (cs : List Value) (x : DataW H × List MemPlace), DataW.trod enc P W 0 (fun _ => true) true fuel e cs = some x → (∀ p ∈ x.2, p.block < W.heap.size) → (∀ q ∈ x.1.weights P e, q ≤ reachBytes) → Row cs)
    (hval : Value.okWide P W r b1 t v) (hd : DataW.Trod enc P W 0 (fun _ => true) true t v d ps) (hlt : ∀ p ∈ ps, p.block < W.heap.size) (hw : ∀ q ∈ d.weights P t, q ≤ reachBytes) :
    ∃ ao n cap, v = .slice ao n cap ∧ RowsOf (oldA W) sz Row ao n cap ∧ n * by_ ≤ 140737488351232 := by
  obtain ⟨fuel, hf⟩ := hd
  obtain ⟨ao0, n0, cap0, rfl⟩ := okWide_slice ht hval
  obtain ⟨ao, n, cap, cells, S, hcs, hrd, hS, hn, hel2⟩ := open_rows ht hc hb hsz hf hlt hw
  simp only [Value.cells] at hcs
  simp at hcs
  obtain ⟨rfl, rfl, rfl⟩ := hcs
  exact ⟨ao0, n0, cap0, rfl, ⟨cells, Reads.old hrd hS, fun i hi => by
    obtain ⟨f', y, h1, h2, h3⟩ := hel2 i hi
    exact hel f' _ y h1 h2 h3⟩, hn⟩
end

/-- One of them: its cells in every world. -/
theorem RowsOf.at {C : Asn} {sz : Nat} {Row : List Value → Prop} {ao : Option Addr} {n cap : Nat} (h : RowsOf C sz Row ao n cap) {i : Nat} (hi : i < n) (hsz : 0 < sz) {w0 : World} {L0 : List Asn} (h0 : Hold w0 (C :: L0)) :
    ∃ rb ro vs, ao = some ⟨rb, ro, none⟩ ∧ Row vs ∧ ∀ w L, Hold w (C :: L) → ∀ j, j < sz → w.cell? ⟨rb, ro + (i * sz + j), none⟩ = vs[j]? := by
  obtain ⟨cells, hR, hel⟩ := h
  have hle : (i + 1) * sz ≤ n * sz := Nat.mul_le_mul_right _ hi
  rw [Nat.succ_mul] at hle
  obtain ⟨S, hrd⟩ := h0.reads hR
  obtain ⟨rb, ro, rfl, -, -, -⟩ := hrd.addr (by omega)
  refine ⟨rb, ro, _, rfl, hel i hi, fun w L hW j hj => ?_⟩
  obtain ⟨S2, hrd2⟩ := hW.reads hR
  obtain ⟨rb2, ro2, he, -, -, hcs⟩ := hrd2.addr (by omega)
  simp only [Option.some.injEq, Addr.mk.injEq, and_true] at he
  obtain ⟨rfl, rfl⟩ := he
  rw [hcs _ (by omega), List.getElem?_take, if_pos hj, List.getElem?_drop]

end Go.Own
