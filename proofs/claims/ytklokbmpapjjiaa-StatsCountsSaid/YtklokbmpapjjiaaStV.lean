/- Pairs of bytes among the arguments. -/
import Derived.Test.YtklokbmpapjjiaaCtC
import Derived.Test.YtklokbmpapjjiaaStK
open Go.ChangeShapes Go.WideShapes Go.ChangeAt Go.RowKit Go.Own
namespace Go.Proofs.Ytklokbmpapjjiaa

theorem c5 : Try.prog.cellsOf 5 = 1 := by kernel_rfl
theorem c57 : Try.prog.cellsOf 57 = 2 := by kernel_rfl
theorem b57 : Try.prog.bytesOf 57 = 2 := by kernel_rfl

theorem u8_of_wf {n : Int} (h : (Lit.int .u8 n).wf = true) : n = ((UInt8.ofNat n.toNat).toNat : Int) := by
  simp only [Lit.wf, IntKind.has, IntKind.min, IntKind.max, IntKind.bits, IntKind.signed, Bool.and_eq_true, decide_eq_true_eq] at h
  simp at h
  simp; omega

theorem open_pairs {H : Type} {enc0 : TypeId × Value → H} {W : World} {r : Reach} {b1 : Nat} {v : Value} {d : DataW H} {ps : List MemPlace} (hval : Value.okWide Try.prog W r b1 53 v) (hd : DataW.Trod enc0 Try.prog W 0 (fun _ => true) true 53 v d ps)
    (hlt : ∀ p ∈ ps, p.block < W.heap.size) (hw : ∀ q ∈ d.weights Try.prog 53, q ≤ reachBytes) :
    ∃ ao n cap l, v = .slice ao n cap ∧ Reads (oldA W) 2 (.slice ao n cap) n (ub l) ∧ n ≤ 140737488351232 := by
  obtain ⟨fuel, hf⟩ := hd
  obtain ⟨ao0, n0, cap0, rfl⟩ := okWide_slice Try.underlying53 hval
  obtain ⟨ao, n, cap, cells, S, hcs, hrd, hS, hn, hel⟩ := open_rows Try.underlying53 c57 b57 (by omega) hf hlt hw
  simp only [Value.cells] at hcs
  simp at hcs
  obtain ⟨rfl, rfl, rfl⟩ := hcs
  have hlen := hrd.bounds.1
  have hb : ∀ q, q < n0 * 2 → ∃ x : UInt8, cells[q]? = some (.int .u8 (x.toNat : Int)) := fun q hq => by
    obtain ⟨f', y, hy, _, _⟩ := hel (q / 2) (by omega)
    obtain ⟨h1, f2, h2⟩ := Go.Own.trod_array Try.underlying57 hy
    obtain ⟨z, hz⟩ := h2 (q % 2) (by omega)
    rw [c5, Nat.mul_one] at hz
    obtain ⟨m, e, _, hwf⟩ := DataW.trod_int Try.underlying5 hz
    have e2 : cells[q / 2 * 2 + q % 2]? = some (.int .u8 m) := by
      have : ((((cells.drop (q / 2 * 2)).take 2).drop (q % 2)).take 1)[0]? = some (.int .u8 m) := by rw [e]; rfl
      rw [List.getElem?_take, if_pos (by omega), List.getElem?_drop, List.getElem?_take, if_pos (by omega), List.getElem?_drop, Nat.add_zero] at this
      exact this
    rw [show q / 2 * 2 + q % 2 = q from by omega] at e2
    exact ⟨_, by rw [e2, ← u8_of_wf hwf]⟩
  obtain ⟨f, hf2⟩ : ∃ f : Nat → UInt8, ∀ q, q < n0 * 2 → cells[q]? = some (.int .u8 ((f q).toNat : Int)) :=
    ⟨fun q => if h : q < n0 * 2 then (hb q h).choose else 0, fun q hq => by simp only [hq, dite_true]; exact (hb q hq).choose_spec⟩
  refine ⟨ao0, n0, cap0, (List.range (n0 * 2)).map f, rfl, Reads.old ?_ hS, by omega⟩
  have e : cells = ub ((List.range (n0 * 2)).map f) := by
    apply List.ext_getElem?
    intro q
    by_cases hq : q < n0 * 2
    · rw [hf2 q hq]; simp [ub, hq]
    · rw [List.getElem?_eq_none (by omega), List.getElem?_eq_none (by simp; omega)]
  rw [← e]
  exact hrd

end Go.Proofs.Ytklokbmpapjjiaa
