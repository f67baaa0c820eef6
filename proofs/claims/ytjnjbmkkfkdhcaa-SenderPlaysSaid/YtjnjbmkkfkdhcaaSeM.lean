/- Arguments of the laws of a sender. -/
import Derived.Test.YtjnjbmkkfkdhcaaSeL
import Derived.Test.YtjnjbmkkfkdhcaaArgs2
open Go.ChangeShapes Go.WideShapes Go.ChangeAt Go.RowKit Go.Own
namespace Go.Proofs.Ytjnjbmkkfkdhcaa

theorem c3 : Try.prog.cellsOf 3 = 1 := by kernel_rfl
theorem c4 : Try.prog.cellsOf 4 = 1 := by kernel_rfl
theorem c5 : Try.prog.cellsOf 5 = 1 := by kernel_rfl
theorem b5 : Try.prog.bytesOf 5 = 1 := by kernel_rfl
theorem c22 : Try.prog.cellsOf 22 = 1 := by kernel_rfl
theorem c32 : Try.prog.cellsOf 32 = 1 := by kernel_rfl
theorem c24 : Try.prog.cellsOf 24 = 4 := by kernel_rfl
theorem c34 : Try.prog.cellsOf 34 = 4 := by kernel_rfl
theorem b34 : Try.prog.bytesOf 34 = 40 := by kernel_rfl

theorem u32_wf {n : Int} (h : (Lit.int .u32 n).wf = true) : ∃ F : Nat, n = F ∧ F ≤ 4294967295 := by
  simp only [Lit.wf, IntKind.has, IntKind.min, IntKind.max, IntKind.bits, IntKind.signed, Bool.and_eq_true, decide_eq_true_eq] at h
  simp at h
  exact ⟨n.toNat, by omega, by omega⟩
theorem four_cells {vs : List Value} {v0 v1 v2 v3 : Value} (h : vs.length = 4) (g0 : vs[0]? = some v0) (g1 : vs[1]? = some v1) (g2 : vs[2]? = some v2) (g3 : vs[3]? = some v3) : vs = [v0, v1, v2, v3] := by
  match vs, h, g0, g1, g2, g3 with
  | [_, _, _, _], _, g0, g1, g2, g3 => simp at g0 g1 g2 g3; simp [g0, g1, g2, g3]

/-- One call's cells. -/
def OpRow (C : Asn) (vs : List Value) : Prop := ∃ (k : Int) (ys : List UInt8) (ao : Option Addr) (cap : Nat) (N : Nat) (near : Bool), vs = [.int .i64 k, .slice ao ys.length cap, .int .u32 N, .bool near] ∧ Reads C 1 (.slice ao ys.length cap) ys.length (ub ys) ∧ ys.length ≤ 140737488351232 ∧ N ≤ 4294967295

section
variable {H : Type} {enc0 : TypeId × Value → H} {W : World} {r : Reach} {b1 : Nat} {v : Value} {d : DataW H} {ps : List MemPlace}
theorem opRow {fuel : Nat} {vs : List Value} {x : DataW H × List MemPlace} (h : DataW.trod enc0 Try.prog W 0 (fun _ => true) true fuel 34 vs = some x) (hlt : ∀ p ∈ x.2, p.block < W.heap.size) (hw : ∀ q ∈ x.1.weights Try.prog 34, q ≤ reachBytes) : OpRow (oldA W) vs := by
  obtain ⟨h1, f2, h2⟩ := trod_fields2 Try.underlying34 h
  rw [c34] at h1
  obtain ⟨y0, a0, -, -⟩ := h2 _ (List.mem_of_getElem? (i := 0) rfl)
  obtain ⟨y1, a1, p1, w1⟩ := h2 _ (List.mem_of_getElem? (i := 1) rfl)
  obtain ⟨y2, a2, -, -⟩ := h2 _ (List.mem_of_getElem? (i := 2) rfl)
  obtain ⟨y3, a3, -, -⟩ := h2 _ (List.mem_of_getElem? (i := 3) rfl)
  simp only [c32, c3, c22, c4] at a0 a1 a2 a3
  obtain ⟨k, e0, -, -⟩ := DataW.trod_int Try.underlying3 a0
  obtain ⟨ao, n, cap, ys, S, e1, r1, s1, n1⟩ := trod_bytes Try.underlying32 Try.underlying5 c5 b5 a1 (fun p hp => hlt p (p1 p hp)) (fun q hq => hw q (w1 q hq))
  obtain ⟨N, e2, -, w2⟩ := DataW.trod_int Try.underlying22 a2
  obtain ⟨near, e3, -⟩ := DataW.trod_bool Try.underlying4 a3
  obtain ⟨N, rfl, hN⟩ := u32_wf w2
  have hn : ys.length = n := by have := r1.bounds.1; simpa using this
  subst hn
  exact ⟨k, ys, ao, cap, N, near, four_cells h1 (cell_at e0) (cell_at e1) (cell_at e2) (cell_at e3), Reads.old r1 s1, n1, hN⟩

theorem open_ops (hval : Value.okWide Try.prog W r b1 25 v) (hd : DataW.Trod enc0 Try.prog W 0 (fun _ => true) true 25 v d ps) (hlt : ∀ p ∈ ps, p.block < W.heap.size) (hw : ∀ q ∈ d.weights Try.prog 25, q ≤ reachBytes) :
    ∃ ao n cap, v = .slice ao n cap ∧ RowsOf (oldA W) 4 (OpRow (oldA W)) ao n cap ∧ n * 40 ≤ 140737488351232 :=
  open_structs Try.underlying25 c34 b34 (by omega) (fun fuel cs x h1 h2 h3 => opRow h1 h2 h3) hval hd hlt hw

theorem open_setup (hval : Value.okWide Try.prog W r b1 24 v) (hd : DataW.Trod enc0 Try.prog W 0 (fun _ => true) true 24 v d ps) :
    ∃ (w s t : Int) (F : Nat), v = .agg #[.int .i64 w, .int .i64 s, .int .i64 t, .int .u32 F] ∧ F ≤ 4294967295 := by
  obtain ⟨fuel, hf⟩ := hd
  simp only [Value.okWide, Try.underlying24, Try.underlying23] at hval
  obtain ⟨cs, rfl, _, _⟩ := hval
  obtain ⟨h1, f2, h2⟩ := trod_fields2 Try.underlying24 hf
  rw [c24] at h1
  obtain ⟨y0, a0, -, -⟩ := h2 _ (List.mem_of_getElem? (i := 0) rfl)
  obtain ⟨y1, a1, -, -⟩ := h2 _ (List.mem_of_getElem? (i := 1) rfl)
  obtain ⟨y2, a2, -, -⟩ := h2 _ (List.mem_of_getElem? (i := 2) rfl)
  obtain ⟨y3, a3, -, -⟩ := h2 _ (List.mem_of_getElem? (i := 3) rfl)
  simp only [c3, c22] at a0 a1 a2 a3
  obtain ⟨k0, e0, -, -⟩ := DataW.trod_int Try.underlying3 a0
  obtain ⟨k1, e1, -, -⟩ := DataW.trod_int Try.underlying3 a1
  obtain ⟨k2, e2, -, -⟩ := DataW.trod_int Try.underlying3 a2
  obtain ⟨N, e3, -, w3⟩ := DataW.trod_int Try.underlying22 a3
  obtain ⟨N, rfl, hN⟩ := u32_wf w3
  have e := four_cells h1 (cell_at e0) (cell_at e1) (cell_at e2) (cell_at e3)
  refine ⟨k0, k1, k2, N, ?_, hN⟩
  simp only [Value.cells] at e
  congr 1
  exact Array.toList_inj.1 e
end

end Go.Proofs.Ytjnjbmkkfkdhcaa
