/- Markers, and what is looked at, among the arguments. -/
import Derived.Test.YtibmokkalloabaaMkK
import Derived.Test.YtibmokkalloabaaLaw3
open Go.ChangeShapes Go.WideShapes Go.ChangeAt Go.RowKit Go.Own
namespace Go.Proofs.Ytibmokkalloabaa

theorem c22 : Try.prog.cellsOf 22 = 1 := by kernel_rfl
theorem c3 : Try.prog.cellsOf 3 = 1 := by kernel_rfl
theorem c5 : Try.prog.cellsOf 5 = 1 := by kernel_rfl
theorem b5 : Try.prog.bytesOf 5 = 1 := by kernel_rfl
theorem c38 : Try.prog.cellsOf 38 = 1 := by kernel_rfl
theorem c24 : Try.prog.cellsOf 24 = 2 := by kernel_rfl
theorem c47 : Try.prog.cellsOf 47 = 7 := by kernel_rfl

theorem cell_of {vs : List Value} {o : Nat} {v : Value} (h : (vs.drop o).take 1 = [v]) : vs[o]? = some v := by
  have : ((vs.drop o).take 1)[0]? = some v := by rw [h]; rfl
  rw [List.getElem?_take, if_pos (by omega), List.getElem?_drop, Nat.add_zero] at this
  exact this
theorem cells_of2 {vs : List Value} {v0 v1 : Value} (h : vs.length = 2) (g0 : vs[0]? = some v0) (g1 : vs[1]? = some v1) : vs = [v0, v1] := by
  match vs, h, g0, g1 with
  | [_, _], _, g0, g1 => simp at g0 g1; simp [g0, g1]
theorem cells_of7 {vs : List Value} {v0 v1 v2 v3 v4 v5 v6 : Value} (h : vs.length = 7) (g0 : (vs.drop 0).take 2 = [v0, v1]) (g2 : vs[2]? = some v2) (g3 : vs[3]? = some v3) (g4 : vs[4]? = some v4) (g5 : vs[5]? = some v5) (g6 : vs[6]? = some v6) : vs = [v0, v1, v2, v3, v4, v5, v6] := by
  match vs, h, g0, g2, g3, g4, g5, g6 with
  | [_, _, _, _, _, _, _], _, g0, g2, g3, g4, g5, g6 => simp at g0 g2 g3 g4 g5 g6; simp [g0, g2, g3, g4, g5, g6]

theorem int_wf {n : Int} (h : (Lit.int .i64 n).wf = true) : -9223372036854775808 ≤ n ∧ n ≤ 9223372036854775807 := by
  simp only [Lit.wf, IntKind.has, IntKind.min, IntKind.max, IntKind.bits, IntKind.signed, Bool.and_eq_true, decide_eq_true_eq] at h
  simpa using h
theorem u64_wf {n : Int} (h : (Lit.int .u64 n).wf = true) : ∃ B : Nat, n = B ∧ B < 18446744073709551616 := by
  simp only [Lit.wf, IntKind.has, IntKind.min, IntKind.max, IntKind.bits, IntKind.signed, Bool.and_eq_true, decide_eq_true_eq] at h
  simp at h
  exact ⟨n.toNat, by omega, by omega⟩

/-- A number of 64 bits that Go's int holds. -/
def I64 (n : Int) : Prop := -9223372036854775808 ≤ n ∧ n ≤ 9223372036854775807

section
variable {H : Type} {enc0 : TypeId × Value → H} {W : World} {b0 : Nat} {spare : Nat → Bool} {held : Bool} {fuel : Nat} {cs : List Value} {x : DataW H × List MemPlace}

theorem trod_marker (h : DataW.trod enc0 Try.prog W b0 spare held fuel 24 cs = some x) : ∃ (B : Nat) (n : Int), cs = [.int .u64 B, .int .i64 n] ∧ B < 18446744073709551616 ∧ I64 n := by
  obtain ⟨hl, f', h2⟩ := trod_fields2 Try.underlying24 h
  rw [c24] at hl
  obtain ⟨y0, a0, -, -⟩ := h2 ⟨"Bits", 22, 0, false, "", "", 0⟩ (by simp)
  obtain ⟨y1, a1, -, -⟩ := h2 ⟨"Length", 3, 1, false, "", "", 8⟩ (by simp)
  simp only [c22, c3] at a0 a1
  obtain ⟨B, e0, -, w0⟩ := DataW.trod_int Try.underlying22 a0
  obtain ⟨n, e1, -, w1⟩ := DataW.trod_int Try.underlying3 a1
  obtain ⟨B, rfl, hB⟩ := u64_wf w0
  exact ⟨B, n, cells_of2 hl (cell_of e0) (cell_of e1), hB, int_wf w1⟩

theorem open_marker {r : Reach} {b1 : Nat} {v : Value} {d : DataW H} {ps : List MemPlace} (hval : Value.okWide Try.prog W r b1 24 v) (hd : DataW.Trod enc0 Try.prog W b0 spare held 24 v d ps) :
    ∃ (B : Nat) (n : Int), v = .agg #[.int .u64 B, .int .i64 n] ∧ B < 18446744073709551616 ∧ I64 n := by
  obtain ⟨fuel, hf⟩ := hd
  obtain ⟨B, n, e, h1, h2⟩ := trod_marker hf
  refine ⟨B, n, ?_, h1, h2⟩
  simp only [Value.okWide, Try.underlying24, Try.underlying23] at hval
  obtain ⟨cs, rfl, _, _⟩ := hval
  simp only [Value.cells] at e
  rw [← e]

/-- What is looked at. -/
def LookOf (C : Asn) (cs : List Value) (B : Nat) (n N : Int) (ao : Option Addr) (m cap : Nat) (ys : List UInt8) (fr tu th : Int) : Prop :=
  cs = [.int .u64 B, .int .i64 n, .int .i64 N, .slice ao m cap, .int .i64 fr, .int .i64 tu, .int .i64 th] ∧ B < 18446744073709551616 ∧ I64 n ∧ I64 N ∧ Reads C 1 (.slice ao m cap) m (ub ys) ∧ m ≤ 140737488351232 ∧ I64 fr ∧ I64 tu ∧ I64 th
end

theorem trod_look {H : Type} {enc0 : TypeId × Value → H} {W : World} {fuel : Nat} {cs : List Value} {x : DataW H × List MemPlace} (h : DataW.trod enc0 Try.prog W 0 (fun _ => true) true fuel 47 cs = some x) (hlt : ∀ p ∈ x.2, p.block < W.heap.size) (hw : ∀ q ∈ x.1.weights Try.prog 47, q ≤ reachBytes) :
    ∃ B n N ao m cap ys fr tu th, LookOf (oldA W) cs B n N ao m cap ys fr tu th := by
  obtain ⟨hl, f', h2⟩ := trod_fields2 Try.underlying47 h
  rw [c47] at hl
  obtain ⟨y0, a0, -, -⟩ := h2 ⟨"M", 24, 0, false, "", "", 0⟩ (by simp)
  obtain ⟨y1, a1, -, -⟩ := h2 ⟨"Levels", 3, 2, false, "", "", 16⟩ (by simp)
  obtain ⟨y2, a2, p2, w2⟩ := h2 ⟨"W", 38, 3, false, "", "", 24⟩ (by simp)
  obtain ⟨y3, a3, -, -⟩ := h2 ⟨"From", 3, 4, false, "", "", 48⟩ (by simp)
  obtain ⟨y4, a4, -, -⟩ := h2 ⟨"To", 3, 5, false, "", "", 56⟩ (by simp)
  obtain ⟨y5, a5, -, -⟩ := h2 ⟨"Threshold", 3, 6, false, "", "", 64⟩ (by simp)
  simp only [c24, c3, c38] at a0 a1 a2 a3 a4 a5
  obtain ⟨B, n, e0, hB, hn⟩ := trod_marker a0
  obtain ⟨N, e1, -, w1⟩ := DataW.trod_int Try.underlying3 a1
  obtain ⟨ao, m, cap, ys, S, e2, r2, s2, n2⟩ := trod_bytes Try.underlying38 Try.underlying5 c5 b5 a2 (fun p hp => hlt p (p2 p hp)) (fun q hq => hw q (w2 q hq))
  obtain ⟨fr, e3, -, w3⟩ := DataW.trod_int Try.underlying3 a3
  obtain ⟨tu, e4, -, w4⟩ := DataW.trod_int Try.underlying3 a4
  obtain ⟨th, e5, -, w5⟩ := DataW.trod_int Try.underlying3 a5
  exact ⟨B, n, N, ao, m, cap, ys, fr, tu, th, cells_of7 hl e0 (cell_of e1) (cell_of e2) (cell_of e3) (cell_of e4) (cell_of e5), hB, hn, int_wf w1, Reads.old r2 s2, n2, int_wf w3, int_wf w4, int_wf w5⟩

theorem open_look {H : Type} {enc0 : TypeId × Value → H} {W : World} {r : Reach} {b1 : Nat} {v : Value} {d : DataW H} {ps : List MemPlace} (hval : Value.okWide Try.prog W r b1 47 v) (hd : DataW.Trod enc0 Try.prog W 0 (fun _ => true) true 47 v d ps)
    (hlt : ∀ p ∈ ps, p.block < W.heap.size) (hw : ∀ q ∈ d.weights Try.prog 47, q ≤ reachBytes) :
    ∃ cs B n N ao m cap ys fr tu th, v = .agg cs.toArray ∧ LookOf (oldA W) cs B n N ao m cap ys fr tu th := by
  obtain ⟨fuel, hf⟩ := hd
  obtain ⟨B, n, N, ao, m, cap, ys, fr, tu, th, e⟩ := trod_look hf hlt hw
  refine ⟨v.cells.toList, B, n, N, ao, m, cap, ys, fr, tu, th, ?_, e⟩
  simp only [Value.okWide, Try.underlying47, Try.underlying46] at hval
  obtain ⟨cs, rfl, _, _⟩ := hval
  simp [Value.cells]

end Go.Proofs.Ytibmokkalloabaa
