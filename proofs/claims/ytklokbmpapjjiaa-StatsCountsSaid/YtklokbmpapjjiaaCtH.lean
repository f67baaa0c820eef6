/- Operations among the arguments. -/
import Derived.Test.YtklokbmpapjjiaaCtF
import Derived.Test.YtklokbmpapjjiaaStV
import Derived.Test.YtklokbmpapjjiaaQtD
import Derived.Test.YtklokbmpapjjiaaLaw3
open Go.ChangeShapes Go.WideShapes Go.ChangeAt Go.RowKit Go.Own
namespace Go.Proofs.Ytklokbmpapjjiaa

theorem c75 : Try.prog.cellsOf 75 = 5 := by kernel_rfl
theorem b75 : Try.prog.bytesOf 75 = 64 := by kernel_rfl
theorem c73 : Try.prog.cellsOf 73 = 1 := by kernel_rfl
theorem b5 : Try.prog.bytesOf 5 = 1 := by kernel_rfl
theorem c3' : Try.prog.cellsOf 3 = 1 := by kernel_rfl

/-- One operation's cells. -/
def OpRow (C : Asn) (vs : List Value) : Prop := ∃ (k : Int) (bit lev : Nat) (x y : List UInt8) (ax ay : Option Addr) (n cx m cy : Nat), vs = [.int .i64 k, .int .u8 bit, .int .u8 lev, .slice ax n cx, .slice ay m cy] ∧ bit < 256 ∧ lev < 256 ∧
  Reads C 1 (.slice ax n cx) n (ub x) ∧ Reads C 1 (.slice ay m cy) m (ub y) ∧ n ≤ 140737488351232 ∧ m ≤ 140737488351232

theorem cell_of {vs : List Value} {o : Nat} {v : Value} (h : (vs.drop o).take 1 = [v]) : vs[o]? = some v := by
  have : ((vs.drop o).take 1)[0]? = some v := by rw [h]; rfl
  rw [List.getElem?_take, if_pos (by omega), List.getElem?_drop, Nat.add_zero] at this
  exact this

theorem five_cells {vs : List Value} {v0 v1 v2 v3 v4 : Value} (h : vs.length = 5) (g0 : vs[0]? = some v0) (g1 : vs[1]? = some v1) (g2 : vs[2]? = some v2) (g3 : vs[3]? = some v3) (g4 : vs[4]? = some v4) : vs = [v0, v1, v2, v3, v4] := by
  match vs, h, g0, g1, g2, g3, g4 with
  | [_, _, _, _, _], _, g0, g1, g2, g3, g4 => simp at g0 g1 g2 g3 g4; simp [g0, g1, g2, g3, g4]

set_option maxRecDepth 20000 in
theorem opRow {H : Type} {enc0 : TypeId × Value → H} {W : World} {fuel : Nat} {vs : List Value} {x : DataW H × List MemPlace} (h : DataW.trod enc0 Try.prog W 0 (fun _ => true) true fuel 75 vs = some x) (hlt : ∀ p ∈ x.2, p.block < W.heap.size) (hw : ∀ q ∈ x.1.weights Try.prog 75, q ≤ reachBytes) : OpRow (oldA W) vs := by
  obtain ⟨h1, f2, h2⟩ := trod_fields2 Try.underlying75 h
  rw [c75] at h1
  obtain ⟨y0, a0, -, -⟩ := h2 ⟨"Kind", 3, 0, false, "", "", 0⟩ (by simp)
  obtain ⟨y1, a1, -, -⟩ := h2 ⟨"Bit", 5, 1, false, "", "", 8⟩ (by simp)
  obtain ⟨y2, a2, -, -⟩ := h2 ⟨"Level", 5, 2, false, "", "", 9⟩ (by simp)
  obtain ⟨y3, a3, p3, w3⟩ := h2 ⟨"Bits", 73, 3, false, "", "", 16⟩ (by simp)
  obtain ⟨y4, a4, p4, w4⟩ := h2 ⟨"Levels", 73, 4, false, "", "", 40⟩ (by simp)
  simp only [c73, c3', c5] at a0 a1 a2 a3 a4
  obtain ⟨k, e0, -, -⟩ := DataW.trod_int Try.underlying3 a0
  obtain ⟨b, e1, -, wb⟩ := DataW.trod_int Try.underlying5 a1
  obtain ⟨l, e2, -, wl⟩ := DataW.trod_int Try.underlying5 a2
  obtain ⟨ax, n, cx, xs, S3, e3, r3, s3, n3⟩ := trod_bytes Try.underlying73 Try.underlying5 c5 b5 a3 (fun p hp => hlt p (p3 p hp)) (fun q hq => hw q (w3 q hq))
  obtain ⟨ay, m, cy, ys, S4, e4, r4, s4, n4⟩ := trod_bytes Try.underlying73 Try.underlying5 c5 b5 a4 (fun p hp => hlt p (p4 p hp)) (fun q hq => hw q (w4 q hq))
  have hb := u8_of_wf wb
  have hl := u8_of_wf wl
  refine ⟨k, (UInt8.ofNat b.toNat).toNat, (UInt8.ofNat l.toNat).toNat, xs, ys, ax, ay, n, cx, m, cy, ?_, UInt8.toNat_lt _, UInt8.toNat_lt _, Reads.old r3 s3, Reads.old r4 s4, n3, n4⟩
  rw [← hb, ← hl]
  have g0 := cell_of e0
  have g1 := cell_of e1
  have g2 := cell_of e2
  have g3 := cell_of e3
  have g4 := cell_of e4
  exact five_cells h1 g0 g1 g2 g3 g4

/-- Operations, one behind the other. -/
def OpsOf (C : Asn) (ao : Option Addr) (n cap : Nat) : Prop := ∃ cells, Reads C 5 (.slice ao n cap) n cells ∧ n ≤ 140737488351232 ∧ ∀ i, i < n → OpRow C ((cells.drop (i * 5)).take 5)

set_option maxRecDepth 20000 in
theorem open_ops {H : Type} {enc0 : TypeId × Value → H} {W : World} {r : Reach} {b1 : Nat} {v : Value} {d : DataW H} {ps : List MemPlace} (hval : Value.okWide Try.prog W r b1 68 v) (hd : DataW.Trod enc0 Try.prog W 0 (fun _ => true) true 68 v d ps)
    (hlt : ∀ p ∈ ps, p.block < W.heap.size) (hw : ∀ q ∈ d.weights Try.prog 68, q ≤ reachBytes) :
    ∃ ao n cap, v = .slice ao n cap ∧ OpsOf (oldA W) ao n cap := by
  obtain ⟨fuel, hf⟩ := hd
  obtain ⟨ao0, n0, cap0, rfl⟩ := okWide_slice Try.underlying68 hval
  obtain ⟨ao, n, cap, cells, S, hcs, hrd, hS, hn, hel⟩ := open_rows Try.underlying68 c75 b75 (by omega) hf hlt hw
  simp only [Value.cells] at hcs
  simp at hcs
  obtain ⟨rfl, rfl, rfl⟩ := hcs
  refine ⟨ao0, n0, cap0, rfl, cells, Reads.old hrd hS, by omega, fun i hi => ?_⟩
  obtain ⟨f', y, hy, hp, hq⟩ := hel i hi
  exact opRow hy hp hq

set_option maxRecDepth 20000 in
/-- An operation loaded from its row. -/
theorem op_at {C : Asn} {ao : Option Addr} {n cap : Nat} (h : OpsOf C ao n cap) {i : Nat} (hi : i < n) {w0 : World} {L0 : List Asn} (h0 : Hold w0 (C :: L0)) : ∃ (rb ro : Nat) (k : Int) (bit lev : Nat) (x y : List UInt8) (ax ay : Option Addr) (n1 cx m cy : Nat), ao = some ⟨rb, ro, none⟩ ∧
    bit < 256 ∧ lev < 256 ∧ Reads C 1 (.slice ax n1 cx) n1 (ub x) ∧ Reads C 1 (.slice ay m cy) m (ub y) ∧ n1 ≤ 140737488351232 ∧ m ≤ 140737488351232 ∧
    ∀ w L, Hold w (C :: L) → w.rangeAt rb (ro + i * 5) [.int .i64 k, .int .u8 bit, .int .u8 lev, .slice ax n1 cx, .slice ay m cy] := by
  obtain ⟨cells, hR, -, hel⟩ := h
  obtain ⟨k, bit, lev, x, y, ax, ay, n1, cx, m, cy, hv, h1, h2, h3, h4, h5, h6⟩ := hel i hi
  obtain ⟨S, hrd⟩ := h0.reads hR
  obtain ⟨rb, ro, rfl, -, -, -⟩ := hrd.addr (by omega)
  refine ⟨rb, ro, k, bit, lev, x, y, ax, ay, n1, cx, m, cy, rfl, h1, h2, h3, h4, h5, h6, fun w L hW => ?_⟩
  obtain ⟨S2, hrd2⟩ := hW.reads hR
  obtain ⟨rb2, ro2, he, -, -, hcs⟩ := hrd2.addr (by omega)
  simp only [Option.some.injEq, Addr.mk.injEq, and_true] at he
  obtain ⟨rfl, rfl⟩ := he
  intro j v hj
  rw [← hv] at hj
  by_cases hj5 : j < 5
  · rw [List.getElem?_take, if_pos hj5, List.getElem?_drop] at hj
    rw [Nat.add_assoc, hcs _ (by omega)]
    exact hj
  · rw [List.getElem?_eq_none (by simp; omega)] at hj
    cases hj

theorem i75 : (Try.prog.info? 75).map (·.size) = some 5 := by kernel_rfl
theorem exec_load75 {ev : Operand → Value} {o : Oper} {x : Operand} (ho : o.op = .load 75 x) {b q : Nat} (hx : ev x = .pointer (some ⟨b, q, none⟩)) {v0 v1 v2 v3 v4 : Value} {W : World} (h : W.rangeAt b q [v0, v1, v2, v3, v4]) : (execOp ev o).run Try.prog W = .ok (.value (.agg #[v0, v1, v2, v3, v4])) W := by
  have := run_loadAt_mid (P := Try.prog) W b q 75 [v0, v1, v2, v3, v4] _ h Try.underlying75 rfl (by rw [i75]; rfl)
  unfold execOp
  simp only [ho, hx, Sem.run_bind, this, Result.andThen_ok, Sem.run_pure]

end Go.Proofs.Ytklokbmpapjjiaa
