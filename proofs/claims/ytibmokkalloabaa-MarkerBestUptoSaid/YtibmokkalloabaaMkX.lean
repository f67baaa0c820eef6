/- What is looked at among the arguments, its bulk besides. -/
import Derived.Test.YtibmokkalloabaaMkQ
import Derived.Test.YtibmokkalloabaaLawU
open Go.ChangeShapes Go.WideShapes Go.ChangeAt Go.RowKit Go.Own
namespace Go.Proofs.Ytibmokkalloabaa

theorem trod_lookU {H : Type} {enc0 : TypeId × Value → H} {W : World} {fuel : Nat} {cs : List Value} {x : DataW H × List MemPlace} (h : DataW.trod enc0 Try.prog W 0 (fun _ => true) true fuel 47 cs = some x) (hlt : ∀ p ∈ x.2, p.block < W.heap.size) (hw : ∀ q ∈ x.1.weights Try.prog 47, q ≤ reachBytes) :
    ∃ B n N ao m cap ys fr tu th, LookOf (oldA W) cs B n N ao m cap ys fr tu th ∧ m ≤ Rows.uptoBulk x.1 := by
  obtain ⟨hl, f', h2⟩ := trod_fields3 Try.underlying47 h
  rw [c47] at hl
  obtain ⟨y0, a0, -, -, -⟩ := h2 ⟨"M", 24, 0, false, "", "", 0⟩ (by simp)
  obtain ⟨y1, a1, -, -, -⟩ := h2 ⟨"Levels", 3, 2, false, "", "", 16⟩ (by simp)
  obtain ⟨y2, a2, p2, w2, u2⟩ := h2 ⟨"W", 38, 3, false, "", "", 24⟩ (by simp)
  obtain ⟨y3, a3, -, -, -⟩ := h2 ⟨"From", 3, 4, false, "", "", 48⟩ (by simp)
  obtain ⟨y4, a4, -, -, -⟩ := h2 ⟨"To", 3, 5, false, "", "", 56⟩ (by simp)
  obtain ⟨y5, a5, -, -, -⟩ := h2 ⟨"Threshold", 3, 6, false, "", "", 64⟩ (by simp)
  simp only [c24, c3, c38] at a0 a1 a2 a3 a4 a5
  obtain ⟨B, n, e0, hB, hn⟩ := trod_marker a0
  obtain ⟨N, e1, -, w1⟩ := DataW.trod_int Try.underlying3 a1
  obtain ⟨ao, m, cap, ys, S, e2, r2, s2, n2⟩ := trod_bytes Try.underlying38 Try.underlying5 c5 b5 a2 (fun p hp => hlt p (p2 p hp)) (fun q hq => hw q (w2 q hq))
  obtain ⟨fr, e3, -, w3⟩ := DataW.trod_int Try.underlying3 a3
  obtain ⟨tu, e4, -, w4⟩ := DataW.trod_int Try.underlying3 a4
  obtain ⟨th, e5, -, w5⟩ := DataW.trod_int Try.underlying3 a5
  refine ⟨B, n, N, ao, m, cap, ys, fr, tu, th, ⟨cells_of7 hl e0 (cell_of e1) (cell_of e2) (cell_of e3) (cell_of e4) (cell_of e5), hB, hn, int_wf w1, Reads.old r2 s2, n2, int_wf w3, int_wf w4, int_wf w5⟩, ?_⟩
  rw [e2] at a2
  exact Nat.le_trans (slice_bulk Try.underlying38 a2) u2

theorem open_lookU {H : Type} {enc0 : TypeId × Value → H} {W : World} {r : Reach} {b1 : Nat} {v : Value} {d : DataW H} {ps : List MemPlace} (hval : Value.okWide Try.prog W r b1 47 v) (hd : DataW.Trod enc0 Try.prog W 0 (fun _ => true) true 47 v d ps)
    (hlt : ∀ p ∈ ps, p.block < W.heap.size) (hw : ∀ q ∈ d.weights Try.prog 47, q ≤ reachBytes) :
    ∃ cs B n N ao m cap ys fr tu th, v = .agg cs.toArray ∧ LookOf (oldA W) cs B n N ao m cap ys fr tu th ∧ m ≤ Rows.uptoBulk d := by
  obtain ⟨fuel, hf⟩ := hd
  obtain ⟨B, n, N, ao, m, cap, ys, fr, tu, th, e, hu⟩ := trod_lookU hf hlt hw
  refine ⟨v.cells.toList, B, n, N, ao, m, cap, ys, fr, tu, th, ?_, e, hu⟩
  simp only [Value.okWide, Try.underlying47, Try.underlying46] at hval
  obtain ⟨cs, rfl, _, _⟩ := hval
  simp [Value.cells]

end Go.Proofs.Ytibmokkalloabaa
