/- Arguments opened: rows of numbers, structs of numbers, rows of such structs. -/
import Derived.Test.YtlfchokafpodcaaLaw3
import Derived.Test.YtlfchokafpodcaaHold
open Go.ChangeShapes Go.WideShapes Go.ChangeAt Go.RowKit Go.Deep
namespace Go.Own

def i64s (xs : List Int) : List Value := xs.map fun x => .int .i64 x
@[simp] theorem i64s_length (xs : List Int) : (i64s xs).length = xs.length := by simp [i64s]
def In64 (n : Int) : Prop := -9223372036854775808 ≤ n ∧ n ≤ 9223372036854775807
theorem in64_wf {n : Int} (h : (Lit.int .i64 n).wf = true) : In64 n := by
  simp only [Lit.wf, IntKind.has, IntKind.min, IntKind.max, IntKind.bits, IntKind.signed, Bool.and_eq_true, decide_eq_true_eq] at h
  simpa [In64] using h

theorem cell_at {vs : List Value} {o : Nat} {v : Value} (h : (vs.drop o).take 1 = [v]) : vs[o]? = some v := by
  have : ((vs.drop o).take 1)[0]? = some v := by rw [h]; rfl
  rw [List.getElem?_take, if_pos (by omega), List.getElem?_drop, Nat.add_zero] at this
  exact this

/-- Cells that are numbers, one by one. -/
theorem all_ints {vs : List Value} (h : ∀ i, i < vs.length → ∃ z, vs[i]? = some (.int .i64 z) ∧ In64 z) : ∃ zs : List Int, vs = i64s zs ∧ zs.length = vs.length ∧ ∀ z ∈ zs, In64 z := by
  induction vs with
  | nil => exact ⟨[], rfl, rfl, by simp⟩
  | cons v vs ih =>
    obtain ⟨z, h0, hz⟩ := h 0 (by simp)
    obtain ⟨zs, h1, h2, h3⟩ := ih fun i hi => by simpa using h (i + 1) (by simpa using hi)
    simp at h0
    refine ⟨z :: zs, by rw [h0, h1]; rfl, by simp [h2], fun y hy => ?_⟩
    rcases List.mem_cons.1 hy with rfl | hy
    · exact hz
    · exact h3 y hy

section
variable {H : Type} {enc : TypeId × Value → H} {P : Program} {W : World}

/-- A struct of numbers. -/
theorem trod_ints {b0 : Nat} {spare : Nat → Bool} {held : Bool} {fuel : Nat} {t T : TypeId} {fs : Array Field} {cs : List Value} {x : DataW H × List MemPlace} {k : Nat} (ht : P.underlying t = some (.struct fs)) (hT : P.underlying T = some (.int .i64)) (hc : P.cellsOf T = 1) (hk : P.cellsOf t = k)
    (hf : ∀ i, i < k → ∃ f ∈ fs.toList, f.type = T ∧ f.offset = i) (h : DataW.trod enc P W b0 spare held fuel t cs = some x) : ∃ zs : List Int, cs = i64s zs ∧ zs.length = k ∧ ∀ z ∈ zs, In64 z := by
  obtain ⟨hl, f', h2⟩ := trod_fields2 ht h
  rw [hk] at hl
  obtain ⟨zs, h3, h4, h5⟩ := all_ints (vs := cs) fun i hi => by
    obtain ⟨f, hfm, rfl, rfl⟩ := hf i (by omega)
    obtain ⟨y, a, -, -⟩ := h2 f hfm
    rw [hc] at a
    obtain ⟨n, e, -, w⟩ := DataW.trod_int hT a
    exact ⟨n, cell_at e, in64_wf w⟩
  exact ⟨zs, h3, by omega, h5⟩

theorem open_ints {b0 : Nat} {spare : Nat → Bool} {held : Bool} {t T : TypeId} {fs : Array Field} {v : Value} {d : DataW H} {ps : List MemPlace} {k : Nat} (ht : P.underlying t = some (.struct fs)) (hT : P.underlying T = some (.int .i64)) (hc : P.cellsOf T = 1) (hk : P.cellsOf t = k)
    (hf : ∀ i, i < k → ∃ f ∈ fs.toList, f.type = T ∧ f.offset = i) (hval : ∃ cs, v = .agg cs) (hd : DataW.Trod enc P W b0 spare held t v d ps) : ∃ zs : List Int, v = .agg (i64s zs).toArray ∧ zs.length = k ∧ ∀ z ∈ zs, In64 z := by
  obtain ⟨fuel, hf2⟩ := hd
  obtain ⟨zs, e, h1, h2⟩ := trod_ints ht hT hc hk hf hf2
  obtain ⟨cs, rfl⟩ := hval
  refine ⟨zs, ?_, h1, h2⟩
  simp only [Value.cells] at e
  rw [← e]

/-- Every element of a row told by what one element is. -/
theorem open_irows {t e : TypeId} {sz by_ : Nat} {r : Reach} {b1 : Nat} {v : Value} {d : DataW H} {ps : List MemPlace} (ht : P.underlying t = some (.slice e)) (hc : P.cellsOf e = sz) (hb : P.bytesOf e = by_) (hsz : 0 < sz)
    (hel : ∀ (fuel : Nat) (cs : List Value) (x : DataW H × List MemPlace), DataW.trod enc P W 0 (fun _ => true) true fuel e cs = some x → ∃ zs : List Int, cs = i64s zs ∧ zs.length = sz ∧ ∀ z ∈ zs, In64 z)
    (hval : Value.okWide P W r b1 t v) (hd : DataW.Trod enc P W 0 (fun _ => true) true t v d ps) (hlt : ∀ p ∈ ps, p.block < W.heap.size) (hw : ∀ q ∈ d.weights P t, q ≤ reachBytes) :
    ∃ ao n cap zs, v = .slice ao n cap ∧ Reads (oldA W) sz (.slice ao n cap) n (i64s zs) ∧ zs.length = n * sz ∧ (∀ z ∈ zs, In64 z) ∧ n * by_ ≤ 140737488351232 := by
  obtain ⟨fuel, hf⟩ := hd
  obtain ⟨ao0, n0, cap0, rfl⟩ := okWide_slice ht hval
  obtain ⟨ao, n, cap, cells, S, hcs, hrd, hS, hn, hel2⟩ := open_rows ht hc hb hsz hf hlt hw
  simp only [Value.cells] at hcs
  simp at hcs
  obtain ⟨rfl, rfl, rfl⟩ := hcs
  have hlen := hrd.bounds.1
  obtain ⟨zs, h1, h2, h3⟩ := all_ints (vs := cells) fun i hi => by
    rw [hlen] at hi
    have hq : i / sz < n0 := (Nat.div_lt_iff_lt_mul hsz).2 hi
    obtain ⟨f', y, hy, -, -⟩ := hel2 (i / sz) hq
    obtain ⟨zs, e1, e2, e3⟩ := hel f' _ y hy
    have hr := Nat.mod_lt i hsz
    have hd := Nat.div_add_mod i sz
    have e4 : cells[i]? = (i64s zs)[i % sz]? := by
      rw [← e1, List.getElem?_take, if_pos hr, List.getElem?_drop]
      rw [show i / sz * sz + i % sz = i by rw [Nat.mul_comm]; exact hd]
    have hz : i % sz < zs.length := by omega
    refine ⟨zs[i % sz], ?_, e3 _ (List.getElem_mem hz)⟩
    rw [e4]; simp [i64s, hz]
  exact ⟨ao0, n0, cap0, zs, rfl, Reads.old (by rw [← h1]; exact hrd) hS, by omega, h3, hn⟩

/-- A row of numbers. -/
theorem open_irow {t e : TypeId} {by_ : Nat} {r : Reach} {b1 : Nat} {v : Value} {d : DataW H} {ps : List MemPlace} (ht : P.underlying t = some (.slice e)) (hc : P.cellsOf e = 1) (hb : P.bytesOf e = by_) (hT : P.underlying e = some (.int .i64))
    (hval : Value.okWide P W r b1 t v) (hd : DataW.Trod enc P W 0 (fun _ => true) true t v d ps) (hlt : ∀ p ∈ ps, p.block < W.heap.size) (hw : ∀ q ∈ d.weights P t, q ≤ reachBytes) :
    ∃ ao n cap zs, v = .slice ao n cap ∧ Reads (oldA W) 1 (.slice ao n cap) n (i64s zs) ∧ zs.length = n ∧ (∀ z ∈ zs, In64 z) ∧ n * by_ ≤ 140737488351232 := by
  obtain ⟨ao, n, cap, zs, e, h1, h2, h3, h4⟩ := open_irows ht hc hb (by omega) (fun fuel cs x hx => by
    obtain ⟨m, e, -, w⟩ := DataW.trod_int hT hx
    exact ⟨[m], e, rfl, by simpa using in64_wf w⟩) hval hd hlt hw
  exact ⟨ao, n, cap, zs, e, h1, by omega, h3, h4⟩
end

end Go.Own
