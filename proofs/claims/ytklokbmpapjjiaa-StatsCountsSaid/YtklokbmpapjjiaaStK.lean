/- Statistics among the arguments. -/
import Derived.Test.YtklokbmpapjjiaaStI
import Derived.Test.YtklokbmpapjjiaaLaw2
open Go.ChangeShapes Go.WideShapes Go.ChangeAt Go.RowKit Go.Own
namespace Go.Proofs.Ytklokbmpapjjiaa

section
variable {H : Type} {enc0 : TypeId × Value → H} {W : World} {b0 : Nat} {spare : Nat → Bool} {held : Bool} {fuel : Nat} {cs : List Value} {x : DataW H × List MemPlace}

theorem trod_row (h : DataW.trod enc0 Try.prog W b0 spare held fuel 23 cs = some x) : ∃ c : Nat → Nat, cs = u32s 16 c ∧ ∀ i, i < 16 → c i < 4294967296 := by
  obtain ⟨hl, f', h1⟩ := Go.Own.trod_array Try.underlying23 h
  rw [c23] at hl
  have h2 : ∀ i, i < 16 → ∃ n : Nat, cs[i]? = some (.int .u32 (n : Int)) ∧ n < 4294967296 := fun i hi => by
    obtain ⟨y, hy⟩ := h1 i hi
    obtain ⟨n, e, _, hw⟩ := DataW.trod_int Try.underlying22 hy
    rw [c22, Nat.mul_one] at e
    have e1 : cs[i]? = some (.int .u32 n) := by
      have : ((cs.drop i).take 1)[0]? = some (.int .u32 n) := by rw [e]; rfl
      rw [List.getElem?_take, List.getElem?_drop] at this
      simpa using this
    simp only [Lit.wf, IntKind.has, IntKind.min, IntKind.max, IntKind.bits, IntKind.signed, Bool.and_eq_true, decide_eq_true_eq] at hw
    simp at hw
    refine ⟨n.toNat, ?_, by omega⟩
    rw [e1, Int.toNat_of_nonneg (by omega)]
  have h3 : ∃ c : Nat → Nat, ∀ i, i < 16 → cs[i]? = some (.int .u32 (c i : Int)) ∧ c i < 4294967296 := by
    refine ⟨fun i => if hi : i < 16 then (h2 i hi).choose else 0, fun i hi => ?_⟩
    simp only [hi, dite_true]
    exact (h2 i hi).choose_spec
  obtain ⟨c, hc⟩ := h3
  refine ⟨c, ?_, fun i hi => (hc i hi).2⟩
  apply List.ext_getElem?
  intro i
  by_cases hi : i < 16
  · rw [(hc i hi).1, u32s_get hi]
  · rw [List.getElem?_eq_none (by omega), List.getElem?_eq_none (by rw [u32s_length]; omega)]

theorem trod_rows (h : DataW.trod enc0 Try.prog W b0 spare held fuel 24 cs = some x) : ∃ c : Nat → Nat, cs = u32s 32 c ∧ ∀ i, i < 32 → c i < 4294967296 := by
  obtain ⟨hl, f', h1⟩ := Go.Own.trod_array Try.underlying24 h
  rw [c24] at hl
  obtain ⟨y0, hy0⟩ := h1 0 (by omega)
  obtain ⟨y1, hy1⟩ := h1 1 (by omega)
  simp only [c23, Nat.zero_mul, List.drop_zero, Nat.one_mul] at hy0 hy1
  obtain ⟨c, e0, hc⟩ := trod_row hy0
  obtain ⟨d, e1, hd⟩ := trod_row hy1

  refine ⟨fun i => if i < 16 then c i else d (i - 16), ?_, fun i hi => ?_⟩
  · apply List.ext_getElem?
    intro i
    by_cases hi : i < 32
    · rw [u32s_get hi]
      by_cases h16 : i < 16
      · rw [if_pos h16, ← u32s_get (c := c) h16, ← e0, List.getElem?_take, if_pos h16]
      · rw [if_neg h16, ← u32s_get (n := 16) (c := d) (i := i - 16) (by omega), ← e1, List.getElem?_take, if_pos (by omega), List.getElem?_drop]
        congr 1; omega
    · rw [List.getElem?_eq_none (by omega), List.getElem?_eq_none (by rw [u32s_length]; omega)]
  · by_cases h16 : i < 16
    · simp only [h16, if_true]; exact hc i h16
    · simp only [h16, if_false]; exact hd _ (by omega)

theorem trod_stats (h : DataW.trod enc0 Try.prog W b0 spare held fuel 26 cs = some x) : ∃ s : SV, cs = enc s ∧ s.ok := by
  obtain ⟨hl, f', h1⟩ := Go.Own.trod_fields (by rw [Try.underlying26]) h
  rw [c26] at hl
  obtain ⟨y0, hy0⟩ := h1 _ (List.mem_cons_self)
  obtain ⟨y1, hy1⟩ := h1 _ (List.mem_cons_of_mem _ (List.mem_cons_self))
  simp only at hy0 hy1
  rw [show Try.prog.cellsOf 3 = 1 from by kernel_rfl] at hy0
  rw [c24] at hy1
  obtain ⟨n, e0, _, hw⟩ := DataW.trod_int Try.underlying3 hy0
  obtain ⟨c, e1, hc⟩ := trod_rows hy1
  simp only [List.drop_zero] at e0
  refine ⟨⟨n, c⟩, ?_, ?_⟩
  · unfold enc
    simp only
    rw [← e1, List.take_of_length_le (by simp; omega)]
    cases cs with
    | nil => simp at hl
    | cons a l =>
      simp only [List.take_succ_cons, List.take_zero, List.cons.injEq, and_true] at e0
      rw [e0]; rfl
  · simp only [Lit.wf, IntKind.has, IntKind.min, IntKind.max, IntKind.bits, IntKind.signed, Bool.and_eq_true, decide_eq_true_eq] at hw
    simp at hw
    exact ⟨by show -9223372036854775808 ≤ n; omega, by show n ≤ 9223372036854775807; omega, hc⟩

theorem open_stats {r : Reach} {b1 : Nat} {v : Value} {d : DataW H} {ps : List MemPlace} (hval : Value.okWide Try.prog W r b1 26 v) (hd : DataW.Trod enc0 Try.prog W b0 spare held 26 v d ps) : ∃ s : SV, v = .agg (enc s).toArray ∧ s.ok := by
  obtain ⟨fuel, hf⟩ := hd
  obtain ⟨s, e, hs⟩ := trod_stats hf
  refine ⟨s, ?_, hs⟩
  simp only [Value.okWide, Try.underlying26, Try.underlying25] at hval
  obtain ⟨cs, rfl, _, _⟩ := hval
  simp only [Value.cells] at e
  rw [← e]
end

end Go.Proofs.Ytklokbmpapjjiaa
