/- Statistics compared. -/
import Derived.Test.YtklokbmpapjjiaaStF
import Derived.Test.YtklokbmpapjjiaaEq
open Go.RowKit Go.Own
namespace Go.Proofs.Ytklokbmpapjjiaa

def litRow (c : Nat → Nat) (q : Nat) : List Lit := ((List.range 16).map fun r => [Lit.int .u32 (c (q * 16 + r) : Int)]).flatten
def litAll (c : Nat → Nat) : List Lit := ((List.range 2).map (litRow c)).flatten
def lits (s : SV) : List Lit := .int .i64 s.lv :: litAll s.c

theorem litAll_inj {c d : Nat → Nat} : litAll c = litAll d ↔ ∀ i, i < 32 → c i = d i := by
  constructor
  · intro h i hi
    simp only [litAll, litRow, List.range_succ, List.range_zero, List.nil_append, List.map_append, List.map_cons, List.map_nil, List.flatten_append, List.flatten_cons, List.flatten_nil, List.append_nil, List.cons_append, List.cons.injEq, Lit.int.injEq, true_and, Int.natCast_inj, Nat.zero_mul, Nat.one_mul, Nat.zero_add, and_true] at h
    have := h
    simp at this
    have hh : i = 0 ∨ i = 1 ∨ i = 2 ∨ i = 3 ∨ i = 4 ∨ i = 5 ∨ i = 6 ∨ i = 7 ∨ i = 8 ∨ i = 9 ∨ i = 10 ∨ i = 11 ∨ i = 12 ∨ i = 13 ∨ i = 14 ∨ i = 15 ∨ i = 16 ∨ i = 17 ∨ i = 18 ∨ i = 19 ∨ i = 20 ∨ i = 21 ∨ i = 22 ∨ i = 23 ∨ i = 24 ∨ i = 25 ∨ i = 26 ∨ i = 27 ∨ i = 28 ∨ i = 29 ∨ i = 30 ∨ i = 31 := by omega
    rcases hh with rfl | rfl | rfl | rfl | rfl | rfl | rfl | rfl | rfl | rfl | rfl | rfl | rfl | rfl | rfl | rfl | rfl | rfl | rfl | rfl | rfl | rfl | rfl | rfl | rfl | rfl | rfl | rfl | rfl | rfl | rfl | rfl <;> simp_all
  · intro h
    unfold litAll
    congr 1
    refine List.map_congr_left fun q hq => ?_
    unfold litRow
    congr 1
    refine List.map_congr_left fun r hr => ?_
    simp at hq hr
    rw [h (q * 16 + r) (by omega)]

def same (s t : SV) : Prop := s.lv = t.lv ∧ ∀ i, i < 32 → s.c i = t.c i

theorem lits_inj {s t : SV} : lits s = lits t ↔ same s t := by
  unfold lits same
  rw [List.cons.injEq, litAll_inj]
  simp

theorem wf32 {x : Nat} (h : x < 4294967296) : (Lit.int .u32 (x : Int)).wf = true := by
  simp [Lit.wf, IntKind.has, IntKind.min, IntKind.max, IntKind.bits, IntKind.signed]; omega
theorem wf64 {x : Int} (h : -9223372036854775808 ≤ x ∧ x ≤ 9223372036854775807) : (Lit.int .i64 x).wf = true := by
  simp [Lit.wf, IntKind.has, IntKind.min, IntKind.max, IntKind.bits, IntKind.signed]; omega

theorem c22 : Try.prog.cellsOf 22 = 1 := by kernel_rfl
theorem c23 : Try.prog.cellsOf 23 = 16 := by kernel_rfl
theorem c24 : Try.prog.cellsOf 24 = 32 := by kernel_rfl
theorem c26 : Try.prog.cellsOf 26 = 33 := by kernel_rfl

theorem kl_row {c : Nat → Nat} (hc : ∀ i, i < 16 → c i < 4294967296) : Try.prog.keyLits 2 23 (u32s 16 c) = some ((List.range 16).map fun r => [Lit.int .u32 (c r : Int)]).flatten := by
  refine Go.Own.keyLits_array Try.underlying23 (by rw [u32s_length, c23]) _ (fun i hi => ?_)
  have e : ((u32s 16 c).drop (i * Try.prog.cellsOf 22)).take (Try.prog.cellsOf 22) = [.int .u32 (c i : Int)] := by
    rw [c22, Nat.mul_one]
    apply List.ext_getElem?
    intro j
    rw [List.getElem?_take, List.getElem?_drop]
    cases j with
    | zero => rw [if_pos (by omega), u32s_get (by omega)]; rfl
    | succ j => rw [if_neg (by omega)]; rfl
  rw [e]
  exact Go.Own.keyLits_int Try.underlying22 (wf32 (hc i hi))

theorem kl_all {c : Nat → Nat} (hc : ∀ i, i < 32 → c i < 4294967296) : Try.prog.keyLits 3 24 (u32s 32 c) = some (litAll c) := by
  refine Go.Own.keyLits_array Try.underlying24 (by rw [u32s_length, c24]) _ (fun q hq => ?_)
  have e : ((u32s 32 c).drop (q * Try.prog.cellsOf 23)).take (Try.prog.cellsOf 23) = u32s 16 (fun r => c (q * 16 + r)) := by
    rw [c23]
    apply List.ext_getElem?
    intro j
    rw [List.getElem?_take, List.getElem?_drop]
    by_cases hj : j < 16
    · rw [if_pos hj, u32s_get (by omega), u32s_get hj]
    · rw [if_neg hj]; simp [u32s, hj]
  rw [e]
  exact kl_row (fun r hr => hc _ (by omega))

theorem kl26 {s : SV} (hs : s.ok) : Try.prog.keyLits 4 26 (enc s) = some (lits s) := by
  obtain ⟨h1, h2, h3⟩ := hs
  unfold Program.keyLits
  simp only [Try.underlying26]
  rw [if_pos ⟨by rw [enc_length, c26], by simp⟩]
  simp only [List.mapM_cons, List.mapM_nil, c24]
  have e1 : ((enc s).drop 0).take (Try.prog.cellsOf 3) = [.int .i64 s.lv] := by
    rw [show Try.prog.cellsOf 3 = 1 from by kernel_rfl]; rfl
  have e2 : ((enc s).drop 1).take 32 = u32s 32 s.c := by
    show (u32s 32 s.c).take 32 = _
    rw [List.take_of_length_le (by rw [u32s_length]; omega)]
  rw [e1, e2, Go.Own.keyLits_int Try.underlying3 (wf64 ⟨h1, h2⟩), kl_all h3]
  simp [lits]

theorem formed26 (s : SV) : (Value.agg (enc s).toArray).formed Try.prog 26 = true := by
  unfold Value.formed
  simp only [Try.underlying26, Try.underlying25]
  simp [enc_length, c26]
theorem formed24 (c : Nat → Nat) : (Value.agg (u32s 32 c).toArray).formed Try.prog 24 = true := by
  unfold Value.formed
  simp only [Try.underlying24]
  simp [u32s_length, c24]

theorem g26 : Try.prog.eqGuardType Try.prog.depth 26 = false := by kernel_rfl
theorem g24 : Try.prog.eqGuardType Try.prog.depth 24 = false := by kernel_rfl
theorem kt26 : Try.prog.keyTypeAt 4 26 = true := by kernel_rfl
theorem kt24 : Try.prog.keyTypeAt 3 24 = true := by kernel_rfl

/-- Whole statistics compared. -/
theorem eq26 {s t : SV} (hs : s.ok) (ht : t.ok) {v : Bool} (hv : v = true ↔ same s t) (w : World) : (Op.equalIn 10000 26 (.agg (enc s).toArray) (.agg (enc t).toArray)).run Try.prog w = .ok v w :=
  run_agg_equal kt26 (by omega) (formed26 s) (formed26 t) (kl26 hs) (kl26 ht) (by rw [lits_inj]; exact hv) w
theorem eq24 {c d : Nat → Nat} (hc : ∀ i, i < 32 → c i < 4294967296) (hd : ∀ i, i < 32 → d i < 4294967296) {v : Bool} (hv : v = true ↔ ∀ i, i < 32 → c i = d i) (w : World) : (Op.equalIn 10000 24 (.agg (u32s 32 c).toArray) (.agg (u32s 32 d).toArray)).run Try.prog w = .ok v w :=
  run_agg_equal kt24 (by omega) (formed24 c) (formed24 d) (kl_all hc) (kl_all hd) (by rw [litAll_inj]; exact hv) w

theorem same_refl (s : SV) : same s s := ⟨rfl, fun _ _ => rfl⟩

end Go.Proofs.Ytklokbmpapjjiaa
