/- StatsRises at any thresholds; rows of whole numbers among the arguments. -/
import Derived.Test.YtklokbmpapjjiaaQtC
import Derived.Test.YtklokbmpapjjiaaLaw2
open Go.ChangeShapes Go.WideShapes Go.ChangeAt Go.RowKit Go.Own
namespace Go.Proofs.Ytklokbmpapjjiaa

set_option maxHeartbeats 1000000 in
set_option maxRecDepth 20000 in
theorem rises_no (v : Value) (er : Nat) (her : er = 1 ∨ er = 11) (a c : Int) (C : Asn) (P1 : ∀ w L, Hold w (C :: L) → Calls Try.prog 32 #[v] w fun e w' => e = .returned (.tuple #[.pointer none, .int .i64 er]) ∧ Hold w' (C :: L)) (w : World) (L : List Asn) (h : Hold w (C :: L)) :
    Calls Try.prog 8 #[v, .int .i64 a, .int .i64 c] w fun e w' => e = .returned (.bool true) ∧ Hold w' (C :: L) := by
  rcases her with rfl | rfl
  all_goals
    go_enter Try.func8, Try.ntmps8
    go_wp2_with (first
      | (go_at_call 32; refine (P1 _ _ h).mono ?_; rintro e w1 ⟨rfl, h1⟩)
      | (go_at_call 33; refine (levels_nil _).mono ?_; rintro e w' ⟨rfl, rfl⟩)
      | (go_at_call 18; refine (num_any _ _ _ h1).mono ?_; rintro e w' ⟨rfl, rfl⟩)
      | (go_at_call 21; refine (knows_ok _ _ h1).mono ?_; rintro e w2 ⟨rfl, h2⟩))
    go_ret
    exact ⟨rfl, h2⟩

theorem rises_walk (xs : List Int) (hF : Fits xs) (C : Asn) (ao : Option Addr) (n cap : Nat) (hR : Reads C 1 (.slice ao n cap) n (is xs)) (hm : n ≤ 140737488351232) (a c : Int) (w : World) (L : List Asn) (h : Hold w (C :: L)) :
    Calls Try.prog 8 #[.slice ao n cap, .int .i64 a, .int .i64 c] w fun e w' => e = .returned (.bool true) ∧ Hold w' (C :: L) := by
  obtain ⟨S0, hrd0⟩ := h.reads hR
  have hb1 := hrd0.bounds.1
  rw [is_length, Nat.mul_one] at hb1
  by_cases hn : n < 1 ∨ 15 < n
  · refine rises_no _ 1 (.inl rfl) a c C (fun w L h => ?_) w L h
    have := steps_len xs ao cap (by omega) (by omega) w
    rw [hb1] at this
    exact this.mono fun e w' ⟨he, hw⟩ => ⟨he, hw ▸ h⟩
  · rcases fall_or xs with hI | hI
    · exact rises_ok xs hI hF C ao n cap hR (by omega) (by omega) a c w L h
    · exact rises_no _ 11 (.inr rfl) a c C (fun w L h => steps_fall xs C ao n cap hR (by omega) (by omega) hI w L h) w L h

theorem c3 : Try.prog.cellsOf 3 = 1 := by kernel_rfl
theorem b3 : Try.prog.bytesOf 3 = 8 := by kernel_rfl

theorem open_ints61 {H : Type} {enc0 : TypeId × Value → H} {W : World} {r : Reach} {b1 : Nat} {v : Value} {d : DataW H} {ps : List MemPlace} (hval : Value.okWide Try.prog W r b1 61 v) (hd : DataW.Trod enc0 Try.prog W 0 (fun _ => true) true 61 v d ps)
    (hlt : ∀ p ∈ ps, p.block < W.heap.size) (hw : ∀ q ∈ d.weights Try.prog 61, q ≤ reachBytes) :
    ∃ ao n cap xs, v = .slice ao n cap ∧ Reads (oldA W) 1 (.slice ao n cap) n (is xs) ∧ Fits xs ∧ n * 8 ≤ 140737488351232 := by
  obtain ⟨fuel, hf⟩ := hd
  obtain ⟨ao0, n0, cap0, rfl⟩ := okWide_slice Try.underlying61 hval
  obtain ⟨ao, n, cap, cells, S, hcs, hrd, hS, hn, hel⟩ := open_rows Try.underlying61 c3 b3 (by omega) hf hlt hw
  simp only [Value.cells] at hcs
  simp at hcs
  obtain ⟨rfl, rfl, rfl⟩ := hcs
  have hlen := hrd.bounds.1
  have hb : ∀ q, q < n0 → ∃ x : Int, cells[q]? = some (.int .i64 x) ∧ (-9223372036854775808 ≤ x ∧ x ≤ 9223372036854775807) := fun q hq => by
    obtain ⟨f', y, hy, _, _⟩ := hel q (by omega)
    rw [Nat.mul_one] at hy
    obtain ⟨m, e, _, hwf⟩ := DataW.trod_int Try.underlying3 hy
    have e2 : cells[q]? = some (.int .i64 m) := by
      have : (((cells.drop q)).take 1)[0]? = some (.int .i64 m) := by rw [e]; rfl
      rw [List.getElem?_take, if_pos (by omega), List.getElem?_drop, Nat.add_zero] at this
      exact this
    simp only [Lit.wf, IntKind.has, IntKind.min, IntKind.max, IntKind.bits, IntKind.signed, Bool.and_eq_true, decide_eq_true_eq] at hwf
    simp at hwf
    exact ⟨_, e2, by omega⟩
  obtain ⟨f, hf2⟩ : ∃ f : Nat → Int, ∀ q, q < n0 → cells[q]? = some (.int .i64 (f q)) ∧ (-9223372036854775808 ≤ f q ∧ f q ≤ 9223372036854775807) :=
    ⟨fun q => if h : q < n0 then (hb q h).choose else 0, fun q hq => by simp only [hq, dite_true]; exact (hb q hq).choose_spec⟩
  refine ⟨ao0, n0, cap0, (List.range n0).map f, rfl, Reads.old ?_ hS, fun i hi => ?_, by omega⟩
  · have e : cells = is ((List.range n0).map f) := by
      apply List.ext_getElem?
      intro q
      by_cases hq : q < n0
      · rw [(hf2 q hq).1]; simp [is, hq]
      · rw [List.getElem?_eq_none (by omega), List.getElem?_eq_none (by rw [is_length]; simp; omega)]
    rw [← e]
    exact hrd
  · simp only [List.length_map, List.length_range] at hi
    rw [List.getElem_map, List.getElem_range]
    exact (hf2 i hi).2

end Go.Proofs.Ytklokbmpapjjiaa
