/- The walk of MarkerNamed. -/
import Derived.Test.YtibmokkalloabaaMkJ
open Go.RowKit Go.Own
namespace Go.Proofs.Ytibmokkalloabaa

theorem wf64 {n : Int} (h : -9223372036854775808 ≤ n ∧ n ≤ 9223372036854775807) : (Lit.int .i64 n).wf = true := by
  simp only [Lit.wf, IntKind.has, IntKind.min, IntKind.max, IntKind.bits, IntKind.signed, Bool.and_eq_true, decide_eq_true_eq]
  simp; omega
theorem wfu64 {n : Nat} (h : n < 18446744073709551616) : (Lit.int .u64 (n : Int)).wf = true := by
  simp only [Lit.wf, IntKind.has, IntKind.min, IntKind.max, IntKind.bits, IntKind.signed, Bool.and_eq_true, decide_eq_true_eq]
  simp; omega
theorem kl24 {B : Nat} {n : Int} (hB : B < 18446744073709551616) (hn : -9223372036854775808 ≤ n ∧ n ≤ 9223372036854775807) : Try.prog.keyLits 2 24 [.int .u64 B, .int .i64 n] = some [.int .u64 B, .int .i64 n] := by
  unfold Program.keyLits
  simp only [Try.underlying24]
  rw [if_pos ⟨by rw [show Try.prog.cellsOf 24 = 2 from by kernel_rfl]; rfl, by simp⟩]
  simp only [List.mapM_cons, List.mapM_nil, show Try.prog.cellsOf 3 = 1 from by kernel_rfl, show Try.prog.cellsOf 22 = 1 from by kernel_rfl]
  have e1 : ([Value.int .u64 B, .int .i64 n].drop 0).take 1 = [.int .u64 B] := rfl
  have e2 : ([Value.int .u64 B, .int .i64 n].drop 1).take 1 = [.int .i64 n] := rfl
  rw [e1, e2, Go.Own.keyLits_int Try.underlying22 (wfu64 hB), Go.Own.keyLits_int Try.underlying3 (wf64 hn)]
  rfl
theorem formed24 (x y : Value) : (Value.agg [x, y].toArray).formed Try.prog 24 = true := by
  unfold Value.formed
  simp only [Try.underlying24]
  rw [show Try.prog.cellsOf 24 = 2 from by kernel_rfl]
  rfl
theorem g24 : Try.prog.eqGuardType Try.prog.depth 24 = false := by kernel_rfl
theorem kt24 : Try.prog.keyTypeAt 2 24 = true := by kernel_rfl
theorem eq24 {B : Nat} {n : Int} (hB : B < 18446744073709551616) (hn : -9223372036854775808 ≤ n ∧ n ≤ 9223372036854775807) (w : World) :
    (Op.equalIn 10000 24 (.agg [.int .u64 B, .int .i64 n].toArray) (.agg [.int .u64 B, .int .i64 n].toArray)).run Try.prog w = .ok true w :=
  run_agg_equal kt24 (by omega) (formed24 _ _) (formed24 _ _) (kl24 hB hn) (kl24 hB hn) (by simp) w

theorem namedIn_some {s : List UInt8} {p : Nat × Nat} : ∀ {l : List (List UInt8 × Nat × Nat)}, namedIn l s = some p → ∃ x ∈ l, x.2 = p
  | x :: r, h => by
    unfold namedIn at h
    split at h
    · exact ⟨x, by simp, by simpa using h⟩
    · obtain ⟨y, h1, h2⟩ := namedIn_some h
      exact ⟨y, by simp [h1], h2⟩
theorem named_bounds (s : List UInt8) : nmB (named s) < 18446744073709551616 ∧ nmN (named s) ≤ 64 := by
  cases h : named s with
  | none => simp [nmB, nmN]
  | some p =>
    obtain ⟨x, hx, rfl⟩ := namedIn_some h
    simp only [nmB, nmN, Option.map_some, Option.getD_some]
    have : ∀ x ∈ tab, x.2.1 < 18446744073709551616 ∧ x.2.2 ≤ 64 := by decide
    exact this x hx

theorem mnamed_walk (s : List UInt8) (w : World) (L : List Asn) (h : Hold w L) :
    Calls Try.prog 3 #[.string ⟨s.toArray⟩] w fun e w' => e = .returned (.bool true) ∧ Hold w' L := by
  have P1 := fun w L h => named_ok s w L h
  have P2 := fun w L h => rnamed_ok s w L h
  obtain ⟨b1, b2⟩ := named_bounds s
  generalize nmB (named s) = B at *
  generalize nmN (named s) = n at *
  generalize nmE (named s) = c at *
  have E := fun w => eq24 (B := B) (n := n) b1 (by omega) w
  go_enter Try.func3, Try.ntmps3
  go_upto_region 2 with (go_at_call 11; refine (P1 _ _ h).mono ?_; rintro e w1 ⟨rfl, h1⟩; have h2 := h1.box 24 [.int .u64 B, .int .i64 n])
  refine gen_world h2 (fun w2 h2 => ?_)
  generalize w1.heap.size = q at *
  go_upto_region 3 with (go_at_call 12; refine (P2 _ _ h2).mono ?_; rintro e w3 ⟨rfl, h3⟩; have h4 := h3.box 24 [.int .u64 B, .int .i64 n])
  refine gen_world h4 (fun w4 h4 => ?_)
  generalize w3.heap.size = r at *
  obtain ⟨g0, g1⟩ := loadM h4
  obtain ⟨k0, k1⟩ := loadM (h4.mv 1)
  go_wp2_with (first
    | (refine wpList_yw (by rfl) (exec_agg_eql (by rfl) (by rfl) (by rfl) g24 E _) ?_)
    | (go_at_call 13; refine (num_any _ _ _ h4).mono ?_; rintro e w5 ⟨rfl, rfl⟩)
    | (go_at_call 14; refine (live_ok _ _ h4).mono ?_; rintro e w5 ⟨rfl, h5⟩))
  go_ret
  exact ⟨rfl, h5.drop.drop⟩

end Go.Proofs.Ytibmokkalloabaa
