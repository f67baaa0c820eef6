/- Contracts: a sender made; its numbers. -/
import Derived.Test.YtjnjbmkkfkdhcaaSeF
open Go.RowKit Go.Own
namespace Go.Proofs.Ytjnjbmkkfkdhcaa

theorem sl_nil : ∀ K : Nat, sl (List.replicate K []) (List.replicate K (none, 0)) = List.replicate K (.slice none 0 0)
  | 0 => rfl
  | K + 1 => by simp [List.replicate_succ, sl, sl_nil K]
theorem rws_nil : ∀ K : Nat, rws (List.replicate K []) (List.replicate K (none, 0)) = List.replicate K (rowA 5 1 none 0 0 [])
  | 0 => rfl
  | K + 1 => by simp [List.replicate_succ, rws, rws_nil K, ub]
theorem made_nil (K : Nat) : ((madeCells (Value.slice none 0 0).cells (K * 1)).toList).take (K * 1) = List.replicate K (.slice none 0 0) := by
  have e : (Value.slice none 0 0).cells = #[.slice none 0 0] := rfl
  rw [e]
  unfold madeCells
  apply List.ext_getElem?
  intro j
  by_cases hj : j < K
  · simp [hj, Nat.mod_one]
  · simp [hj, Nat.mod_one]

def fitsN (w s t : Int) : Prop := 1 ≤ w ∧ w ≤ 64 ∧ w ≤ s ∧ s ≤ 256 ∧ 1 ≤ t ∧ t ≤ 1048576

set_option maxRecDepth 20000 in
theorem new_good (W S T F : Nat) (hf : fitsN W S T) (w : World) (L : List Asn) (h : Hold w L) :
    Calls Try.prog 7 #[.int .i64 W, .int .i64 S, .int .i64 T, .int .u32 F] w fun e w' => ∃ b, e = .returned (.tuple #[.pointer (some ⟨b, 0, none⟩), .int .i64 0]) ∧ Hold w' (snA b (newS W S T F) :: L) := by
  obtain ⟨i32, hi, hz0, hz1, hz2⟩ := info_parts info32
  obtain ⟨f1, f2, f3, f4, f5, f6⟩ := hf
  go_enter Try.func7, Try.ntmps7
  go_wp2_with ((with_reducible refine wpList_plain (o := ⟨some 34, _, _, _, _, _⟩) rfl (fun K hK => ?_)); refine wp_make_h _ _ 47 (by rfl) 32 i32 (.slice none 0 0) 1 24 Try.underlying47 hi hz0 hz1 hz2 .i64 .i64 S S (by rfl) (by rfl) (by omega) (by omega) (by omega) (by omega) h (fun ao w4 h4 => ?_); refine hK _ _ ?_; clear hK K; rw [Int.toNat_natCast, made_nil S] at h4)
  have h5 := (h4.nilRows 5 1 S).box 60 [.slice ao S S, .int .i64 0, .int .i64 0, .int .i64 W, .int .i64 T, .int .u32 F, .int .u32 F, .int .u32 F, .int .u32 F, .int .i64 0]
  have h6 := h5.arr [0, 2, 1]
  (try dsimp only [Go.Own.front, Go.Own.arrA, Go.Own.atA, Go.Own.dropA, List.length_cons, List.length_nil, Nat.zero_add, Nat.reduceAdd] at h6)
  go_ret2
  refine ⟨w4.heap.size, rfl, ?_⟩
  refine sn_close (S := newS W S T F) (f := 0) (rows := List.replicate S []) (ro := ao) (rc := S) (vs := List.replicate S (none, 0)) (Ring.new S (by omega)) (by simp [newS]) (by simp) ?_
  rw [sl_nil, rws_nil]
  exact h6

theorem not_fits {w s t : Int} (h : ¬ fitsN w s t) : w < 1 ∨ (1 ≤ w ∧ 64 < w) ∨ (1 ≤ w ∧ w ≤ 64 ∧ s < w) ∨ (1 ≤ w ∧ w ≤ 64 ∧ w ≤ s ∧ 256 < s) ∨ (1 ≤ w ∧ w ≤ 64 ∧ w ≤ s ∧ s ≤ 256 ∧ t < 1) ∨ (1 ≤ w ∧ w ≤ 64 ∧ w ≤ s ∧ s ≤ 256 ∧ 1 ≤ t ∧ 1048576 < t) := by
  unfold fitsN at h; omega

set_option maxRecDepth 20000 in
theorem new_bad (W S T F : Int) (hf : ¬ fitsN W S T) (w : World) :
    Calls Try.prog 7 #[.int .i64 W, .int .i64 S, .int .i64 T, .int .u32 F] w fun e w' => e = .returned (.tuple #[.pointer none, .int .i64 1]) ∧ w = w' := by
  rcases not_fits hf with h | ⟨h1, h⟩ | ⟨h1, h2, h⟩ | ⟨h1, h2, h3, h⟩ | ⟨h1, h2, h3, h4, h⟩ | ⟨h1, h2, h3, h4, h5, h⟩
  all_goals
    clear hf
    go_enter Try.func7, Try.ntmps7
    go_wp2
    go_ret2
    exact ⟨rfl, rfl⟩

theorem num_any (e : Int) (w : World) : Calls Try.prog 8 #[.int .i64 e] w fun r w' => r = .returned (.int .i64 e) ∧ w = w' := by
  go_enter Try.func8, Try.ntmps8
  go_wp2
  go_ret
  exact ⟨rfl, rfl⟩

theorem none_h (b : Nat) (S : SS) (hS : SI S) (w : World) (v : Value) (f n : Nat) (L : List Asn) (h : Hold w (cellsA b 60 (S.cells v f n) :: L)) :
    Calls Try.prog 25 #[.pointer (some ⟨b, 0, none⟩)] w fun e w' => e = .returned (.bool false) ∧ w = w' :=
  none_ok b S.window (by have := hS.w1; omega) w (h.cell 3)

theorem base_ok (b : Nat) (S : SS) (hS : SI S) (w : World) (L : List Asn) (h : Hold w (snA b S :: L)) :
    Calls Try.prog 14 #[.pointer (some ⟨b, 0, none⟩)] w fun e w' => e = .returned (.int .u32 S.base) ∧ w = w' := by
  obtain ⟨f, rows, ro, rc, vs, hRg, hm, hl, h1⟩ := sn_open h
  have P := none_h b S hS w _ _ _ _ h1
  obtain ⟨-, -, -, -, -, g5, -⟩ := snM h1
  go_enter Try.func14, Try.ntmps14
  go_wp2_with (go_at_call 25; refine P.mono ?_; rintro e w1 ⟨rfl, rfl⟩)
  go_ret
  exact ⟨rfl, rfl⟩
theorem next_ok (b : Nat) (S : SS) (hS : SI S) (w : World) (L : List Asn) (h : Hold w (snA b S :: L)) :
    Calls Try.prog 16 #[.pointer (some ⟨b, 0, none⟩)] w fun e w' => e = .returned (.int .u32 S.next) ∧ w = w' := by
  obtain ⟨f, rows, ro, rc, vs, hRg, hm, hl, h1⟩ := sn_open h
  have P := none_h b S hS w _ _ _ _ h1
  obtain ⟨-, -, -, -, -, -, g6, -⟩ := snM h1
  go_enter Try.func16, Try.ntmps16
  go_wp2_with (go_at_call 25; refine P.mono ?_; rintro e w1 ⟨rfl, rfl⟩)
  go_ret
  exact ⟨rfl, rfl⟩
theorem end_ok (b : Nat) (S : SS) (hS : SI S) (w : World) (L : List Asn) (h : Hold w (snA b S :: L)) :
    Calls Try.prog 15 #[.pointer (some ⟨b, 0, none⟩)] w fun e w' => e = .returned (.int .u32 S.fin) ∧ w = w' := by
  obtain ⟨f, rows, ro, rc, vs, hRg, hm, hl, h1⟩ := sn_open h
  have P := none_h b S hS w _ _ _ _ h1
  obtain ⟨-, -, -, -, -, -, -, -, g8, -⟩ := snM h1
  go_enter Try.func15, Try.ntmps15
  go_wp2_with (go_at_call 25; refine P.mono ?_; rintro e w1 ⟨rfl, rfl⟩)
  go_ret
  exact ⟨rfl, rfl⟩
theorem timer_ok (b : Nat) (S : SS) (hS : SI S) (w : World) (L : List Asn) (h : Hold w (snA b S :: L)) :
    Calls Try.prog 24 #[.pointer (some ⟨b, 0, none⟩)] w fun e w' => e = .returned (.int .i64 S.timer) ∧ w = w' := by
  obtain ⟨f, rows, ro, rc, vs, hRg, hm, hl, h1⟩ := sn_open h
  have P := none_h b S hS w _ _ _ _ h1
  obtain ⟨-, -, -, -, -, -, -, -, -, g9⟩ := snM h1
  go_enter Try.func24, Try.ntmps24
  go_wp2_with (go_at_call 25; refine P.mono ?_; rintro e w1 ⟨rfl, rfl⟩)
  go_ret
  exact ⟨rfl, rfl⟩

end Go.Proofs.Ytjnjbmkkfkdhcaa
