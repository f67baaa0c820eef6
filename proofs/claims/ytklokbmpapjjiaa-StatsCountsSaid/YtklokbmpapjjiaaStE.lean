/- Contracts: Mirror. -/
import Derived.Test.YtklokbmpapjjiaaStD
open Go.RowKit Go.Own
namespace Go.Proofs.Ytklokbmpapjjiaa

theorem mir_ok {s : SV} (hs : s.ok) (hl : s.lv ≤ 16) : (mir s).ok := by
  obtain ⟨h1, h2, h3⟩ := hs
  refine ⟨h1, h2, fun i hi => ?_⟩
  have h4 : ∀ j, j < 32 → s.c j < 4294967296 := h3
  simp only [mir, mirC]
  split <;> split
  · exact h4 _ (by omega)
  · omega
  · exact h4 _ (by omega)
  · omega

def mirV (s : SV) : SV := if check s = 0 then mir s else ⟨0, fun _ => 0⟩

theorem zero_ok : (⟨0, fun _ => 0⟩ : SV).ok := ⟨by decide, by decide, fun i hi => by show 0 < _; omega⟩
theorem mirV_ok {s : SV} (hs : s.ok) : (mirV s).ok := by
  unfold mirV
  split
  · rename_i h; exact mir_ok hs (check_zero h).2.1
  · exact zero_ok

set_option maxHeartbeats 4000000 in
set_option maxRecDepth 20000 in
theorem pmirror_ok (s : SV) (hs : s.ok) (w : World) (L : List Asn) (h : Hold w L) :
    Calls Try.prog 14 #[.agg (enc s).toArray] w fun e w' => e = .returned (.tuple #[.agg (enc (mirV s)).toArray, .int .i64 (check s)]) ∧ Hold w' L := by
  have hb := h.box2Z s 0
  have C := check_ok s hs
  rcases check_cases s with hc | hc
  · obtain ⟨c1, c2, _, _, _⟩ := check_zero hc
    rw [mirV, if_pos hc]
    rw [hc] at C ⊢
    clear hc h
    have M := fun w L h => mirror0_ok s hs w L h c1 c2
    clear c1 c2
    go_enter Try.func14, Try.ntmps14
    go_upto_region 1 with (fail)
    refine gen_world hb (fun w1 hb => ?_)
    generalize w.heap.size + 1 = r at *
    generalize w.heap.size = b at *
    go_upto_region 4 with (first
      | (refine wp_load26 rfl _ (by rfl) b (by rfl) (hb.mv 1) ?_)
      | (go_at_call 19; refine (C _ _ hb).mono ?_; rintro e w2 ⟨rfl, h2⟩))
    go_wp2_with (first
      | (refine wp_load26 rfl _ (by rfl) b (by rfl) (h2.mv 1) ?_)
      | (go_at_call 43; refine (M _ _ h2).mono ?_; rintro e w3 ⟨rfl, h3⟩)
      | (refine wp_store26 rfl _ _ (by rfl) r (by rfl) (mir s) (by rfl) h3 (fun w4 h4 => ?_)))
    exact bodyPost_ret (res_cell_tmp (loadV26 h4) (by rfl) (by rfl) (by rfl)) rfl ⟨rfl, h4.drop.drop⟩
  · rw [mirV, if_neg (by omega)]
    rw [hc] at C ⊢
    clear hc h
    go_enter Try.func14, Try.ntmps14
    go_upto_region 1 with (fail)
    refine gen_world hb (fun w1 hb => ?_)
    generalize w.heap.size + 1 = r at *
    generalize w.heap.size = b at *
    go_upto_region 3 with (first
      | (refine wp_load26 rfl _ (by rfl) b (by rfl) (hb.mv 1) ?_)
      | (go_at_call 19; refine (C _ _ hb).mono ?_; rintro e w2 ⟨rfl, h2⟩))
    go_wp2_with (first
      | (refine wp_store26 rfl _ _ (by rfl) r (by rfl) ⟨0, fun _ => 0⟩ (by rfl) h2 (fun w4 h4 => ?_)))
    exact bodyPost_ret (res_cell_tmp (loadV26 h4) (by rfl) (by rfl) (by rfl)) rfl ⟨rfl, h4.drop.drop⟩

/-- Row q, place r is next. -/
def mirD (c : Nat → Nat) (m q r : Nat) : Nat → Nat := fun i => if i / 16 < q ∨ (i / 16 = q ∧ i % 16 < r) then mirC c m m i else 0

theorem mirD_zero (c : Nat → Nat) (m : Nat) : mirD c m 0 0 = fun _ => 0 := by funext i; simp [mirD]
theorem mirD_next (c : Nat → Nat) (m q i : Nat) (hq : q < 2) (hi : i < 32) : mirD c m q m i = mirD c m (q + 1) 0 i := by
  unfold mirD
  by_cases h1 : i / 16 < q
  · rw [if_pos (.inl h1), if_pos (.inl (by omega))]
  · by_cases h2 : i / 16 = q
    · rw [if_pos (c := i / 16 < q + 1 ∨ _) (.inl (by omega))]
      by_cases h3 : i % 16 < m
      · rw [if_pos (.inr ⟨h2, h3⟩)]
      · rw [if_neg (by omega)]
        unfold mirC
        split
        · rw [if_neg (by omega)]
        · rw [if_neg (by omega)]
    · rw [if_neg (by omega), if_neg (by omega)]
theorem mirD_step (c : Nat → Nat) (m q r i x : Nat) (hr : r < 16) (hx : x = mirC c m m (16 * q + r)) : upd (mirD c m q r) (16 * q + r) x i = mirD c m q (r + 1) i := by
  unfold upd mirD
  by_cases h1 : i = 16 * q + r
  · subst h1; rw [if_pos rfl, if_pos (.inr (by omega))]; exact hx
  · rw [if_neg h1]
    by_cases h2 : i / 16 < q ∨ (i / 16 = q ∧ i % 16 < r)
    · rw [if_pos h2, if_pos (by omega)]
    · rw [if_neg h2, if_neg (by omega)]
theorem mirD_end (c : Nat → Nat) (m i : Nat) (hi : i < 32) : mirD c m 2 0 i = mirC c m m i := by
  unfold mirD; rw [if_pos (.inl (by omega))]

end Go.Proofs.Ytklokbmpapjjiaa
