/- What is sent is what was given: the plain law; SenderKeeps where New fails. -/
import Derived.Test.YtjnjbmkkfkdhcaaSeR
import Derived.Test.YtjnjbmkkfkdhcaaSeN
open Go.RowKit Go.Own
namespace Go.Proofs.Ytjnjbmkkfkdhcaa

/-- G: all that was given; F: the number of the first. -/
structure KI (F : Nat) (S : SS) (G : List (List UInt8)) : Prop where
  si : SI S
  fb : F ≤ S.base
  eq : S.L = G.drop (S.base - F)
  fin : S.fin = F + G.length
theorem KI.new {W S T F : Nat} (h : SI (newS W S T F)) : KI F (newS W S T F) [] := ⟨h, Nat.le_refl _, by simp [newS], rfl⟩
theorem KI.slot {F : Nat} {S : SS} {G : List (List UInt8)} (H : KI F S G) : KI F (slotS S) G := by
  obtain ⟨k1, k2, k3, k4, k5, k6⟩ := slot_same S
  exact ⟨H.si.slot, by rw [k1]; exact H.fb, by rw [k2, k1]; exact H.eq, by rw [k5]; exact H.fin⟩
theorem KI.le {F : Nat} {S : SS} {G : List (List UInt8)} (H : KI F S G) : S.base - F ≤ G.length := by
  have h1 := H.si.fin
  have h2 := H.fin
  have h3 := H.fb
  omega
theorem KI.add {F : Nat} {S : SS} {G : List (List UInt8)} (H : KI F S G) {x : List UInt8} (h : sendE S x.length = 0) : KI F (addS S x) (G ++ [x]) := by
  refine ⟨H.si.add h, H.fb, ?_, ?_⟩
  · show S.L ++ [x] = (G ++ [x]).drop (S.base - F)
    rw [List.drop_append_of_le_length H.le, ← H.eq]
  · show S.fin + 1 = F + (G ++ [x]).length
    have := H.fin
    simp; omega
theorem KI.ack {F : Nat} {S : SS} {G : List (List UInt8)} (H : KI F S G) (n : Nat) : KI F (ackS S n) G := by
  have h0 := H.si.ack n
  unfold ackS at h0 ⊢
  by_cases h : n ≤ S.base ∨ S.top < n
  · rw [if_pos h]; exact H
  · rw [if_neg h] at h0 ⊢
    have h1 := H.fb
    refine ⟨h0, by show F ≤ n; omega, ?_, H.fin⟩
    show S.L.drop (n - S.base) = G.drop (n - F)
    rw [H.eq, List.drop_drop]
    congr 1
    omega
theorem KI.at {F : Nat} {S : SS} {G : List (List UInt8)} (H : KI F S G) {d : Nat} {x : List UInt8} (h : S.L[d]? = some x) : G[S.base - F + d]? = some x := by
  rw [H.eq, List.getElem?_drop] at h
  exact h

set_option maxRecDepth 20000 in
theorem keeps_bad (W S T F : Int) (hf : ¬ fitsN W S T) (v : Value) (w : World) (L : List Asn) (h : Hold w L) :
    Calls Try.prog 4 #[.agg #[.int .i64 W, .int .i64 S, .int .i64 T, .int .u32 F], v] w fun e w' => e = .returned (.bool true) ∧ Hold w' L := by
  have PN := fun w => new_bad W S T F hf w
  rcases not_fits hf with h1 | ⟨h1, h2⟩ | ⟨h1, h2, h3⟩ | ⟨h1, h2, h3, h4⟩ | ⟨h1, h2, h3, h4, h5⟩ | ⟨h1, h2, h3, h4, h5, h6⟩
  · have d1 : decide (1 ≤ W) = false := by simp; omega
    clear hf h1
    go_enter Try.func4, Try.ntmps4
    have hb : Hold _ (seA w.heap.size W S T F :: L) := h.box 24 [.int .i64 W, .int .i64 S, .int .i64 T, .int .u32 F]
    go_upto_region 1 with (fail)
    refine gen_world hb (fun w1 hb => ?_)
    generalize w.heap.size = q at *
    obtain ⟨g0, g1, g2, g3⟩ := seM hb
    go_wp2_with (first
      | (go_at_call 7; refine (PN _).mono ?_; rintro e w2 ⟨rfl, rfl⟩)
      | (go_at_call 8; refine (num_any _ _).mono ?_; rintro e w2 ⟨rfl, rfl⟩)
      | (go_at_call 9; refine (live_ok _ _ hb).mono ?_; rintro e w3 ⟨rfl, h3⟩))
    go_ret
    exact ⟨rfl, h3.drop⟩
  · have d1 : decide (1 ≤ W) = true := by simp; omega
    have d2 : decide (W ≤ 64) = false := by simp; omega
    clear hf h1 h2
    go_enter Try.func4, Try.ntmps4
    have hb : Hold _ (seA w.heap.size W S T F :: L) := h.box 24 [.int .i64 W, .int .i64 S, .int .i64 T, .int .u32 F]
    go_upto_region 1 with (fail)
    refine gen_world hb (fun w1 hb => ?_)
    generalize w.heap.size = q at *
    obtain ⟨g0, g1, g2, g3⟩ := seM hb
    go_wp2_with (first
      | (go_at_call 7; refine (PN _).mono ?_; rintro e w2 ⟨rfl, rfl⟩)
      | (go_at_call 8; refine (num_any _ _).mono ?_; rintro e w2 ⟨rfl, rfl⟩)
      | (go_at_call 9; refine (live_ok _ _ hb).mono ?_; rintro e w3 ⟨rfl, h3⟩))
    go_ret
    exact ⟨rfl, h3.drop⟩
  · have d1 : decide (1 ≤ W) = true := by simp; omega
    have d2 : decide (W ≤ 64) = true := by simp; omega
    have d3 : decide (W ≤ S) = false := by simp; omega
    clear hf h1 h2 h3
    go_enter Try.func4, Try.ntmps4
    have hb : Hold _ (seA w.heap.size W S T F :: L) := h.box 24 [.int .i64 W, .int .i64 S, .int .i64 T, .int .u32 F]
    go_upto_region 1 with (fail)
    refine gen_world hb (fun w1 hb => ?_)
    generalize w.heap.size = q at *
    obtain ⟨g0, g1, g2, g3⟩ := seM hb
    go_wp2_with (first
      | (go_at_call 7; refine (PN _).mono ?_; rintro e w2 ⟨rfl, rfl⟩)
      | (go_at_call 8; refine (num_any _ _).mono ?_; rintro e w2 ⟨rfl, rfl⟩)
      | (go_at_call 9; refine (live_ok _ _ hb).mono ?_; rintro e w3 ⟨rfl, h3⟩))
    go_ret
    exact ⟨rfl, h3.drop⟩
  · have d1 : decide (1 ≤ W) = true := by simp; omega
    have d2 : decide (W ≤ 64) = true := by simp; omega
    have d3 : decide (W ≤ S) = true := by simp; omega
    have d4 : decide (S ≤ 256) = false := by simp; omega
    clear hf h1 h2 h3 h4
    go_enter Try.func4, Try.ntmps4
    have hb : Hold _ (seA w.heap.size W S T F :: L) := h.box 24 [.int .i64 W, .int .i64 S, .int .i64 T, .int .u32 F]
    go_upto_region 1 with (fail)
    refine gen_world hb (fun w1 hb => ?_)
    generalize w.heap.size = q at *
    obtain ⟨g0, g1, g2, g3⟩ := seM hb
    go_wp2_with (first
      | (go_at_call 7; refine (PN _).mono ?_; rintro e w2 ⟨rfl, rfl⟩)
      | (go_at_call 8; refine (num_any _ _).mono ?_; rintro e w2 ⟨rfl, rfl⟩)
      | (go_at_call 9; refine (live_ok _ _ hb).mono ?_; rintro e w3 ⟨rfl, h3⟩))
    go_ret
    exact ⟨rfl, h3.drop⟩
  · have d1 : decide (1 ≤ W) = true := by simp; omega
    have d2 : decide (W ≤ 64) = true := by simp; omega
    have d3 : decide (W ≤ S) = true := by simp; omega
    have d4 : decide (S ≤ 256) = true := by simp; omega
    have d5 : decide (1 ≤ T) = false := by simp; omega
    clear hf h1 h2 h3 h4 h5
    go_enter Try.func4, Try.ntmps4
    have hb : Hold _ (seA w.heap.size W S T F :: L) := h.box 24 [.int .i64 W, .int .i64 S, .int .i64 T, .int .u32 F]
    go_upto_region 1 with (fail)
    refine gen_world hb (fun w1 hb => ?_)
    generalize w.heap.size = q at *
    obtain ⟨g0, g1, g2, g3⟩ := seM hb
    go_wp2_with (first
      | (go_at_call 7; refine (PN _).mono ?_; rintro e w2 ⟨rfl, rfl⟩)
      | (go_at_call 8; refine (num_any _ _).mono ?_; rintro e w2 ⟨rfl, rfl⟩)
      | (go_at_call 9; refine (live_ok _ _ hb).mono ?_; rintro e w3 ⟨rfl, h3⟩))
    go_ret
    exact ⟨rfl, h3.drop⟩
  · have d1 : decide (1 ≤ W) = true := by simp; omega
    have d2 : decide (W ≤ 64) = true := by simp; omega
    have d3 : decide (W ≤ S) = true := by simp; omega
    have d4 : decide (S ≤ 256) = true := by simp; omega
    have d5 : decide (1 ≤ T) = true := by simp; omega
    have d6 : decide (T ≤ 1048576) = false := by simp; omega
    clear hf h1 h2 h3 h4 h5 h6
    go_enter Try.func4, Try.ntmps4
    have hb : Hold _ (seA w.heap.size W S T F :: L) := h.box 24 [.int .i64 W, .int .i64 S, .int .i64 T, .int .u32 F]
    go_upto_region 1 with (fail)
    refine gen_world hb (fun w1 hb => ?_)
    generalize w.heap.size = q at *
    obtain ⟨g0, g1, g2, g3⟩ := seM hb
    go_wp2_with (first
      | (go_at_call 7; refine (PN _).mono ?_; rintro e w2 ⟨rfl, rfl⟩)
      | (go_at_call 8; refine (num_any _ _).mono ?_; rintro e w2 ⟨rfl, rfl⟩)
      | (go_at_call 9; refine (live_ok _ _ hb).mono ?_; rintro e w3 ⟨rfl, h3⟩))
    go_ret
    exact ⟨rfl, h3.drop⟩

end Go.Proofs.Ytjnjbmkkfkdhcaa
