/- Contracts of the reference's channel. -/
import Derived.Test.YtlfchokafpodcaaChanP3
open Go.RowKit Go.Own
namespace Go.Proofs.Ytlfchokafpodcaa

theorem rlen_ok (b : Nat) (s : CS) (B : List Nat) (w : World) (h : Ch 60 w b s B) :
    Calls Try.prog 29 #[.pointer (some ⟨b, 0, none⟩)] w fun e w' => e = .returned (.int .i64 s.l.length) ∧ w = w' := by
  obtain ⟨room, levels, l, passed⟩ := s
  obtain ⟨⟨lao, lcap, hb, ho⟩, hbB, hroom1, hroom2, hl1, hl2, hlr, hp⟩ := h
  dsimp only at *
  have c2 := hb.cell 2
  simp at c2
  go_enter Try.func29, Try.ntmps29
  go_wp2
  go_ret
  exact ⟨rfl, rfl⟩

theorem rlen_no (w : World) : Calls Try.prog 29 #[.pointer none] w fun e w' => e = .returned (.int .i64 0) ∧ w = w' := by
  go_enter Try.func29, Try.ntmps29
  go_wp2
  go_ret
  exact ⟨rfl, rfl⟩

theorem rpassed_ok (b : Nat) (s : CS) (B : List Nat) (w : World) (h : Ch 60 w b s B) :
    Calls Try.prog 30 #[.pointer (some ⟨b, 0, none⟩)] w fun e w' => e = .returned (.int .u64 s.passed) ∧ w = w' := by
  obtain ⟨room, levels, l, passed⟩ := s
  obtain ⟨⟨lao, lcap, hb, ho⟩, hbB, hroom1, hroom2, hl1, hl2, hlr, hp⟩ := h
  dsimp only at *
  have c3 := hb.cell 3
  simp at c3
  clear hp
  go_enter Try.func30, Try.ntmps30
  go_wp2
  go_ret
  exact ⟨rfl, rfl⟩

theorem rpassed_no (w : World) : Calls Try.prog 30 #[.pointer none] w fun e w' => e = .returned (.int .u64 0) ∧ w = w' := by
  go_enter Try.func30, Try.ntmps30
  go_wp2
  go_ret
  exact ⟨rfl, rfl⟩

theorem rlook_no (w : World) : Calls Try.prog 28 #[.pointer none] w fun e w' => e = .returned (.slice none 0 0) ∧ w = w' := by
  go_enter Try.func28, Try.ntmps28
  go_wp2
  go_ret
  exact ⟨rfl, rfl⟩

theorem rput_no (sv : Value) (w : World) : Calls Try.prog 32 #[.pointer none, sv] w fun e w' => e = .returned (.tuple #[.int .i64 0, .int .i64 1]) ∧ w = w' := by
  go_enter Try.func32, Try.ntmps32
  go_wp2
  go_ret2
  exact ⟨rfl, rfl⟩

theorem rtake_no (sv : Value) (w : World) : Calls Try.prog 35 #[.pointer none, sv] w fun e w' => e = .returned (.tuple #[.slice none 0 0, .int .i64 1]) ∧ w = w' := by
  go_enter Try.func35, Try.ntmps35
  go_wp2
  go_ret2
  exact ⟨rfl, rfl⟩

theorem rset_no (p x : Value) (w : World) : Calls Try.prog 36 #[.pointer none, p, x] w fun e w' => e = .returned (.int .i64 1) ∧ w = w' := by
  go_enter Try.func36, Try.ntmps36
  go_wp2
  go_ret
  exact ⟨rfl, rfl⟩

theorem rslip_no (p : Value) (w : World) : Calls Try.prog 37 #[.pointer none, p] w fun e w' => e = .returned (.int .i64 1) ∧ w = w' := by
  go_enter Try.func37, Try.ntmps37
  go_wp2
  go_ret
  exact ⟨rfl, rfl⟩

theorem rinsert_no (p x : Value) (w : World) : Calls Try.prog 38 #[.pointer none, p, x] w fun e w' => e = .returned (.int .i64 1) ∧ w = w' := by
  go_enter Try.func38, Try.ntmps38
  go_wp2
  go_ret
  exact ⟨rfl, rfl⟩

theorem rlook_ok (b : Nat) (s : CS) (B : List Nat) (w : World) (h : Ch 60 w b s B) :
    Calls Try.prog 28 #[.pointer (some ⟨b, 0, none⟩)] w fun e w' => ∃ ao cap R, e = .returned (.slice ao s.l.length cap) ∧
      Own w' 5 1 (.slice ao s.l.length cap) s.l.length (ub s.l) R ∧ (∀ k, k ∈ R → w.heap.size ≤ k) ∧ Fr [] w w' := by
  obtain ⟨i5, hi, hz0, hz1, hz2⟩ := info_parts info5
  obtain ⟨room, levels, l, passed⟩ := s
  obtain ⟨⟨lao, lcap, hb, ho⟩, hbB, hroom1, hroom2, hl1, hl2, hlr, hp⟩ := h
  dsimp only at *
  have c2 := hb.cell 2
  simp at c2
  have a2 : ∀ o, (w.alloc o).cell? ⟨b, 2, none⟩ = some (.slice lao l.length lcap) := fun o => by simpa using (hb.alloc o).cell 2
  go_enter Try.func28, Try.ntmps28
  go_wp2_with ((with_reducible refine wpList_plain (o := ⟨some 10, _, _, _, _, _⟩) rfl (fun K hK => ?_)); refine wp_append_new (w := w) _ _ 22 (by rfl) 5 i5 (.int .u8 0) 1 1 Try.underlying22 hi hz0 hz1 hz2 (by rfl) (by rfl) ⟨rfl, rfl, rfl, rfl⟩ _ (by rfl) _ _ B ho.rd (ub_one l) (by unfold maxLen; omega) (by omega) (fun ao1 cap1 w1 B1 ho1 hf1 hB1 hs1 => ?_); refine hK _ _ ?_; clear hK K)
  go_ret
  exact ⟨_, _, B1, rfl, ho1, hB1, hf1⟩

theorem rnew_ok (room levels : Int) (w : World) (h1 : 1 ≤ room) (h2 : room ≤ 65536) (h3 : 2 ≤ levels) (h4 : levels ≤ 16) :
    Calls Try.prog 21 #[.int .i64 room, .int .i64 levels] w fun e w' => ∃ b, e = .returned (.tuple #[.pointer (some ⟨b, 0, none⟩), .int .i64 0]) ∧ w.heap.size ≤ b ∧
      Ch 60 w' b ⟨room.toNat, levels.toNat, [], 0⟩ [] ∧ Fr [] w w' := by
  go_enter Try.func21, Try.ntmps21
  go_wp2
  go_ret2
  refine ⟨w.heap.size, rfl, Nat.le_refl _, ⟨⟨none, 0, ?_, Own.nil _ _ _⟩, by simp, ?_⟩, (Fr.refl [] w).alloc _⟩
  · have := Blk.new w 60 [.int .i64 room, .int .i64 levels, .slice none 0 0, .int .u64 0]
    simpa [show ((room.toNat : Nat) : Int) = room by omega, show ((levels.toNat : Nat) : Int) = levels by omega] using this
  · simp [CS.ok]; omega

theorem rnew_bad (room levels : Int) (w : World) (h : ¬ (1 ≤ room ∧ room ≤ 65536 ∧ 2 ≤ levels ∧ levels ≤ 16)) :
    Calls Try.prog 21 #[.int .i64 room, .int .i64 levels] w fun e w' => e = .returned (.tuple #[.pointer none, .int .i64 1]) ∧ w = w' := by
  by_cases h1 : room < 1
  · go_enter Try.func21, Try.ntmps21
    go_wp2
    go_ret2
    exact ⟨rfl, rfl⟩
  by_cases h2 : room > 65536
  · go_enter Try.func21, Try.ntmps21
    go_wp2
    go_ret2
    exact ⟨rfl, rfl⟩
  by_cases h3 : levels < 2
  · go_enter Try.func21, Try.ntmps21
    go_wp2
    go_ret2
    exact ⟨rfl, rfl⟩
  · have h4 : levels > 16 := by omega
    go_enter Try.func21, Try.ntmps21
    go_wp2
    go_ret2
    exact ⟨rfl, rfl⟩

theorem rset_err (b : Nat) (s : CS) (B : List Nat) (p : Int) (x : UInt8) (w : World) (h : Ch 60 w b s B) (he : (rightE s p (s.l.length - 1) x == 0) = false) :
    Calls Try.prog 36 #[.pointer (some ⟨b, 0, none⟩), .int .i64 p, .int .u8 x.toNat] w fun e w' => e = .returned (.int .i64 (rightE s p (s.l.length - 1) x)) ∧ w = w' := by
  obtain ⟨room, levels, l, passed⟩ := s
  obtain ⟨⟨lao, lcap, hb, ho⟩, hbB, hroom1, hroom2, hl1, hl2, hlr, hp⟩ := h
  dsimp only at *
  have c1 := hb.cell 1
  have c2 := hb.cell 2
  simp at c1 c2
  have hx : x.toNat < 256 := x.toNat_lt
  clear hp
  unfold rightE at he ⊢
  by_cases h1 : p < 0
  · rw [if_pos (.inl h1)]
    go_enter Try.func36, Try.ntmps36
    go_wp2
    go_ret
    exact ⟨rfl, rfl⟩
  by_cases h2 : (l.length : Int) ≤ p
  · rw [if_pos (.inr (by omega))]
    go_enter Try.func36, Try.ntmps36
    go_wp2
    go_ret
    exact ⟨rfl, rfl⟩
  rw [if_neg (by omega)] at he ⊢
  by_cases h3 : (levels : Int) ≤ x.toNat
  · rw [if_pos (by simpa using h3)]
    clear he
    go_enter Try.func36, Try.ntmps36
    go_wp2
    go_ret
    exact ⟨rfl, rfl⟩
  · rw [if_neg (by simpa using h3)] at he
    simp at he

theorem rslip_err (b : Nat) (s : CS) (B : List Nat) (p : Int) (w : World) (h : Ch 60 w b s B) (he : (rightE s p (s.l.length - 1) 0 == 0) = false) :
    Calls Try.prog 37 #[.pointer (some ⟨b, 0, none⟩), .int .i64 p] w fun e w' => e = .returned (.int .i64 (rightE s p (s.l.length - 1) 0)) ∧ w = w' := by
  obtain ⟨room, levels, l, passed⟩ := s
  obtain ⟨⟨lao, lcap, hb, ho⟩, hbB, hroom1, hroom2, hl1, hl2, hlr, hp⟩ := h
  dsimp only at *
  have c2 := hb.cell 2
  simp at c2
  clear hp
  unfold rightE at he ⊢
  by_cases h1 : p < 0
  · rw [if_pos (.inl h1)]
    go_enter Try.func37, Try.ntmps37
    go_wp2
    go_ret
    exact ⟨rfl, rfl⟩
  by_cases h2 : (l.length : Int) ≤ p
  · rw [if_pos (.inr (by omega))]
    go_enter Try.func37, Try.ntmps37
    go_wp2
    go_ret
    exact ⟨rfl, rfl⟩
  have h0 : ¬ (levels ≤ (0 : UInt8).toNat) := by rw [show (0 : UInt8).toNat = 0 from rfl]; omega
  rw [if_neg (by omega)] at he
  rw [if_neg h0] at he
  simp at he

theorem rinsert_err (b : Nat) (s : CS) (B : List Nat) (p : Int) (x : UInt8) (w : World) (h : Ch 60 w b s B) (he : (rightE s p s.l.length x == 0) = false) :
    Calls Try.prog 38 #[.pointer (some ⟨b, 0, none⟩), .int .i64 p, .int .u8 x.toNat] w fun e w' => e = .returned (.int .i64 (rightE s p s.l.length x)) ∧ w = w' := by
  obtain ⟨room, levels, l, passed⟩ := s
  obtain ⟨⟨lao, lcap, hb, ho⟩, hbB, hroom1, hroom2, hl1, hl2, hlr, hp⟩ := h
  dsimp only at *
  have c1 := hb.cell 1
  have c2 := hb.cell 2
  simp at c1 c2
  have hx : x.toNat < 256 := x.toNat_lt
  clear hp
  unfold rightE at he ⊢
  by_cases h1 : p < 0
  · rw [if_pos (.inl h1)]
    go_enter Try.func38, Try.ntmps38
    go_wp2
    go_ret
    exact ⟨rfl, rfl⟩
  by_cases h2 : (l.length : Int) < p
  · rw [if_pos (.inr h2)]
    go_enter Try.func38, Try.ntmps38
    go_wp2
    go_ret
    exact ⟨rfl, rfl⟩
  rw [if_neg (by omega)] at he ⊢
  by_cases h3 : (levels : Int) ≤ x.toNat
  · rw [if_pos (by simpa using h3)]
    clear he
    go_enter Try.func38, Try.ntmps38
    go_wp2
    go_ret
    exact ⟨rfl, rfl⟩
  · rw [if_neg (by simpa using h3)] at he
    simp at he

end Go.Proofs.Ytlfchokafpodcaa
