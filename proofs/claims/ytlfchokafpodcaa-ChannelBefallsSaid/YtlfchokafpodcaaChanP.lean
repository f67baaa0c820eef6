/- Contracts of package channel's functions. -/
import Derived.Test.YtlfchokafpodcaaProg
import Derived.Test.YtlfchokafpodcaaOwn2
import Derived.Test.YtlfchokafpodcaaRegion
import Derived.Deep.DeepCutAuto
import Derived.Lib.Hide
open Go.RowKit Go.Own
namespace Go.Proofs.Ytlfchokafpodcaa

/-- The state of a channel. -/
structure CS where
  room : Nat
  levels : Nat
  l : List UInt8
  passed : Nat

def CS.ok (s : CS) : Prop := 1 ≤ s.room ∧ s.room ≤ 65536 ∧ 2 ≤ s.levels ∧ s.levels ≤ 16 ∧ s.l.length ≤ s.room ∧ s.passed < 18446744073709551616

/-- Block b is a channel (T: its type) whose state is s; its row lies in B. -/
def Ch (T : Nat) (w : World) (b : Nat) (s : CS) (B : List Nat) : Prop :=
  (∃ ao cap, Blk w b T [.int .i64 s.room, .int .i64 s.levels, .slice ao s.l.length cap, .int .u64 s.passed] ∧ Own w 5 1 (.slice ao s.l.length cap) s.l.length (ub s.l) B) ∧ b ∉ B ∧ s.ok

/-- What a call leaves. -/
def Upd (T : Nat) (w : World) (b : Nat) (B : List Nat) (w' : World) (s : CS) : Prop :=
  ∃ B', Ch T w' b s B' ∧ Fr (b :: B) w w' ∧ (∀ k, k ∈ B' → k ∈ B ∨ w.heap.size ≤ k)

/-- The level of a bit. -/
def lv (levels : Nat) (x : UInt8) : UInt8 := x * UInt8.ofNat (levels - 1)

def CS.put (s : CS) (bs : List UInt8) : CS := { s with l := s.l ++ (bs.take (s.room - s.l.length)).map (lv s.levels) }
def CS.take (s : CS) (n : Nat) : CS := { s with l := s.l.drop n, passed := (s.passed + n) % 18446744073709551616 }
def CS.set (s : CS) (p : Nat) (x : UInt8) : CS := { s with l := s.l.set p x }
def CS.slip (s : CS) (p : Nat) : CS := { s with l := s.l.take p ++ s.l.drop (p + 1) }
def CS.insert (s : CS) (p : Nat) (x : UInt8) : CS := { s with l := s.l.take p ++ x :: s.l.drop p }

theorem lv_wrap (levels : Nat) (x : UInt8) (hx : x ≤ 1) (h1 : 2 ≤ levels) (h2 : levels ≤ 16) :
    IntKind.u8.wrap ((x.toNat : Int) * IntKind.u8.wrap (IntKind.i64.wrap ((levels : Int) - 1))) = (lv levels x).toNat := by
  have hx' : x.toNat ≤ 1 := by simpa using UInt8.le_iff_toNat_le.1 hx
  have e1 : IntKind.i64.wrap ((levels : Int) - 1) = levels - 1 := by rw [IntKind.wrap_i64]; omega
  have e2 : IntKind.u8.wrap ((levels : Int) - 1) = levels - 1 := by simp [IntKind.wrap, IntKind.bits, IntKind.signed]; omega
  rw [e1, e2]
  have h3 : x.toNat = 0 ∨ x.toNat = 1 := by omega
  unfold lv
  rw [UInt8.toNat_mul, UInt8.toNat_ofNat']
  rcases h3 with h3 | h3 <;> rw [h3]
  · simp [IntKind.wrap, IntKind.bits, IntKind.signed]
  · simp [IntKind.wrap, IntKind.bits, IntKind.signed]; omega

theorem info5 : (Try.prog.info? 5).map (fun i => (i.zero, i.size, i.bytes)) = some (some (.int .u8 0), 1, 1) := by kernel_rfl
theorem size5 : (Try.prog.info? 5).map (·.size) = some 1 := by kernel_rfl

/-- No channel: nil, or one that nobody made. -/
def ChN (w : World) (pv : Value) : Prop := pv = .pointer none ∨ ∃ b, pv = .pointer (some ⟨b, 0, none⟩) ∧ w.cell? ⟨b, 0, none⟩ = some (.int .i64 0)

set_option maxHeartbeats 400000 in
theorem good_yes (b : Nat) (room : Int) (w : World) (h : w.cell? ⟨b, 0, none⟩ = some (.int .i64 room)) (hr : 0 < room) :
    Calls Try.prog 24 #[.pointer (some ⟨b, 0, none⟩)] w fun e w' => e = .returned (.bool true) ∧ w = w' := by
  go_enter Try.func24, Try.ntmps24
  go_wp2
  go_ret
  exact ⟨rfl, rfl⟩

set_option maxHeartbeats 400000 in
theorem good_no (pv : Value) (w : World) (h : ChN w pv) : Calls Try.prog 24 #[pv] w fun e w' => e = .returned (.bool false) ∧ w = w' := by
  rcases h with rfl | ⟨b, rfl, h⟩
  · go_enter Try.func24, Try.ntmps24
    go_wp2
    go_ret
    exact ⟨rfl, rfl⟩
  · go_enter Try.func24, Try.ntmps24
    go_wp2
    go_ret
    exact ⟨rfl, rfl⟩

theorem len_ok (b : Nat) (s : CS) (B : List Nat) (w : World) (h : Ch 53 w b s B) :
    Calls Try.prog 16 #[.pointer (some ⟨b, 0, none⟩)] w fun e w' => e = .returned (.int .i64 s.l.length) ∧ w = w' := by
  obtain ⟨room, levels, l, passed⟩ := s
  obtain ⟨⟨lao, lcap, hb, ho⟩, hbB, hroom1, hroom2, hl1, hl2, hlr, hp⟩ := h
  dsimp only at *
  have c0 := hb.cell 0
  have c2 := hb.cell 2
  simp at c0 c2
  go_enter Try.func16, Try.ntmps16
  go_wp2_with (go_at_call 24; refine (good_yes b _ _ c0 (by omega)).mono ?_; rintro e w' ⟨rfl, rfl⟩)
  go_ret
  exact ⟨rfl, rfl⟩

theorem len_no (pv : Value) (w : World) (h : ChN w pv) : Calls Try.prog 16 #[pv] w fun e w' => e = .returned (.int .i64 0) ∧ w = w' := by
  go_enter Try.func16, Try.ntmps16
  go_wp2_with (go_at_call 24; refine (good_no _ _ h).mono ?_; rintro e w' ⟨rfl, rfl⟩)
  go_ret
  exact ⟨rfl, rfl⟩

theorem passed_ok (b : Nat) (s : CS) (B : List Nat) (w : World) (h : Ch 53 w b s B) :
    Calls Try.prog 17 #[.pointer (some ⟨b, 0, none⟩)] w fun e w' => e = .returned (.int .u64 s.passed) ∧ w = w' := by
  obtain ⟨room, levels, l, passed⟩ := s
  obtain ⟨⟨lao, lcap, hb, ho⟩, hbB, hroom1, hroom2, hl1, hl2, hlr, hp⟩ := h
  dsimp only at *
  have c0 := hb.cell 0
  have c3 := hb.cell 3
  simp at c0 c3
  clear hp
  go_enter Try.func17, Try.ntmps17
  go_wp2_with (go_at_call 24; refine (good_yes b _ _ c0 (by omega)).mono ?_; rintro e w' ⟨rfl, rfl⟩)
  go_ret
  exact ⟨rfl, rfl⟩

theorem passed_no (pv : Value) (w : World) (h : ChN w pv) : Calls Try.prog 17 #[pv] w fun e w' => e = .returned (.int .u64 0) ∧ w = w' := by
  go_enter Try.func17, Try.ntmps17
  go_wp2_with (go_at_call 24; refine (good_no _ _ h).mono ?_; rintro e w' ⟨rfl, rfl⟩)
  go_ret
  exact ⟨rfl, rfl⟩

/-- cut: a new row with the first n. -/
theorem cut_ok (b : Nat) (s : CS) (B : List Nat) (n : Int) (w : World) (h : Ch 53 w b s B) (hn0 : 0 ≤ n) (hn : n ≤ s.l.length) :
    Calls Try.prog 25 #[.pointer (some ⟨b, 0, none⟩), .int .i64 n] w fun e w' => e = .returned (.slice (some ⟨w.heap.size, 0, none⟩) n.toNat n.toNat) ∧
      Own w' 5 1 (.slice (some ⟨w.heap.size, 0, none⟩) n.toNat n.toNat) n.toNat (ub (s.l.take n.toNat)) [w.heap.size] ∧ Fr [] w w' ∧ w.heap.size < w'.heap.size := by
  obtain ⟨i5, hi, hz0, hz1, hz2⟩ := info_parts info5
  obtain ⟨room, levels, l, passed⟩ := s
  obtain ⟨⟨lao, lcap, hb, ho⟩, hbB, hroom1, hroom2, hl1, hl2, hlr, hp⟩ := h
  dsimp only at *
  have hbl := hb.lt
  go_enter Try.func25, Try.ntmps25
  go_wp2_with (first
    | (at_make; refine wpList_make_any rfl (.tmp 6) (.tmp 6) 22 (by rfl) 5 i5 (.int .u8 0) 1 1 Try.underlying22 hi hz0 hz1 hz2 .i64 .i64 n n (by rfl) (by rfl) hn0 (Int.le_refl _) (by omega) (by omega) ?_; intro w1 ho1 hf1 hs1 hh1; have hb1 := hb.fr hf1 (by simp); have c2 := hb1.cell 2; simp at c2)
    | ((with_reducible refine wpList_plain (o := ⟨some 13, _, _, _, _, _⟩) rfl (fun K hK => ?_)); refine wp_copy_any _ _ 22 22 (by rfl) 5 Try.underlying22 size5 _ _ _ _ _ ho1 0 _ n.toNat n.toNat (by rfl) (.inr (by simp [Addr.add_lit])) (by omega) _ _ (ub l) B (by rfl) ((ho.fr hf1 (by simp)).rd) (ub_one l) ?_; intro w2 ho2 hf2 hs2; refine hK _ _ ?_; clear hK K))
  go_ret
  have hmin : Nat.min l.length n.toNat = n.toNat := Nat.min_eq_right (by omega)
  refine ⟨rfl, ?_, hf1.trans hf2 (fun k hk => .inr (by simp at hk; omega)), by omega⟩
  have e : ub (l.take n.toNat) = (List.take (n.toNat * 1) (madeCells (Value.int IntKind.u8 0).cells (n.toNat * 1)).toList).take 0 ++ (ub l).take (Nat.min l.length n.toNat) ++ (List.take (n.toNat * 1) (madeCells (Value.int IntKind.u8 0).cells (n.toNat * 1)).toList).drop (0 + Nat.min l.length n.toNat) := by
    rw [hmin, List.drop_of_length_le (by simp [size_madeCells])]
    simp [ub_take]
  rw [e]
  exact ho2

theorem look_ok (b : Nat) (s : CS) (B : List Nat) (w : World) (h : Ch 53 w b s B) :
    Calls Try.prog 13 #[.pointer (some ⟨b, 0, none⟩)] w fun e w' => e = .returned (.slice (some ⟨w.heap.size, 0, none⟩) s.l.length s.l.length) ∧
      Own w' 5 1 (.slice (some ⟨w.heap.size, 0, none⟩) s.l.length s.l.length) s.l.length (ub s.l) [w.heap.size] ∧ Fr [] w w' ∧ w.heap.size < w'.heap.size := by
  have hcut := cut_ok b s B s.l.length w h (Int.natCast_nonneg _) (Int.le_refl _)
  obtain ⟨room, levels, l, passed⟩ := s
  obtain ⟨⟨lao, lcap, hb, ho⟩, hbB, hroom1, hroom2, hl1, hl2, hlr, hp⟩ := h
  dsimp only at *
  have c0 := hb.cell 0
  have c2 := hb.cell 2
  simp at c0 c2 hcut
  go_enter Try.func13, Try.ntmps13
  go_wp2_with (first
    | (go_at_call 24; refine (good_yes b _ _ c0 (by omega)).mono ?_; rintro e w' ⟨rfl, rfl⟩)
    | (go_at_call 25; refine hcut.mono ?_; rintro e w' ⟨rfl, hh⟩))
  go_ret
  exact ⟨rfl, hh⟩

theorem look_no (pv : Value) (w : World) (h : ChN w pv) : Calls Try.prog 13 #[pv] w fun e w' => e = .returned (.slice none 0 0) ∧ w = w' := by
  go_enter Try.func13, Try.ntmps13
  go_wp2_with (go_at_call 24; refine (good_no _ _ h).mono ?_; rintro e w' ⟨rfl, rfl⟩)
  go_ret
  exact ⟨rfl, rfl⟩

theorem put_no (pv sv : Value) (w : World) (h : ChN w pv) : Calls Try.prog 12 #[pv, sv] w fun e w' => e = .returned (.tuple #[.int .i64 0, .int .i64 1]) ∧ w = w' := by
  go_enter Try.func12, Try.ntmps12
  go_wp2_with (go_at_call 24; refine (good_no _ _ h).mono ?_; rintro e w' ⟨rfl, rfl⟩)
  go_ret2
  exact ⟨rfl, rfl⟩

theorem take_no (pv sv : Value) (w : World) (h : ChN w pv) : Calls Try.prog 14 #[pv, sv] w fun e w' => e = .returned (.tuple #[.slice none 0 0, .int .i64 1]) ∧ w = w' := by
  go_enter Try.func14, Try.ntmps14
  go_wp2_with (go_at_call 24; refine (good_no _ _ h).mono ?_; rintro e w' ⟨rfl, rfl⟩)
  go_ret2
  exact ⟨rfl, rfl⟩

theorem right_no (pv : Value) (p m : Int) (x : UInt8) (w : World) (h : ChN w pv) : Calls Try.prog 27 #[pv, .int .i64 p, .int .i64 m, .int .u8 x.toNat] w fun e w' => e = .returned (.int .i64 1) ∧ w = w' := by
  go_enter Try.func27, Try.ntmps27
  go_wp2_with (go_at_call 24; refine (good_no _ _ h).mono ?_; rintro e w' ⟨rfl, rfl⟩)
  go_ret
  exact ⟨rfl, rfl⟩

def rightE (s : CS) (p m : Int) (x : UInt8) : Int := if p < 0 ∨ m < p then 3 else if s.levels ≤ x.toNat then 91 else 0

theorem right_ok (b : Nat) (s : CS) (B : List Nat) (p m : Int) (x : UInt8) (w : World) (h : Ch 53 w b s B) :
    Calls Try.prog 27 #[.pointer (some ⟨b, 0, none⟩), .int .i64 p, .int .i64 m, .int .u8 x.toNat] w fun e w' => e = .returned (.int .i64 (rightE s p m x)) ∧ w = w' := by
  obtain ⟨room, levels, l, passed⟩ := s
  obtain ⟨⟨lao, lcap, hb, ho⟩, hbB, hroom1, hroom2, hl1, hl2, hlr, hp⟩ := h
  dsimp only at *
  have c0 := hb.cell 0
  have c1 := hb.cell 1
  simp at c0 c1
  have hx : x.toNat < 256 := x.toNat_lt
  clear hp
  unfold rightE
  by_cases h1 : p < 0
  · rw [if_pos (.inl h1)]
    go_enter Try.func27, Try.ntmps27
    go_wp2_with (go_at_call 24; refine (good_yes b _ _ c0 (by omega)).mono ?_; rintro e w' ⟨rfl, rfl⟩)
    go_ret
    exact ⟨rfl, rfl⟩
  by_cases h2 : m < p
  · rw [if_pos (.inr h2)]
    go_enter Try.func27, Try.ntmps27
    go_wp2_with (go_at_call 24; refine (good_yes b _ _ c0 (by omega)).mono ?_; rintro e w' ⟨rfl, rfl⟩)
    go_ret
    exact ⟨rfl, rfl⟩
  rw [if_neg (by omega)]
  by_cases h3 : (levels : Int) ≤ x.toNat
  · rw [if_pos (by simpa using h3)]
    go_enter Try.func27, Try.ntmps27
    go_wp2_with (go_at_call 24; refine (good_yes b _ _ c0 (by omega)).mono ?_; rintro e w' ⟨rfl, rfl⟩)
    go_ret
    exact ⟨rfl, rfl⟩
  · rw [if_neg (by simpa using h3)]
    go_enter Try.func27, Try.ntmps27
    go_wp2_with (go_at_call 24; refine (good_yes b _ _ c0 (by omega)).mono ?_; rintro e w' ⟨rfl, rfl⟩)
    go_ret
    exact ⟨rfl, rfl⟩

end Go.Proofs.Ytlfchokafpodcaa
