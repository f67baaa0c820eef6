/- Contracts: a message is taken, sent, let go (live). -/
import Derived.Test.YtjnjbmkkfkdhcaaSeK
open Go.RowKit Go.Own
namespace Go.Proofs.Ytjnjbmkkfkdhcaa

theorem slot_yes (b : Nat) (S : SS) (hSI : SI S) (hr : ready (tickS S) = true) (w : World) (L : List Asn) (h : Hold w (snA b S :: L)) :
    Calls Try.prog 12 #[.pointer (some ⟨b, 0, none⟩)] w fun e w' =>
      ∃ (x : List UInt8) (ao : Option Addr) (cap : Nat), S.L[(tickS S).next - S.base]? = some x ∧ x.length ≤ 64 ∧ e = .returned (.tuple #[.agg #[.int .i64 2, .int .u32 (tickS S).next, .int .u32 0, .slice ao x.length cap], .bool true]) ∧ Hold w' (rowA 5 1 ao x.length cap (ub x) :: snA b (slotS S) :: L) := by
  refine (slot_ok b S hSI w L h).mono ?_
  rintro e w' (⟨-, h⟩ | ⟨h, -⟩)
  · exact h
  · rw [hr] at h; cases h
theorem slot_no (b : Nat) (S : SS) (hSI : SI S) (hr : ready (tickS S) = false) (w : World) (L : List Asn) (h : Hold w (snA b S :: L)) :
    Calls Try.prog 12 #[.pointer (some ⟨b, 0, none⟩)] w fun e w' =>
      e = .returned (.tuple #[.agg #[.int .i64 0, .int .u32 0, .int .u32 0, .slice none 0 0], .bool false]) ∧ Hold w' (snA b (slotS S) :: L) := by
  refine (slot_ok b S hSI w L h).mono ?_
  rintro e w' (⟨h, -⟩ | ⟨-, h⟩)
  · rw [hr] at h; cases h
  · exact h

def l0 : SS := newS 2 3 4 0
def l1 : SS := addS l0 [5]
def l2 : SS := slotS l1
def l3 : SS := ackS l2 1
theorem li0 : SI l0 := SI.new (by decide) (by decide) (by decide) (by decide) (by decide) (by decide)
theorem li1 : SI l1 := li0.add (x := [5]) (by decide)
theorem li2 : SI l2 := li1.slot
theorem li3 : SI l3 := li2.ack 1

set_option maxHeartbeats 1000000 in
set_option maxRecDepth 20000 in
theorem live_ok (w : World) (L : List Asn) (h : Hold w L) : Calls Try.prog 9 #[] w fun e w' => e = .returned (.bool true) ∧ Hold w' L := by
  have P0 := new_good 2 3 4 0 (by unfold fitsN; omega) w L h
  have P1 := fun b q w L h => send_good b l0 li0 [5] (cellsA q 5 [.int .u8 5]) (some ⟨q, 0, none⟩) 1 1 (cells_reads 5 q 1 1 _ (by rfl) (by unfold maxLen; omega)) (by decide) w L h
  have P2 := fun b w L h => slot_yes b l1 li1 (by decide) w L h
  have P3 := fun b w L h => ack_ok b l2 li2 1 w L h
  have P4 := fun b w L h => slot_no b l3 li3 (by decide) w L h
  have P5 := fun b w L h => base_ok b (slotS l3) li3.slot w L h
  have e1 : l0.fin = 0 := rfl
  have e3 : (tickS l1).next = 0 := by decide
  have e4 : ackN l2 1 = 1 := by decide
  have e6 : (slotS l3).base = 1 := by decide
  have e7 : l1.L[0 - l1.base]? = some [5] := by decide
  rw [e1] at P1
  rw [e3, e7] at P2
  rw [e4] at P3
  rw [e6] at P5
  clear e1 e3 e4 e6 e7
  go_enter Try.func9, Try.ntmps9
  go_upto_region 4 with (first
    | (go_at_call 7; refine P0.mono ?_; rintro e w1 ⟨b, rfl, h1⟩)
    | (go_at_call 8; refine (num_any _ _).mono ?_; rintro e w2 ⟨rfl, rfl⟩))
  have hB := (h1.box 5 [.int .u8 5]).mv 1
  (try dsimp only [Go.Own.front, Go.Own.arrA, Go.Own.atA, Go.Own.dropA, List.length_cons, List.length_nil, Nat.zero_add, Nat.reduceAdd] at hB)
  go_upto_region 5 with (go_at_call 10; refine (P1 b _ _ _ hB).mono ?_; rintro e w2 ⟨rfl, h2⟩)
  have h2 := (h2.mv 1).drop
  clear hB h1 P0 P1
  go_upto_region 6 with (go_at_call 12; refine (P2 b _ _ h2).mono ?_; rintro e w3 ⟨x, ao, cap, hx, -, rfl, h3⟩; cases hx)
  clear h2 P2
  obtain ⟨q5, hq5⟩ : ∃ q, w3.heap.size = q := ⟨_, rfl⟩
  have h4 := h3.box 39 [.int .i64 2, .int .u32 0, .int .u32 0, .slice ao 1 cap]
  simp only [hq5] at h4 ⊢
  refine gen_world h4 (fun w4 h4 => ?_)
  clear h3 hq5
  have h5 := h4.mv 2
  (try dsimp only [Go.Own.front, Go.Own.arrA, Go.Own.atA, Go.Own.dropA, List.length_cons, List.length_nil, Nat.zero_add, Nat.reduceAdd] at h5)
  go_upto_region 7 with (go_at_call 13; refine (P3 b _ _ h5).mono ?_; rintro e w5 ⟨rfl, h6⟩)
  clear h4 h5 P3
  go_upto_region 8 with (go_at_call 12; refine (P4 b _ _ h6).mono ?_; rintro e w6 ⟨rfl, h7⟩)
  clear h6 P4
  have h8 := h7.box 39 [.int .i64 0, .int .u32 0, .int .u32 0, .slice none 0 0]
  obtain ⟨q8, hq8⟩ : ∃ q, w6.heap.size = q := ⟨_, rfl⟩
  simp only [hq8] at h8 ⊢
  refine gen_world h8 (fun w7 h8 => ?_)
  clear h7 hq8
  have h9 := h8.mv 2
  (try dsimp only [Go.Own.front, Go.Own.arrA, Go.Own.atA, Go.Own.dropA, List.length_cons, List.length_nil, Nat.zero_add, Nat.reduceAdd] at h9)
  have g0 : w7.cell? ⟨q5, 0, none⟩ = some (.int .i64 2) := h9.cell 0
  have g1 : w7.cell? ⟨q5, 1, none⟩ = some (.int .u32 0) := h9.cell 1
  have g3 : w7.cell? ⟨q5, 3, none⟩ = some (.slice ao 1 cap) := h9.cell 3
  have h10 := h8.mv 1
  (try dsimp only [Go.Own.front, Go.Own.arrA, Go.Own.atA, Go.Own.dropA, List.length_cons, List.length_nil, Nat.zero_add, Nat.reduceAdd] at h10)
  obtain ⟨SR, hRd⟩ := (h9.mv 3).rd
  have t1 := run_text Try.underlying32 Try.underlying5 Try.underlying9 hRd
  go_wp2_with (first
    | (go_at_call 8; refine (num_any _ _).mono ?_; rintro e w8 ⟨rfl, rfl⟩)
    | (go_at_call 14; refine (P5 b _ _ h10).mono ?_; rintro e w8 ⟨rfl, rfl⟩))
  go_ret
  exact ⟨rfl, h10.drop.drop.drop.drop⟩

end Go.Proofs.Ytjnjbmkkfkdhcaa
