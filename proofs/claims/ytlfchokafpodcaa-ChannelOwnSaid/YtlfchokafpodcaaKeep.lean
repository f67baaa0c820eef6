/- Contracts of the functions of outpostlaw01: rows that are lent, kept, spoiled. -/
import Derived.Test.YtlfchokafpodcaaProg
import Derived.Test.YtlfchokafpodcaaOwn2
import Derived.Test.YtlfchokafpodcaaRegion
import Derived.Lib.Hide
open Go.RowKit Go.Own
namespace Go.Proofs.Ytlfchokafpodcaa

theorem kinfo5 : (Try.prog.info? 5).map (fun i => (i.zero, i.size, i.bytes)) = some (some (.int .u8 0), 1, 1) := by kernel_rfl

/-- The marks behind a lent row. -/
def marks (k : Nat) : List UInt8 := (List.range k).map fun i => UInt8.ofNat (200 + i)

theorem marks_succ (k : Nat) : marks (k + 1) = marks k ++ [UInt8.ofNat (200 + k)] := by simp [marks, List.range_succ]
theorem marks_length (k : Nat) : (marks k).length = k := by simp [marks]

/-- What Lent leaves. -/
def LentPost (w : World) (n : Nat) (l : List UInt8) (e : Ending) (w' : World) : Prop :=
  ∃ ao cap B, e = .returned (.slice ao n cap) ∧ n + 8 ≤ cap ∧ Own w' 5 1 (.slice ao (n + 8) cap) (n + 8) (ub (l ++ marks 8)) B ∧ (∀ k, k ∈ B → w.heap.size ≤ k) ∧ Fr [] w w'

set_option maxHeartbeats 1000000 in
theorem lent_ok (n cap : Nat) (ao : Option Addr) (l : List UInt8) (S : List Nat) (w : World) (hr : Rd w 1 (.slice ao n cap) n (ub l) S) (hn : n ≤ 140737488351232) :
    Calls Try.prog 31 #[.slice ao n cap] w (LentPost w n l) := by
  obtain ⟨i5, hi, hz0, hz1, hz2⟩ := info_parts kinfo5
  obtain ⟨hlen, hnc, hcm⟩ := hr.bounds
  have hll : l.length = n := by simpa using hlen
  go_enter Try.func31, Try.ntmps31
  go_wp2_with ((with_reducible refine wpList_plain (o := ⟨some 7, _, _, _, _, _⟩) rfl (fun K hK => ?_)); refine wp_append_new (w := w) _ _ 22 (by rfl) 5 i5 (.int .u8 0) 1 1 Try.underlying22 hi hz0 hz1 hz2 (by rfl) (by rfl) ⟨rfl, rfl, rfl, rfl⟩ _ (by rfl) _ _ S hr (ub_one l) (by unfold maxLen; omega) (by omega) (fun ao1 cap1 w1 B1 ho1 hf1 hB1 hs1 => ?_); refine hK _ _ ?_; clear hK K)
  go_loopw [3, 4] (fun v i wr => ∃ (k : Nat) (ao : Option Addr) (cap : Nat) (B : List Nat), k ≤ 8 ∧ i = .int .i64 k ∧ v = .slice ao (n + k) cap ∧ Own wr 5 1 (.slice ao (n + k) cap) (n + k) (ub (l ++ marks k)) B ∧ (∀ k, k ∈ B → w.heap.size ≤ k) ∧ Fr [] w wr) (fun _ i _ => 8 - (intOf i).toNat)
  case atStart => exact ⟨0, ao1, cap1, B1, by omega, rfl, rfl, by simpa [marks] using ho1, hB1, hf1⟩
  case round =>
    clear ho1 hf1 hB1 hs1
    obtain ⟨k, ao2, cap2, B2, hk, rfl, rfl, ho2, hB2, hf2⟩ := hrel
    obtain ⟨_, hc2, hm2⟩ := ho2.rd.bounds
    unfold maxLen at hm2
    by_cases hlt : k < 8
    · have hX : IntKind.u8.wrap (200 + (k : Int)) = (UInt8.ofNat (200 + k)).toNat := by
        simp [IntKind.wrap, IntKind.bits, IntKind.signed]
      have hki : (k : Int) < 8 := by omega
      go_wp2_with ((with_reducible refine wpList_plain (o := ⟨some 17, _, _, _, _, _⟩) rfl (fun K hK => ?_)); (try rw [hX]); refine wp_append_one (w := wr) _ _ 22 (by rfl) 5 i5 (.int .u8 0) 1 1 Try.underlying22 hi hz0 hz1 hz2 (by rfl) _ _ _ _ B2 (by rfl) ho2 [_] (by rfl) ⟨rfl, rfl, rfl, rfl⟩ (by rfl) (by simp [Value.oneCell']) (by unfold maxLen; omega) (by omega) (fun ao3 cap3 w3 B3 ho3 hf3 hB3 => ?_); refine hK _ _ ?_; clear hK K)
      go_roundw
      case rel =>
        refine ⟨k + 1, ao3, cap3, B3, by omega, by go_num, rfl, ?_, ?_, hf2.trans hf3 (fun y hy => .inr (hB2 y hy))⟩
        · rw [marks_succ, ← List.append_assoc, ub_append]
          exact ho3
        · intro y hy
          rcases hB3 y hy with h | h
          · exact hB2 y h
          · have := hf2.size; omega
      case measure => simp [intOf]; omega
    · obtain rfl : k = 8 := by omega
      have g1 : n ≤ cap2 := by omega
      go_wp2_with fail
      all_goals
        go_ret
        exact ⟨ao2, cap2, B2, by simp, by omega, ho2, hB2, hf2⟩

set_option maxHeartbeats 1000000 in
theorem stays_ok (n cap cap2 : Nat) (ao ao2 : Option Addr) (l : List UInt8) (B S : List Nat) (w : World) (ho : Own w 5 1 (.slice ao (n + 8) cap) (n + 8) (ub (l ++ marks 8)) B) (hr : Rd w 1 (.slice ao2 n cap2) n (ub l) S) (hn : n ≤ 140737488351232) :
    Calls Try.prog 33 #[.slice ao n cap, .slice ao2 n cap2] w fun e w' => e = .returned (.bool true) ∧ Fr [] w w' ∧ w.heap = w'.heap := by
  obtain ⟨hlen, hnc, hcm⟩ := hr.bounds
  have hll : l.length = n := by simpa using hlen
  obtain ⟨_, hc2, hm2⟩ := ho.rd.bounds
  obtain ⟨rb, ro, rfl, rfl, hrb, hcs⟩ := ho.rd.addr (by omega)
  unfold maxLen at hm2
  go_enter Try.func33, Try.ntmps33
  go_wp2
  go_loop [6] (fun i => ∃ k : Nat, k ≤ 8 ∧ i = .int .i64 k) (fun i => 8 - (intOf i).toNat)
  case atStart => exact ⟨0, by omega, rfl⟩
  case round =>
    obtain ⟨k, hk, rfl⟩ := hrel
    by_cases hlt : k < 8
    · have hc : w.cell? ⟨rb, ro + (n + k), none⟩ = some (.int .u8 ((UInt8.ofNat (200 + k)).toNat : Int)) := by
        rw [hcs (n + k) (by omega), ub_append, List.getElem?_append_right (by simp; omega)]
        simp [ub, marks, hll, hlt]
      have hX : IntKind.u8.wrap (200 + (k : Int)) = (UInt8.ofNat (200 + k)).toNat := by
        simp [IntKind.wrap, IntKind.bits, IntKind.signed]
      have hki : (k : Int) < 8 := by omega
      have hnk : (n : Int) + k < n + 8 := by omega
      clear hcs
      go_wp2_with fail
      go_round
      case rel => exact ⟨k + 1, by omega, by go_num⟩
      case measure => simp [intOf]; omega
    · have hr1 : Rd w 1 (.slice (some ⟨rb, ro, none⟩) n cap) n (ub l) [rb] := by
        have := rd_take (ho.rd) n (by omega)
        rw [List.take_append_of_le_length (by omega), List.take_of_length_le (by omega)] at this
        obtain ⟨_, _, _, _, hB, _⟩ := ho.at
        rw [hB] at this
        exact this
      have T1 : ∀ q, Sem.run Try.prog (convert 22 9 (.slice (some ⟨rb, ro, none⟩) n cap)) (w.drewN q) = .ok (.string ⟨l.toArray⟩) (w.drewN q) :=
        fun q => run_text Try.underlying22 Try.underlying5 Try.underlying9 (hr1.fr (F := []) ((Fr.refl _ _).drewN q) (by simp))
      have T2 : ∀ q, Sem.run Try.prog (convert 22 9 (.slice ao2 n cap2)) (w.drewN q) = .ok (.string ⟨l.toArray⟩) (w.drewN q) :=
        fun q => run_text Try.underlying22 Try.underlying5 Try.underlying9 (hr.fr (F := []) ((Fr.refl _ _).drewN q) (by simp))
      go_wp2_with fail
      go_quiet (fail)
      go_wp2_with fail
      go_ret
      exact ⟨rfl, (Fr.refl _ _).drewN nq, rfl⟩

/-- Spoil writes in the row alone. -/
theorem spoil_ok (n cap : Nat) (ao : Option Addr) (l : List UInt8) (B : List Nat) (w : World) (ho : Own w 5 1 (.slice ao n cap) n (ub l) B) :
    Calls Try.prog 34 #[.slice ao n cap] w fun e w' => e = .returned (.tuple #[]) ∧ Fr B w w' := by
  obtain ⟨hlen, hnc, hcm⟩ := ho.rd.bounds
  have hll : l.length = n := by simpa using hlen
  unfold maxLen at hcm
  go_enter Try.func34, Try.ntmps34
  go_wp2
  go_loopw [2] (fun i wr => ∃ (k : Nat) (xs : List Value), k ≤ n ∧ i = .int .i64 k ∧ Own wr 5 1 (.slice ao n cap) n xs B ∧ (∀ j, k ≤ j → xs[j]? = (ub l)[j]?) ∧ Fr B w wr) (fun i _ => n - (intOf i).toNat)
  case atStart => exact ⟨0, _, by omega, rfl, ho, fun _ _ => rfl, Fr.refl _ _⟩
  case round =>
    obtain ⟨k, xs, hk, rfl, ho1, hx, hf⟩ := hrel
    by_cases hlt : k < n
    · obtain ⟨rb, ro, rfl, rfl, hrb, hcs⟩ := ho1.rd.addr (by omega)
      obtain ⟨a1, a2, _⟩ := ho1.at
      have f1 := a2 (ro + k)
      have hc : wr.cell? ⟨rb, ro + k, none⟩ = some (.int .u8 ((l[k]'(by omega)).toNat : Int)) := by
        rw [hcs k (by omega), hx k (Nat.le_refl _), ub_get l k (by omega)]
      generalize (l[k]'(by omega)).toNat = c at hc
      have HX := Lib.hid hx
      have hki : (k : Int) < n := by omega
      clear hcs a1 a2 hx
      go_wp2_with fail
      go_roundw
      case rel =>
        refine ⟨k + 1, _, by omega, by go_num, ho1.set k (by omega) _, fun j hj => ?_, hf.setCell (by simp) _⟩
        rw [List.getElem?_set_ne (by omega)]
        exact HX.out j (by omega)
      case measure => simp [intOf]; omega
    · go_wp2_with fail
      go_end0
      exact ⟨rfl, hf⟩

end Go.Proofs.Ytlfchokafpodcaa
