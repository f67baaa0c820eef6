/- The contract of asks: a call on both, and all looks. -/
import Derived.Test.YtlfchokafpodcaaChanM
open Go.RowKit Go.Own
namespace Go.Proofs.Ytlfchokafpodcaa

def APost (w : World) (pv qv : Value) (F G : List Nat) (e : Ending) (w' : World) : Prop :=
  e = .returned (.bool true) ∧ ∃ so F' G', PCh w' pv so F' ∧ RCh w' qv so G' ∧ (∀ k, k ∈ F' → k ∉ G') ∧ Fr (F ++ G) w w' ∧ (∀ k, k ∈ F' → k ∈ F ∨ w.heap.size ≤ k) ∧ (∀ k, k ∈ G' → k ∈ G ∨ w.heap.size ≤ k)

set_option maxHeartbeats 1000000 in
theorem asks_put (so : Option CS) (pv qv : Value) (F G S : List Nat) (N : Int) (lev : UInt8) (W : List UInt8) (ao : Option Addr) (n cap : Nat) (w : World) (hp : PCh w pv so F) (hq : RCh w qv so G) (hd : ∀ k, k ∈ F → k ∉ G)
    (hr : Rd w 1 (.slice ao n cap) n (ub W) S) (hSF : ∀ k, k ∈ S → k ∉ F) (hSG : ∀ k, k ∈ S → k ∉ G) (hn : n ≤ 140737488351232) :
    Calls Try.prog 23 #[pv, qv, .agg #[.int .i64 1, .slice ao n cap, .int .i64 N, .int .u8 lev.toNat]] w (APost w pv qv F G) := by
  have hb := Blk.new w 39 [.int .i64 1, .slice ao n cap, .int .i64 N, .int .u8 lev.toNat]
  have hal : Fr [] w (w.alloc (.cells [.int .i64 1, .slice ao n cap, .int .i64 N, .int .u8 lev.toNat].toArray 39)) := (Fr.refl _ _).alloc _
  have hp1 := hp.fr hal (by simp)
  have hq1 := hq.fr hal (by simp)
  have hr1 := hr.fr hal (by simp)
  have hpl := hp.lt
  have hql := hq.lt
  have hsz : (w.alloc (.cells [.int .i64 1, .slice ao n cap, .int .i64 N, .int .u8 lev.toNat].toArray 39)).heap.size = w.heap.size + 1 := by simp
  simp only [List.toArray] at hb hal hp1 hq1 hr1 hsz
  go_enter Try.func23, Try.ntmps23
  go_wp2_with fail
  generalize (w.alloc (.cells #[.int .i64 1, .slice ao n cap, .int .i64 N, .int .u8 lev.toNat] 39)) = w1 at *
  have hll : W.length = n := by simpa using hr.bounds.1
  have hbF : w.heap.size ∉ F := fun h => by have := hpl _ h; omega
  have hbG : w.heap.size ∉ G := fun h => by have := hql _ h; omega
  have c1 := hb.cell 1
  simp at c1
  refine (lent_ok n cap ao W S w1 hr1 hn).mono ?_
  rintro e w2 ⟨xo, xcap, X, rfl, hxc, hox, hX, hf12⟩
  have hw2 := hf12.size
  have hr2 := hr1.fr hf12 (by simp)
  have hrx : Rd w2 1 (.slice xo n xcap) n (ub W) X := by
    have h := rd_take (hox.rd) n (by omega)
    rw [List.take_append_of_le_length (by omega), List.take_of_length_le (by omega)] at h
    exact h
  have hp2 := hp1.fr hf12 (by simp)
  have hq2 := hq1.fr hf12 (by simp)
  have hb2 := hb.fr hf12 (by simp)
  have hXF : ∀ k, k ∈ X → k ∉ F := fun k hk hk2 => by have := hX k hk; have := hpl k hk2; omega
  have hXG : ∀ k, k ∈ X → k ∉ G := fun k hk hk2 => by have := hX k hk; have := hql k hk2; omega
  have hpp := pput so pv F X W n xcap xo w2 hp2 hrx hXF
  generalize hRR : putR so W = R at hpp
  have HR := Lib.hid hRR
  clear hRR
  have hq2' := hq2
  go_wp2_with (go_at_call 12; refine hpp.mono ?_; rintro e w3 ⟨rfl, F', hp3, hf23, hF'⟩; have c1 := (hb2.fr hf23 (by simpa using hbF)).cell 1; simp at c1)
  have hq3 := hq2.fr hf23 (fun k h1 h2 => hd k h2 h1)
  have hr3 := hr2.fr hf23 hSF
  have hox3 := hox.fr hf23 hXF
  have hb3 := hb2.fr hf23 (by simpa using hbF)
  have hF'G : ∀ k, k ∈ F' → k ∉ G := fun k h1 h2 => by
    rcases hF' k h1 with h | h
    · exact hd k h h2
    · have := hql k h2; omega
  have hqq := rput so qv G S W n cap ao w3 hq3 hr3 hSG
  rw [HR.out] at hqq
  refine hqq.mono ?_
  rintro e w4 ⟨rfl, G', hq4, hf34, hG'⟩
  have hF'G' : ∀ k, k ∈ F' → k ∉ G' := fun k h1 h2 => by
    rcases hG' k h2 with h | h
    · exact hF'G k h1 h
    · have := hp3.lt k h1; omega
  have hf24 : Fr (F ++ G) w2 w4 := (hf23.mono (fun _ h => List.mem_append_left _ h)).trans hf34 (fun k h => .inl (by simp [h]))
  have hp4 := hp3.fr hf34 hF'G
  have hr4 := hr2.fr hf24 (fun k h1 h2 => by rcases List.mem_append.1 h2 with h | h; exact hSF k h1 h; exact hSG k h1 h)
  have hox4 := hox.fr hf24 (fun k h1 h2 => by rcases List.mem_append.1 h2 with h | h; exact hXF k h1 h; exact hXG k h1 h)
  have hb4 := hb2.fr hf24 (by simp [hbF, hbG])
  have c1 := hb4.cell 1
  simp at c1
  go_wp2_with (first
    | (go_at_call 10; refine (num_any _ _).mono ?_; rintro e w' ⟨rfl, rfl⟩)
    | (go_at_call 33; refine (stays_ok n xcap cap xo ao W X S w4 hox4 hr4 hn).mono ?_; rintro e w5 ⟨rfl, hf45, hheap⟩))
  have hf25 : Fr (F ++ G) w2 w5 := hf24.trans hf45 (by simp)
  have hox5 := hox4.fr hf45 (by simp)
  have hx5 : Own w5 5 1 (.slice xo n xcap) n (ub W) X := by
    have h := own_take hox5 n (by omega)
    rw [List.take_append_of_le_length (by omega), List.take_of_length_le (by omega)] at h
    exact h
  refine (spoil_ok n xcap xo W X w5 hx5).mono ?_
  rintro e w6 ⟨rfl, hf56⟩
  have hp6 := (hp4.fr hf45 (by simp)).fr hf56 (fun k h1 h2 => by
    rcases hF' k h1 with h | h
    · exact hXF k h2 h
    · have := hox.lt k h2; omega)
  have hq6 := (hq4.fr hf45 (by simp)).fr hf56 (fun k h1 h2 => by
    rcases hG' k h1 with h | h
    · exact hXG k h2 h
    · have := hox.lt k h2; have := hf23.size; omega)
  have hlk := looks_ok R.2.2 pv qv F' G' w6 hp6 hq6
  go_wp2_with (go_at_call 22; refine hlk.mono ?_; rintro e w7 ⟨rfl, hf67⟩)
  go_ret
  refine ⟨rfl, R.2.2, F', G', hp6.fr hf67 (by simp), hq6.fr hf67 (by simp), hF'G', ?_, ?_, ?_⟩
  · exact (((hal.trans hf12 (by simp)).nil.trans hf25 (fun k h => .inl h)).trans hf56 (fun k h => .inr (by have := hX k h; omega))).trans hf67 (by simp)
  · intro k hk
    rcases hF' k hk with h | h
    · exact .inl h
    · exact .inr (by omega)
  · intro k hk
    rcases hG' k hk with h | h
    · exact .inl h
    · have := hf23.size; exact .inr (by omega)

/-! Take. -/
set_option maxHeartbeats 1000000 in
theorem asks_take (so : Option CS) (pv qv : Value) (F G : List Nat) (V : Value) (N : Int) (lev : UInt8) (w : World) (hp : PCh w pv so F) (hq : RCh w qv so G) (hd : ∀ k, k ∈ F → k ∉ G) :
    Calls Try.prog 23 #[pv, qv, .agg #[.int .i64 2, V, .int .i64 N, .int .u8 lev.toNat]] w (APost w pv qv F G) := by
  have hb := Blk.new w 39 [.int .i64 2, V, .int .i64 N, .int .u8 lev.toNat]
  have hal : Fr [] w (w.alloc (.cells [.int .i64 2, V, .int .i64 N, .int .u8 lev.toNat].toArray 39)) := (Fr.refl _ _).alloc _
  have hp1 := hp.fr hal (by simp)
  have hq1 := hq.fr hal (by simp)
  have hpl := hp.lt
  have hql := hq.lt
  have hsz : (w.alloc (.cells [.int .i64 2, V, .int .i64 N, .int .u8 lev.toNat].toArray 39)).heap.size = w.heap.size + 1 := by simp
  simp only [List.toArray] at hb hal hp1 hq1 hsz
  go_enter Try.func23, Try.ntmps23
  go_upto_region 10 with (fail)
  generalize (w.alloc (.cells #[.int .i64 2, V, .int .i64 N, .int .u8 lev.toNat] 39)) = w1 at *
  have hbF : w.heap.size ∉ F := fun h => by have := hpl _ h; omega
  have hbG : w.heap.size ∉ G := fun h => by have := hql _ h; omega
  have c2 := hb.cell 2
  simp at c2
  have hpp := ptake so pv F N w1 hp1
  generalize hRR : takeR so N = R at hpp
  have HR := Lib.hid hRR
  clear hRR
  go_wp2_with (go_at_call 14; refine hpp.mono ?_; rintro e w2 ⟨ao1, cap1, R1, F', rfl, ho1, hR1, hp2, hf12, hF', hd1⟩; have c2 := (hb.fr hf12 (by simpa using hbF)).cell 2; simp at c2)
  have hb2 := hb.fr hf12 (by simpa using hbF)
  have hq2 := hq1.fr hf12 (fun k h1 h2 => hd k h2 h1)
  have hqq := rtake so qv G N w2 hq2
  rw [HR.out] at hqq
  refine hqq.mono ?_
  rintro e w3 ⟨ao2, cap2, R2, G', rfl, ho2, hR2, hq3, hf23, hG', hd2⟩
  have hF'G : ∀ k, k ∈ F' → k ∉ G := fun k h1 h2 => by
    rcases hF' k h1 with h | h
    · exact hd k h h2
    · have := hql k h2; omega
  have hF'G' : ∀ k, k ∈ F' → k ∉ G' := fun k h1 h2 => by
    rcases hG' k h2 with h | h
    · exact hF'G k h1 h
    · have := hp2.lt k h1; omega
  have hR1G : ∀ k, k ∈ R1 → k ∉ G := fun k h1 h2 => by
    have := hR1 k h1; have := hql k h2; omega
  have hR1G' : ∀ k, k ∈ R1 → k ∉ G' := fun k h1 h2 => by
    rcases hG' k h2 with h | h
    · exact hR1G k h1 h
    · have := ho1.lt k h1; omega
  have hp3 := hp2.fr hf23 hF'G
  have ho1' := ho1.fr hf23 hR1G
  have T1 : Sem.run Try.prog (convert 22 9 (.slice ao1 R.1.length cap1)) w3 = .ok (.string ⟨R.1.toArray⟩) w3 := run_text Try.underlying22 Try.underlying5 Try.underlying9 ho1'.rd
  have T2 : Sem.run Try.prog (convert 22 9 (.slice ao2 R.1.length cap2)) w3 = .ok (.string ⟨R.1.toArray⟩) w3 := run_text Try.underlying22 Try.underlying5 Try.underlying9 ho2.rd
  obtain ⟨_, hcc, hcm⟩ := ho1.rd.bounds
  unfold maxLen at hcm
  have hf03 : Fr (F ++ G) w w3 := (hal.nil.trans (hf12.mono (fun _ h => List.mem_append_left _ h)) (fun k h => .inl h)).trans hf23 (fun k h => .inl (List.mem_append_right _ h))
  go_wp2_with (go_at_call 10; refine (num_any _ _).mono ?_; rintro e w' ⟨rfl, rfl⟩)
  go_loopw [17] (fun i wr => ∃ (k : Nat) (xs : List Value), k ≤ R.1.length ∧ i = .int .i64 k ∧ Own wr 5 1 (.slice ao1 R.1.length cap1) R.1.length xs R1 ∧ Fr R1 w3 wr) (fun i _ => R.1.length - (intOf i).toNat)
  case atStart => exact ⟨0, _, by omega, rfl, ho1', Fr.refl _ _⟩
  case round =>
    obtain ⟨k, xs, hk, rfl, ho3, hf3⟩ := hrel
    by_cases hlt : k < R.1.length
    · obtain ⟨rb, ro, rfl, rfl, hrb, hcs⟩ := ho3.rd.addr (by omega)
      obtain ⟨a1, a2, _, _, _, a6⟩ := ho3.at
      have f1 := a2 (ro + k)
      obtain ⟨z, hz⟩ : ∃ z, wr.cell? ⟨rb, ro + k, none⟩ = some z := Option.isSome_iff_exists.1 (a6 k (by omega))
      have hki : (k : Int) < R.1.length := by omega
      clear hcs a1 a2 a6
      go_wp2_with fail
      go_roundw
      case rel => exact ⟨k + 1, _, by omega, by go_num, ho3.set k (by omega) _, hf3.setCell (.inl (by simp)) _⟩
      case measure => simp [intOf]; omega
    · have hp4 := hp3.fr hf3 (fun k h1 h2 => hd1 k h2 h1)
      have hq4 := hq3.fr hf3 (fun k h1 h2 => hR1G' k h2 h1)
      have hlk := looks_ok R.2.2 pv qv F' G' wr hp4 hq4
      clear T1 T2
      go_wp2_with (go_at_call 22; refine hlk.mono ?_; rintro e w7 ⟨rfl, hf67⟩)
      go_ret
      refine ⟨rfl, R.2.2, F', G', hp4.fr hf67 (by simp), hq4.fr hf67 (by simp), hF'G', ?_, ?_, ?_⟩
      · exact (hf03.trans hf3 (fun k h => .inr (by have := hR1 k h; omega))).trans hf67 (by simp)
      · intro k hk
        rcases hF' k hk with h | h
        · exact .inl h
        · exact .inr (by omega)
      · intro k hk
        rcases hG' k hk with h | h
        · exact .inl h
        · have := hf12.size; exact .inr (by omega)

end Go.Proofs.Ytlfchokafpodcaa
