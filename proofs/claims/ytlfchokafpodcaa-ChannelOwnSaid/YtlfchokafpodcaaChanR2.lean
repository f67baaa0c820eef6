/- Contracts of the reference's channel, the second text. -/
import Derived.Test.YtlfchokafpodcaaChanR
open Go.RowKit Go.Own
namespace Go.Proofs.Ytlfchokafpodcaa

set_option maxHeartbeats 1000000 in
theorem rset_ok (b : Nat) (s : CS) (B : List Nat) (p : Nat) (x : UInt8) (w : World) (h : Ch 60 w b s B) (hpl : p < s.l.length) (hx : x.toNat < s.levels) :
    Calls Try.prog 36 #[.pointer (some ⟨b, 0, none⟩), .int .i64 p, .int .u8 x.toNat] w fun e w' => e = .returned (.int .i64 0) ∧ Upd 60 w b B w' (s.set p x) := by
  obtain ⟨room, levels, l, passed⟩ := s
  obtain ⟨⟨lao, lcap, hb, ho⟩, hbB, hroom1, hroom2, hl1, hl2, hlr, hp⟩ := h
  dsimp only at *
  have c1 := hb.cell 1
  have c2 := hb.cell 2
  simp at c1 c2
  obtain ⟨rb, ro, rfl, rfl, hrb, hcs⟩ := ho.rd.addr (by omega)
  obtain ⟨a1, a2, a3, a4, a5, a6⟩ := ho.at
  have r1 : w.cell? ⟨rb, ro + p, none⟩ = some (.int .u8 (l[p].toNat)) := by rw [a1 p (by omega), ub_get l p hpl]
  have r2 := a2 (ro + p)
  have HP := Lib.hid hp
  have hx' : ¬ (levels : Int) ≤ x.toNat := by omega
  have hpl' : (p : Int) < l.length := by omega
  clear a1 a2 a6 hcs hp
  go_enter Try.func36, Try.ntmps36
  go_wp2
  go_ret
  have hne : b ≠ rb := by simpa using hbB
  refine ⟨rfl, [rb], ⟨⟨some ⟨rb, ro, none⟩, lcap, ?_, ?_⟩, hbB, ?_⟩, (Fr.refl _ _).setCell (by simp) _, fun k hk => .inl hk⟩
  · simpa [CS.set] using hb.setCell_other (p := ⟨rb, ro + p, none⟩) hne _
  · have := ho.set p (by omega) (.int .u8 x.toNat)
    have e : (ub l).set p (.int .u8 x.toNat) = ub (l.set p x) := by simp [ub, List.map_set]
    rw [e] at this
    simpa [CS.set] using this
  · have := HP.out; simp [CS.set, CS.ok]; omega

theorem rtake_bad (b : Nat) (n : Int) (w : World) (hn : n < 0) :
    Calls Try.prog 35 #[.pointer (some ⟨b, 0, none⟩), .int .i64 n] w fun e w' => e = .returned (.tuple #[.slice none 0 0, .int .i64 1]) ∧ w = w' := by
  go_enter Try.func35, Try.ntmps35
  go_wp2
  go_ret2
  exact ⟨rfl, rfl⟩

/-- What the reference's Take leaves: the row l, the state s. -/
def TakePost (w : World) (b : Nat) (B : List Nat) (m : Nat) (l : List UInt8) (s : CS) (e : Ending) (w' : World) : Prop :=
  ∃ ao cap R B', e = .returned (.tuple #[.slice ao m cap, .int .i64 0]) ∧
      Own w' 5 1 (.slice ao m cap) m (ub l) R ∧ (∀ k, k ∈ R → w.heap.size ≤ k) ∧ Ch 60 w' b s B' ∧ Fr (b :: B) w w' ∧ (∀ k, k ∈ B' → w.heap.size ≤ k) ∧ (∀ k, k ∈ B' → k ∉ R)

set_option maxHeartbeats 1000000 in
theorem rtake_ok (b : Nat) (s : CS) (B : List Nat) (n : Int) (w : World) (h : Ch 60 w b s B) (hn : 0 ≤ n) (m : Nat) (hm : m = min n.toNat s.l.length) :
    Calls Try.prog 35 #[.pointer (some ⟨b, 0, none⟩), .int .i64 n] w (TakePost w b B m (s.l.take m) (s.take m)) := by
  obtain ⟨i5, hi, hz0, hz1, hz2⟩ := info_parts info5
  obtain ⟨room, levels, l, passed⟩ := s
  obtain ⟨⟨lao, lcap, hb, ho⟩, hbB, hroom1, hroom2, hl1, hl2, hlr, hp⟩ := h
  dsimp only at *
  obtain ⟨hlc, hlm⟩ := (ho.rd.bounds).2
  unfold maxLen at hlm
  have c2 := hb.cell 2
  simp at c2
  have hbl := hb.lt
  have HM := Lib.hid hm
  have hml : m ≤ l.length := by omega
  have hpp : ((passed : Nat) : Int) ≤ 18446744073709551615 := by omega
  have hrd1 : Rd w 1 (.slice lao m lcap) m (ub (l.take m)) B := by
    have := ho.rd.sliced (l := 0) (u := m) (m := lcap) (by omega) hml (by omega) (Nat.le_refl _)
    simp only [sliced, Nat.zero_mul, List.drop_zero, Nat.mul_one, Nat.sub_zero, ← ub_take] at this
    by_cases h0 : lcap = 0
    · simpa [h0] using this
    · simpa [h0, Addr.add] using this
  have hrd2 : Rd w 1 (.slice (if lcap = m then lao else Option.map (fun x => x.add m) lao) (l.length - m) (lcap - m)) (l.length - m) (ub (l.drop m)) B := by
    have := ho.rd.sliced (l := m) (u := l.length) (m := lcap) hml (Nat.le_refl _) hlc (Nat.le_refl _)
    simpa [sliced, ub_drop, List.take_of_length_le] using this
  have a2 : ∀ o, (w.alloc o).cell? ⟨b, 2, none⟩ = some (.slice lao l.length lcap) := fun o => by simpa using (hb.alloc o).cell 2
  clear hm hp
  go_enter Try.func35, Try.ntmps35
  go_upto_region 3 with (fail)
  go_cut [1] (fun v wc => v = .int .i64 m ∧ w = wc)
  case first =>
    go_wp2_with fail
    all_goals
      go_meet
      case rel => exact ⟨by congr 1; have := HM.out; omega, rfl⟩
  case rest =>
    obtain ⟨rfl, rfl⟩ := hcut
    clear hn HM
    go_wp2_with (first | ((with_reducible refine wpList_plain (o := ⟨some 27, _, _, _, _, _⟩) rfl (fun K hK => ?_)); refine wp_append_new (w := w) _ _ 22 (by rfl) 5 i5 (.int .u8 0) 1 1 Try.underlying22 hi hz0 hz1 hz2 (by rfl) (by rfl) ⟨rfl, rfl, rfl, rfl⟩ _ (by rfl) _ _ B hrd1 (ub_one _) (by unfold maxLen; omega) (by omega) (fun ao1 cap1 w1 B1 ho1 hf1 hB1 hs1 => ?_); have hb1 := hb.fr hf1 (by simp); have hr1 := hrd2.fr hf1 (by simp); have d2 := hb1.cell 2; have e2 : ∀ o, (w1.alloc o).cell? ⟨b, 2, none⟩ = some (.slice lao l.length lcap) := (fun o => by simpa using (hb1.alloc o).cell 2); simp at d2; refine hK _ _ ?_; clear hK K) | ((with_reducible refine wpList_plain (o := ⟨some 36, _, _, _, _, _⟩) rfl (fun K hK => ?_)); refine wp_append_new (w := w1) _ _ 22 (by rfl) 5 i5 (.int .u8 0) 1 1 Try.underlying22 hi hz0 hz1 hz2 (by rfl) (by rfl) ⟨rfl, rfl, rfl, rfl⟩ _ (by rfl) _ _ B hr1 (ub_one _) (by unfold maxLen; omega) (by omega) (fun ao2 cap2 w2 B2 ho2 hf2 hB2 hs2 => ?_); have hb2 := hb1.fr hf2 (by simp); have d3 := hb2.cell 3; have e3 := hb2.cell 2; have f2 := hb2.frozen 2; have f3 := hb2.frozen 3; simp at d3 e3; generalize (if lcap = m then lao else Option.map (fun x => x.add m) lao) = dao; refine hK _ _ ?_; clear hK K))
    go_ret2
    rw [u64_add]
    have hb2' := (hb2.setCell 2 (.slice ao2 (l.length - m) cap2)).setCell 3 (.int .u64 (((passed + m) % 18446744073709551616 : Nat) : Int))
    simp only [List.set_cons_succ, List.set_cons_zero] at hb2'
    have hbB2 : b ∉ B2 := fun h => by have := hB2 b h; have := hf1.size; omega
    have hbB1 : b ∉ B1 := fun h => by have := hB1 b h; omega
    have h12 : ∀ k, k ∈ B2 → k ∉ B1 := fun k h h' => by have := hB2 k h; have := ho1.lt k h'; omega
    refine ⟨ao1, cap1, B1, B2, rfl, ((ho1.fr hf2 (by simp)).setCell hbB1 _).setCell hbB1 _, hB1, ⟨⟨ao2, cap2, ?_, ?_⟩, hbB2, ?_⟩, ?_, fun k h => by have := hB2 k h; have := hf1.size; omega, h12⟩
    · simpa only [CS.take, List.length_drop] using hb2'
    · simpa only [CS.take, List.length_drop] using ((ho2.setCell (p := ⟨b, 2, none⟩) hbB2 (.slice ao2 (l.length - m) cap2)).setCell (p := ⟨b, 3, none⟩) hbB2 (.int .u64 (((passed + m) % 18446744073709551616 : Nat) : Int)))
    · simp [CS.take, CS.ok]; omega
    · exact (((hf1.nil (F := b :: B)).trans hf2 (by simp)).setCell (by simp) _).setCell (by simp) _

set_option maxHeartbeats 1000000 in
theorem rslip_ok (b : Nat) (s : CS) (B : List Nat) (p : Nat) (w : World) (h : Ch 60 w b s B) (hpl : p < s.l.length) :
    Calls Try.prog 37 #[.pointer (some ⟨b, 0, none⟩), .int .i64 p] w fun e w' => e = .returned (.int .i64 0) ∧ Upd 60 w b B w' (s.slip p) := by
  obtain ⟨i5, hi, hz0, hz1, hz2⟩ := info_parts info5
  obtain ⟨room, levels, l, passed⟩ := s
  obtain ⟨⟨lao, lcap, hb, ho⟩, hbB, hroom1, hroom2, hl1, hl2, hlr, hp⟩ := h
  dsimp only at *
  have c2 := hb.cell 2
  simp at c2
  have HP := Lib.hid hp
  have hbl := hb.lt
  obtain ⟨hlc, hlm⟩ := (ho.rd.bounds).2
  unfold maxLen at hlm
  have hrd1 := rd_take ho.rd p (by omega)
  have hrd2 := rd_drop ho.rd (p + 1) (by omega)
  have a2 : ∀ o, (w.alloc o).cell? ⟨b, 2, none⟩ = some (.slice lao l.length lcap) := fun o => by simpa using (hb.alloc o).cell 2
  have g1 : (p : Int) < l.length := by omega
  have g2 : (p : Int) + 1 ≤ l.length := by omega
  have g3 : p ≤ l.length := by omega
  have g4 : p ≤ lcap := by omega
  clear hp
  go_enter Try.func37, Try.ntmps37
  go_wp2_with (first
    | ((with_reducible refine wpList_plain (o := ⟨some 26, _, _, _, _, _⟩) rfl (fun K hK => ?_)); refine wp_append_new (w := w) _ _ 22 (by rfl) 5 i5 (.int .u8 0) 1 1 Try.underlying22 hi hz0 hz1 hz2 (by rfl) (by rfl) ⟨rfl, rfl, rfl, rfl⟩ _ (by rfl) _ _ B hrd1 (ub_one _) (by unfold maxLen; omega) (by omega) (fun ao1 cap1 w1 B1 ho1 hf1 hB1 hs1 => ?_); have hb1 := hb.fr hf1 (by simp); have hr1 := hrd2.fr hf1 (by simp); have d2 := hb1.cell 2; simp at d2; refine hK _ _ ?_; clear hK K)
    | ((with_reducible refine wpList_plain (o := ⟨some 36, _, _, _, _, _⟩) rfl (fun K hK => ?_)); refine wp_append_src _ _ 22 (by rfl) 5 i5 (.int .u8 0) 1 1 Try.underlying22 hi hz0 hz1 hz2 (by rfl) _ _ _ _ B1 (by rfl) ho1 _ (by rfl) _ _ B hr1 (ub_one _) (by unfold maxLen; omega) (by omega) (fun ao2 cap2 w2 B2 ho2 hf2 hB2 => ?_); have hbB1 : b ∉ B1 := (fun h => by have := hB1 b h; omega); have hb2 := hb1.fr hf2 hbB1; have e2 := hb2.cell 2; have f2 := hb2.frozen 2; simp at e2; generalize (if lcap = p + 1 then lao else Option.map (fun x => x.add (p + 1)) lao) = dao; refine hK _ _ ?_; clear hK K))
  all_goals
    go_ret
    have hsz := hf1.size
    have hbB2 : b ∉ B2 := fun h => by rcases hB2 b h with h | h; exact hbB1 h; omega
    have hnl : (l.take p ++ l.drop (p + 1)).length = p + (l.length - (p + 1)) := by simp; omega
    refine ⟨rfl, B2, ⟨⟨ao2, cap2, ?_, ?_⟩, hbB2, ?_⟩, ((hf1.nil (F := b :: B)).trans hf2 (fun k hk => .inr (hB1 k hk))).setCell (by simp) _, fun k hk => ?_⟩
    · simp only [CS.slip, hnl]
      exact hb2.setCell 2 _
    · simp only [CS.slip, hnl, ub_append]
      exact ho2.setCell hbB2 _
    · have := HP.out; simp only [CS.slip, CS.ok, hnl]; omega
    · rcases hB2 k hk with h | h
      · exact .inr (hB1 k h)
      · exact .inr (by omega)

theorem rinsert_full (b : Nat) (s : CS) (B : List Nat) (p : Nat) (x : UInt8) (w : World) (h : Ch 60 w b s B) (hpl : p ≤ s.l.length) (hx : x.toNat < s.levels) (hf : s.room ≤ s.l.length) :
    Calls Try.prog 38 #[.pointer (some ⟨b, 0, none⟩), .int .i64 p, .int .u8 x.toNat] w fun e w' => e = .returned (.int .i64 2) ∧ Upd 60 w b B w' s := by
  have h' := h
  obtain ⟨room, levels, l, passed⟩ := s
  obtain ⟨⟨lao, lcap, hb, ho⟩, hbB, hroom1, hroom2, hl1, hl2, hlr, hp⟩ := h
  dsimp only at *
  have c0 := hb.cell 0
  have c1 := hb.cell 1
  have c2 := hb.cell 2
  simp at c0 c1 c2
  have hf' : (room : Int) ≤ l.length := by omega
  have hx' : ¬ (levels : Int) ≤ x.toNat := by omega
  have g1 : ¬ (l.length : Int) < p := by omega
  clear hp
  go_enter Try.func38, Try.ntmps38
  go_wp2_with fail
  go_quiet (fail)
  go_wp2_with fail
  go_ret
  exact ⟨rfl, B, h'.1.elim fun ao h => h.elim fun cap h => ⟨⟨ao, cap, h.1.drewN _, h.2.drewN _⟩, h'.2⟩, (Fr.refl _ _).drewN _, fun k hk => .inl hk⟩

set_option maxHeartbeats 1000000 in
theorem rinsert_ok (b : Nat) (s : CS) (B : List Nat) (p : Nat) (x : UInt8) (w : World) (h : Ch 60 w b s B) (hpl : p ≤ s.l.length) (hx : x.toNat < s.levels) (hf : s.l.length < s.room) :
    Calls Try.prog 38 #[.pointer (some ⟨b, 0, none⟩), .int .i64 p, .int .u8 x.toNat] w fun e w' => e = .returned (.int .i64 0) ∧ Upd 60 w b B w' (s.insert p x) := by
  obtain ⟨i5, hi, hz0, hz1, hz2⟩ := info_parts info5
  obtain ⟨room, levels, l, passed⟩ := s
  obtain ⟨⟨lao, lcap, hb, ho⟩, hbB, hroom1, hroom2, hl1, hl2, hlr, hp⟩ := h
  dsimp only at *
  have c0 := hb.cell 0
  have c1 := hb.cell 1
  have c2 := hb.cell 2
  simp at c0 c1 c2
  have hf' : ¬ (room : Int) ≤ l.length := by omega
  have hx' : ¬ (levels : Int) ≤ x.toNat := by omega
  have g1 : ¬ (l.length : Int) < p := by omega
  have HP := Lib.hid hp
  have hbl := hb.lt
  obtain ⟨hlc, hlm⟩ := (ho.rd.bounds).2
  unfold maxLen at hlm
  have hrd1 := rd_take ho.rd p (by omega)
  have hrd2 := rd_drop ho.rd p (by omega)
  have a2 : ∀ n o, ((w.drewN n).alloc o).cell? ⟨b, 2, none⟩ = some (.slice lao l.length lcap) := fun n o => by simpa using ((hb.drewN n).alloc o).cell 2
  have g4 : p ≤ lcap := by omega
  clear hp
  go_enter Try.func38, Try.ntmps38
  go_wp2_with fail
  go_quiet (fail)
  go_wp2_with (first
    | ((with_reducible refine wpList_plain (o := ⟨some 45, _, _, _, _, _⟩) rfl (fun K hK => ?_)); refine wp_append_new (w := w.drewN nq) _ _ 22 (by rfl) 5 i5 (.int .u8 0) 1 1 Try.underlying22 hi hz0 hz1 hz2 (by rfl) (by rfl) ⟨rfl, rfl, rfl, rfl⟩ _ (by rfl) _ _ B (hrd1.fr (F := []) ((Fr.refl _ _).drewN nq) (by simp)) (ub_one _) (by unfold maxLen; omega) (by omega) (fun ao1 cap1 w1 B1 ho1 hf1 hB1 hs1 => ?_); have hf1a := hf1.of_drewN; have hb1 := hb.fr hf1a (by simp); have hr1 := hrd2.fr hf1a (by simp); refine hK _ _ ?_; clear hK K)
    | ((with_reducible refine wpList_plain (o := ⟨some 49, _, _, _, _, _⟩) rfl (fun K hK => ?_)); refine wp_append_one (w := w1) _ _ 22 (by rfl) 5 i5 (.int .u8 0) 1 1 Try.underlying22 hi hz0 hz1 hz2 (by rfl) _ _ _ _ B1 (by rfl) ho1 [_] (by rfl) ⟨rfl, rfl, rfl, rfl⟩ (by rfl) (by simp [Value.oneCell']) (by unfold maxLen; omega) (by omega) (fun ao2 cap2 w2 B2 ho2 hf2 hB2 => ?_); have hbB1 : b ∉ B1 := (fun h => by have := hB1 b h; simp at this; omega); have hb2 := hb1.fr hf2 hbB1; have e2 := hb2.cell 2; have hBB1 : ∀ k, k ∈ B → k ∉ B1 := (fun k hk hk2 => by have h1 := ho.lt k hk; have h2 := hB1 k hk2; simp at h2; omega); have hr2 := hr1.fr hf2 hBB1; simp at e2; refine hK _ _ ?_; clear hK K)
    | ((with_reducible refine wpList_plain (o := ⟨some 58, _, _, _, _, _⟩) rfl (fun K hK => ?_)); refine wp_append_src _ _ 22 (by rfl) 5 i5 (.int .u8 0) 1 1 Try.underlying22 hi hz0 hz1 hz2 (by rfl) _ _ _ _ B2 (by rfl) ho2 _ (by rfl) _ _ B hr2 (ub_one _) (by unfold maxLen; omega) (by omega) (fun ao3 cap3 w3 B3 ho3 hf3 hB3 => ?_); have hs1a := hf1a.size; have hs2a := hf2.size; have hbB2 : b ∉ B2 := (fun h => by rcases hB2 b h with h | h; exact hbB1 h; omega); have hb3 := hb2.fr hf3 hbB2; have k2 := hb3.cell 2; have f2 := hb3.frozen 2; simp at k2; generalize (if lcap = p then lao else Option.map (fun x => x.add p) lao) = dao; refine hK _ _ ?_; clear hK K))
  go_ret
  have hbB3 : b ∉ B3 := fun h => by rcases hB3 b h with h | h; exact hbB2 h; have := hf2.size; omega
  have hnl : (l.take p ++ x :: l.drop p).length = p + 1 + (l.length - p) := by simp; omega
  refine ⟨rfl, B3, ⟨⟨ao3, cap3, ?_, ?_⟩, hbB3, ?_⟩, ?_, ?_⟩
  · simp only [CS.insert, hnl]
    exact hb3.setCell 2 _
  · simp only [CS.insert, hnl]
    have e : ub (l.take p ++ x :: l.drop p) = ub (l.take p) ++ [.int .u8 x.toNat] ++ ub (l.drop p) := by simp [ub]
    rw [e]
    exact ho3.setCell hbB3 _
  · have := HP.out; simp only [CS.insert, CS.ok, hnl]; omega
  · refine (((hf1a.nil (F := b :: B)).trans hf2 (fun k hk => .inr (by simpa using hB1 k hk))).trans hf3 (fun k hk => ?_)).setCell (by simp) _
    rcases hB2 k hk with h | h
    · exact .inr (by simpa using hB1 k h)
    · exact .inr (by omega)
  · intro k hk
    rcases hB3 k hk with h | h
    · rcases hB2 k h with h | h
      · exact .inr (by simpa using hB1 k h)
      · exact .inr (by omega)
    · exact .inr (by omega)

end Go.Proofs.Ytlfchokafpodcaa
