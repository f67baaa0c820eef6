/- Contracts of package channel's functions, the third text: Set, Slip, Insert. -/
import Derived.Test.YtlfchokafpodcaaChanP2
open Go.RowKit Go.Own
namespace Go.Proofs.Ytlfchokafpodcaa

theorem set_mid (A C : List Value) (d v : Value) (n : Nat) (h : A.length = n) : (A ++ [d] ++ C).set n v = A ++ v :: C := by subst h; simp

theorem set_no (pv : Value) (p : Int) (x : UInt8) (w : World) (h : ChN w pv) : Calls Try.prog 18 #[pv, .int .i64 p, .int .u8 x.toNat] w fun e w' => e = .returned (.int .i64 1) ∧ w = w' := by
  go_enter Try.func18, Try.ntmps18
  go_wp2_with (first
    | (go_at_call 16; refine (len_no _ _ h).mono ?_; rintro e w' ⟨rfl, rfl⟩)
    | (go_at_call 27; refine (right_no _ _ _ _ _ h).mono ?_; rintro e w' ⟨rfl, rfl⟩))
  go_ret
  exact ⟨rfl, rfl⟩

theorem slip_no (pv : Value) (p : Int) (w : World) (h : ChN w pv) : Calls Try.prog 19 #[pv, .int .i64 p] w fun e w' => e = .returned (.int .i64 1) ∧ w = w' := by
  have hr := right_no pv p (-1) 0 w h
  simp at hr
  go_enter Try.func19, Try.ntmps19
  go_wp2_with (first
    | (go_at_call 16; refine (len_no _ _ h).mono ?_; rintro e w' ⟨rfl, rfl⟩)
    | (go_at_call 27; refine hr.mono ?_; rintro e w' ⟨rfl, rfl⟩))
  go_ret
  exact ⟨rfl, rfl⟩

theorem insert_no (pv : Value) (p : Int) (x : UInt8) (w : World) (h : ChN w pv) : Calls Try.prog 20 #[pv, .int .i64 p, .int .u8 x.toNat] w fun e w' => e = .returned (.int .i64 1) ∧ w = w' := by
  go_enter Try.func20, Try.ntmps20
  go_wp2_with (first
    | (go_at_call 16; refine (len_no _ _ h).mono ?_; rintro e w' ⟨rfl, rfl⟩)
    | (go_at_call 27; refine (right_no _ _ _ _ _ h).mono ?_; rintro e w' ⟨rfl, rfl⟩))
  go_ret
  exact ⟨rfl, rfl⟩

theorem set_err (b : Nat) (s : CS) (B : List Nat) (p : Int) (x : UInt8) (w : World) (h : Ch 53 w b s B) (he : (rightE s p (s.l.length - 1) x == 0) = false) :
    Calls Try.prog 18 #[.pointer (some ⟨b, 0, none⟩), .int .i64 p, .int .u8 x.toNat] w fun e w' => e = .returned (.int .i64 (rightE s p (s.l.length - 1) x)) ∧ w = w' := by
  have hlen := len_ok b s B w h
  have hright := right_ok b s B p (s.l.length - 1) x w h
  have hl : s.l.length ≤ 65536 := by have := h.2.2; unfold CS.ok at this; omega
  generalize rightE s p (s.l.length - 1) x = r at *
  have he' : (!(r == 0)) = true := by simp [he]
  generalize s.l.length = n at *
  clear h
  go_enter Try.func18, Try.ntmps18
  go_wp2_with (first
    | (go_at_call 16; refine hlen.mono ?_; rintro e w' ⟨rfl, rfl⟩)
    | (go_at_call 27; refine hright.mono ?_; rintro e w' ⟨rfl, rfl⟩))
  go_ret
  exact ⟨rfl, rfl⟩

theorem slip_err (b : Nat) (s : CS) (B : List Nat) (p : Int) (w : World) (h : Ch 53 w b s B) (he : (rightE s p (s.l.length - 1) 0 == 0) = false) :
    Calls Try.prog 19 #[.pointer (some ⟨b, 0, none⟩), .int .i64 p] w fun e w' => e = .returned (.int .i64 (rightE s p (s.l.length - 1) 0)) ∧ w = w' := by
  have hlen := len_ok b s B w h
  have hright := right_ok b s B p (s.l.length - 1) 0 w h
  rw [show (((0 : UInt8).toNat : Nat) : Int) = 0 from rfl] at hright
  have hl : s.l.length ≤ 65536 := by have := h.2.2; unfold CS.ok at this; omega
  generalize rightE s p (s.l.length - 1) 0 = r at *
  have he' : (!(r == 0)) = true := by simp [he]
  generalize s.l.length = n at *
  clear h
  go_enter Try.func19, Try.ntmps19
  go_wp2_with (first
    | (go_at_call 16; refine hlen.mono ?_; rintro e w' ⟨rfl, rfl⟩)
    | (go_at_call 27; refine hright.mono ?_; rintro e w' ⟨rfl, rfl⟩))
  go_ret
  exact ⟨rfl, rfl⟩

theorem insert_err (b : Nat) (s : CS) (B : List Nat) (p : Int) (x : UInt8) (w : World) (h : Ch 53 w b s B) (he : (rightE s p s.l.length x == 0) = false) :
    Calls Try.prog 20 #[.pointer (some ⟨b, 0, none⟩), .int .i64 p, .int .u8 x.toNat] w fun e w' => e = .returned (.int .i64 (rightE s p s.l.length x)) ∧ w = w' := by
  have hlen := len_ok b s B w h
  have hright := right_ok b s B p s.l.length x w h
  have hl : s.l.length ≤ 65536 := by have := h.2.2; unfold CS.ok at this; omega
  generalize rightE s p s.l.length x = r at *
  have he' : (!(r == 0)) = true := by simp [he]
  generalize s.l.length = n at *
  clear h
  go_enter Try.func20, Try.ntmps20
  go_wp2_with (first
    | (go_at_call 16; refine hlen.mono ?_; rintro e w' ⟨rfl, rfl⟩)
    | (go_at_call 27; refine hright.mono ?_; rintro e w' ⟨rfl, rfl⟩))
  go_ret
  exact ⟨rfl, rfl⟩

theorem insert_full (b : Nat) (s : CS) (B : List Nat) (p : Int) (x : UInt8) (w : World) (h : Ch 53 w b s B) (he : rightE s p s.l.length x = 0) (hf : s.room ≤ s.l.length) :
    Calls Try.prog 20 #[.pointer (some ⟨b, 0, none⟩), .int .i64 p, .int .u8 x.toNat] w fun e w' => e = .returned (.int .i64 2) ∧ Upd 53 w b B w' s := by
  have hlen := len_ok b s B w h
  have hright := right_ok b s B p s.l.length x w h
  have h' := h
  rw [he] at hright
  clear he
  obtain ⟨room, levels, l, passed⟩ := s
  obtain ⟨⟨lao, lcap, hb, ho⟩, hbB, hroom1, hroom2, hl1, hl2, hlr, hp⟩ := h
  dsimp only at *
  have c0 := hb.cell 0
  have c2 := hb.cell 2
  simp at c0 c2
  have hf' : (room : Int) ≤ l.length := by omega
  clear hp
  go_enter Try.func20, Try.ntmps20
  go_wp2_with (first
    | (go_at_call 16; refine hlen.mono ?_; rintro e w' ⟨rfl, rfl⟩)
    | (go_at_call 27; refine hright.mono ?_; rintro e w' ⟨rfl, rfl⟩))
  go_quiet (fail)
  go_wp2_with fail
  go_ret
  exact ⟨rfl, B, h'.1.elim fun ao h => h.elim fun cap h => ⟨⟨ao, cap, h.1.drewN _, h.2.drewN _⟩, h'.2⟩, (Fr.refl _ _).drewN _, fun k hk => .inl hk⟩

set_option maxHeartbeats 1000000 in
theorem set_ok (b : Nat) (s : CS) (B : List Nat) (p : Nat) (x : UInt8) (w : World) (h : Ch 53 w b s B) (he : rightE s p (s.l.length - 1) x = 0) (hpl : p < s.l.length) :
    Calls Try.prog 18 #[.pointer (some ⟨b, 0, none⟩), .int .i64 p, .int .u8 x.toNat] w fun e w' => e = .returned (.int .i64 0) ∧ Upd 53 w b B w' (s.set p x) := by
  have hlen := len_ok b s B w h
  have hright := right_ok b s B p (s.l.length - 1) x w h
  rw [he] at hright
  clear he
  obtain ⟨room, levels, l, passed⟩ := s
  obtain ⟨⟨lao, lcap, hb, ho⟩, hbB, hroom1, hroom2, hl1, hl2, hlr, hp⟩ := h
  dsimp only at *
  have c2 := hb.cell 2
  simp at c2
  obtain ⟨rb, ro, rfl, rfl, hrb, hcs⟩ := ho.rd.addr (by omega)
  obtain ⟨a1, a2, a3, a4, a5, a6⟩ := ho.at
  have r1 : w.cell? ⟨rb, ro + p, none⟩ = some (.int .u8 (l[p].toNat)) := by rw [a1 p (by omega), ub_get l p hpl]
  have r2 := a2 (ro + p)
  have HP := Lib.hid hp
  clear a1 a2 a6 hcs hp
  go_enter Try.func18, Try.ntmps18
  go_wp2_with (first
    | (go_at_call 16; refine hlen.mono ?_; rintro e w' ⟨rfl, rfl⟩)
    | (go_at_call 27; refine hright.mono ?_; rintro e w' ⟨rfl, rfl⟩))
  go_ret
  have hne : b ≠ rb := by simpa using hbB
  refine ⟨rfl, [rb], ⟨⟨some ⟨rb, ro, none⟩, lcap, ?_, ?_⟩, hbB, ?_⟩, (Fr.refl _ _).setCell (by simp) _, fun k hk => .inl hk⟩
  · simpa [CS.set] using hb.setCell_other (p := ⟨rb, ro + p, none⟩) hne _
  · have := ho.set p (by omega) (.int .u8 x.toNat)
    have e : (ub l).set p (.int .u8 x.toNat) = ub (l.set p x) := by simp [ub, List.map_set]
    rw [e] at this
    simpa [CS.set] using this
  · have := HP.out; simp [CS.set, CS.ok]; omega

set_option maxHeartbeats 1000000 in
theorem slip_ok (b : Nat) (s : CS) (B : List Nat) (p : Nat) (w : World) (h : Ch 53 w b s B) (he : rightE s p (s.l.length - 1) 0 = 0) (hpl : p < s.l.length) :
    Calls Try.prog 19 #[.pointer (some ⟨b, 0, none⟩), .int .i64 p] w fun e w' => e = .returned (.int .i64 0) ∧ Upd 53 w b B w' (s.slip p) := by
  have hlen := len_ok b s B w h
  have hright := right_ok b s B p (s.l.length - 1) 0 w h
  rw [he, show (((0 : UInt8).toNat : Nat) : Int) = 0 from rfl] at hright
  clear he
  obtain ⟨room, levels, l, passed⟩ := s
  obtain ⟨⟨lao, lcap, hb, ho⟩, hbB, hroom1, hroom2, hl1, hl2, hlr, hp⟩ := h
  dsimp only at *
  have c2 := hb.cell 2
  simp at c2
  obtain ⟨rb, ro, rfl, rfl, hrb, hcs⟩ := ho.rd.addr (by omega)
  obtain ⟨a1, a2, a3, a4, a5, a6⟩ := ho.at
  have HP := Lib.hid hp
  have hne : b ≠ rb := by simpa using hbB
  have hrd : Rd w 1 (.slice (if lcap = p + 1 then some ⟨rb, ro, none⟩ else some ⟨rb, ro + (p + 1), none⟩) (l.length - (p + 1)) (lcap - (p + 1))) (l.length - (p + 1)) (ub (l.drop (p + 1))) [rb] := by
    have := ho.rd.sliced (l := p + 1) (by omega) (Nat.le_refl _) a3 (Nat.le_refl _)
    simpa [sliced, Addr.add_lit, ub_drop, List.take_of_length_le] using this
  have hpc : p < lcap := by omega
  have hple : p ≤ l.length := by omega
  have hpi : (p : Int) + 1 ≤ l.length := by omega
  have hpi2 : (0 : Int) ≤ p + 1 := by omega
  have hlp : ¬ lcap = p := by omega
  have hw1 : IntKind.i64.wrap ((p : Int) + 1) = p + 1 := IntWalk.i64_in _ (by omega)
  have hw2 : ((p : Int) + 1).toNat = p + 1 := by omega
  unfold maxLen at a4
  clear a1 a2 a6 a5 hcs hp
  go_enter Try.func19, Try.ntmps19
  go_wp2_with (first
    | (go_at_call 16; refine hlen.mono ?_; rintro e w' ⟨rfl, rfl⟩)
    | (go_at_call 27; refine hright.mono ?_; rintro e w' ⟨rfl, rfl⟩))
  have hS0 : (w.drew.cell? ⟨b, 2, none⟩ = some (.slice (some ⟨rb, ro, none⟩) l.length lcap)) := c2
  refine wp_region_X (fun W => W.cell? ⟨b, 2, none⟩ = some (.slice (some ⟨rb, ro, none⟩) l.length lcap)) [0, 1, 2, 3, 4, 5, 6, 7, 8, 9, 10, 11, 12] [] [0, 1, 2, 3, 4, 5, 6, 7, 8, 9, 10, 11, 12, 13] (by kernel_rfl) (by kernel_rfl) ?_
  (repeat (refine wpX_st (v := ?_) _ (by rfl) (by rfl) (by rfl) (fun W hW => ?_) hS0 ?_; rotate_left; (focus ((try dsimp only at hW); go_simp; (try with_reducible rfl); done)); try simp only [Act.put, List.getElem_toArray, List.getElem_cons_zero, List.getElem_cons_succ, List.setIfInBounds_toArray, List.set_cons_zero, List.set_cons_succ]))
  generalize (if lcap = p + 1 then some (⟨rb, ro, none⟩ : Addr) else some ⟨rb, ro + (p + 1), none⟩) = sao at hrd ⊢
  refine wpX_eff _ (by rfl) (by rfl) (by rfl) (fun K hK => ?_)
  refine wp_copy_any _ _ 22 22 (by rfl) 5 Try.underlying22 size5 _ _ _ _ _ ho.drew p _ (l.length - p) (lcap - p) (by rfl) (.inr (by simp [Addr.add_lit])) (by omega) _ _ (ub (l.drop (p + 1))) [rb] (by rfl) (hrd.fr (F := []) (Fr.refl _ _).drew (by simp)) (ub_one _) ?_
  intro w1 ho1 hf1 hs1
  have hf1' := hf1.of_drew
  have hb1 := hb.fr hf1' hbB
  have d2 := hb1.cell 2
  simp at d2
  (refine hK _ _ (fun hl => ?_) ?_; (first | (focus (cases hl; done)) | exact d2); clear hK K; try simp only [Act.put, List.getElem_toArray, List.getElem_cons_zero, List.getElem_cons_succ, List.setIfInBounds_toArray, List.set_cons_zero, List.set_cons_succ])
  (simp only [wpX])
  have hmin : Nat.min (l.length - (p + 1)) (l.length - p) = l.length - (p + 1) := Nat.min_eq_left (by omega)
  rw [hmin] at ho1
  have e1 : (ub l).take p ++ (ub (l.drop (p + 1))).take (l.length - (p + 1)) ++ (ub l).drop (p + (l.length - (p + 1))) = ub (l.take p ++ l.drop (p + 1) ++ l.drop (l.length - 1)) := by
    have e0 : (ub (l.drop (p + 1))).take (l.length - (p + 1)) = ub (l.drop (p + 1)) := List.take_of_length_le (by simp)
    rw [e0, show p + (l.length - (p + 1)) = l.length - 1 by omega]
    simp [ub_append, ub_take, ub_drop]
  rw [e1] at ho1
  clear hS0 c2 hb ho hrd hw1 hw2 hpi hpi2 hlp
  have hS1 : (w1.drew.cell? ⟨b, 2, none⟩ = some (.slice (some ⟨rb, ro, none⟩) l.length lcap)) := d2
  have f2 := hb1.frozen 2
  have hl1' : (l.length : Int) - 1 ≤ lcap := by omega
  have hl2' : (l.length : Int) ≤ lcap + 1 := by omega
  have hl3' : (1 : Int) ≤ l.length := by omega
  have hl4' : 1 ≤ l.length := by omega
  have hl5' : l.length ≤ lcap + 1 := by omega
  have hl0' : (0 : Int) ≤ (l.length : Int) - 1 := by omega
  have hw1 : IntKind.i64.wrap ((l.length : Int) - 1) = (l.length : Int) - 1 := IntWalk.i64_in _ (by omega)
  have hw2 : ((l.length : Int) - 1).toNat = l.length - 1 := by omega
  go_wp2_with fail
  refine wp_region_X (fun W => W.cell? ⟨b, 2, none⟩ = some (.slice (some ⟨rb, ro, none⟩) l.length lcap)) [0, 1, 2, 3, 4, 5, 6, 7, 8, 9, 10, 11] [12, 13, 14] [0, 1, 2, 3, 4, 5, 6, 7, 8, 9, 10, 11, 12, 13, 14] (by kernel_rfl) (by kernel_rfl) ?_
  (repeat (refine wpX_st (v := ?_) _ (by rfl) (by rfl) (by rfl) (fun W hW => ?_) hS1 ?_; rotate_left; (focus ((try dsimp only at hW); go_simp; (try with_reducible rfl); done)); try simp only [Act.put, List.getElem_toArray, List.getElem_cons_zero, List.getElem_cons_succ, List.setIfInBounds_toArray, List.set_cons_zero, List.set_cons_succ]))
  repeat (refine wpX_eff _ (by rfl) (by rfl) (by rfl) (fun K hK => ?_); go_simp; refine hK _ _ (fun hl => ?_) ?_; (first | (focus (cases hl; done)) | exact hS1); clear hK K; try simp only [Act.put, List.getElem_toArray, List.getElem_cons_zero, List.getElem_cons_succ, List.setIfInBounds_toArray, List.set_cons_zero, List.set_cons_succ])
  (simp only [wpX])
  clear hS1 d2
  go_wp2_with fail
  go_ret
  have hsl : Own w1 5 1 (.slice (some ⟨rb, ro, none⟩) (l.length - 1) lcap) (l.length - 1) (ub (l.take p ++ l.drop (p + 1))) [rb] := by
    have h := ho1.sliced (l := 0) (u := l.length - 1) (m := lcap) (by omega) (by omega) (by omega) (Nat.le_refl _)
    have e2 : (l.take p ++ l.drop (p + 1) ++ l.drop (l.length - 1)).take (l.length - 1) = l.take p ++ l.drop (p + 1) := by
      rw [List.take_append_of_le_length (by simp; omega), List.take_of_length_le (by simp; omega)]
    simp only [sliced, Nat.zero_mul, List.drop_zero, Nat.mul_one, Nat.sub_zero, ← ub_take, e2] at h
    simpa [show ¬ lcap = 0 by omega, Addr.add] using h
  have hnl : (l.take p ++ l.drop (p + 1)).length = l.length - 1 := by simp; omega
  refine ⟨rfl, [rb], ⟨⟨some ⟨rb, ro, none⟩, lcap, ?_, ?_⟩, hbB, ?_⟩, (hf1'.mono (by simp)).drew.setCell (by simp) _, fun k hk => .inl hk⟩
  · simp only [CS.slip, hnl]
    exact (hb1.setCell 2 _).drew
  · simp only [CS.slip, hnl]
    exact (hsl.setCell (p := ⟨b, 2, none⟩) hbB _).drew
  · have := HP.out; simp only [CS.slip, CS.ok, hnl]; omega

set_option maxHeartbeats 1000000 in
theorem insert_ok (b : Nat) (s : CS) (B : List Nat) (p : Nat) (x : UInt8) (w : World) (h : Ch 53 w b s B) (he : rightE s p s.l.length x = 0) (hpl : p ≤ s.l.length) (hf : s.l.length < s.room) :
    Calls Try.prog 20 #[.pointer (some ⟨b, 0, none⟩), .int .i64 p, .int .u8 x.toNat] w fun e w' => e = .returned (.int .i64 0) ∧ Upd 53 w b B w' (s.insert p x) := by
  have hlen := len_ok b s B w h
  have hright := right_ok b s B p s.l.length x w h
  rw [he] at hright
  clear he
  obtain ⟨i5, hi, hz0, hz1, hz2⟩ := info_parts info5
  obtain ⟨room, levels, l, passed⟩ := s
  obtain ⟨⟨lao, lcap, hb, ho⟩, hbB, hroom1, hroom2, hl1, hl2, hlr, hp⟩ := h
  dsimp only at *
  have c0 := hb.cell 0
  have c2 := hb.cell 2
  simp at c0 c2
  have HP := Lib.hid hp
  have hf' : ¬ (room : Int) ≤ l.length := by omega
  have hbl := hb.lt
  clear hp
  go_enter Try.func20, Try.ntmps20
  go_wp2_with (first
    | (go_at_call 16; refine hlen.mono ?_; rintro e w' ⟨rfl, rfl⟩)
    | (go_at_call 27; refine hright.mono ?_; rintro e w' ⟨rfl, rfl⟩))
  go_quiet (fail)
  go_wp2_with (first
    | ((with_reducible refine wpList_plain (o := ⟨some 33, _, _, _, _, _⟩) rfl (fun K hK => ?_)); refine wp_append_one (w := w.drewN nq) _ _ 22 (by rfl) 5 i5 (.int .u8 0) 1 1 Try.underlying22 hi hz0 hz1 hz2 (by rfl) _ _ _ _ B (by rfl) (ho.drewN nq) [_] (by rfl) ⟨rfl, rfl, rfl, rfl⟩ (by rfl) (by simp [Value.oneCell']) (by unfold maxLen; omega) (by omega) (fun ao1 cap1 w1 B1 ho1 hf1 hB1 => ?_); have hb1 := (hb.drewN nq).fr hf1 hbB; have d2 := hb1.cell 2; have f2 := hb1.frozen 2; simp at d2; refine hK _ _ ?_; clear hK K))
  have hbB1 : b ∉ B1 := fun hm => by
    rcases hB1 b hm with h1 | h1
    · exact hbB h1
    · simp at h1; omega
  obtain ⟨rb, ro, rfl, rfl, hrb, hcs⟩ := ho1.rd.addr (by omega)
  have hne : b ≠ rb := by simpa using hbB1
  have hb2 := hb1.setCell 2 (.slice (some ⟨rb, ro, none⟩) (l.length + 1) cap1)
  have ho2 := ho1.setCell (p := ⟨b, 2, none⟩) hbB1 (.slice (some ⟨rb, ro, none⟩) (l.length + 1) cap1)
  have hf2 : Fr (b :: B) w (w1.setCell ⟨b, 2, none⟩ (.slice (some ⟨rb, ro, none⟩) (l.length + 1) cap1)) :=
    (hf1.of_drewN.mono (fun k hk => List.mem_cons_of_mem _ hk)).setCell (by simp) _
  have hB1' : Hid (w.heap.size ≤ rb ∨ rb ∈ B) := by show w.heap.size ≤ rb ∨ rb ∈ B; rcases hB1 rb (by simp) with h1 | h1; exact .inr h1; exact .inl h1
  simp only [List.set_cons_succ, List.set_cons_zero] at hb2
  clear c0 c2 hb ho hb1 ho1 hcs d2 f2 hf1 hB1
  generalize (w1.setCell ⟨b, 2, none⟩ (.slice (some ⟨rb, ro, none⟩) (l.length + 1) cap1)) = w2 at hb2 ho2 hf2 ⊢
  have c2 := hb2.cell 2
  simp at c2
  obtain ⟨a1, a2, a3, a4, a5, a6⟩ := ho2.at
  unfold maxLen at a4
  have g1 : p ≤ l.length + 1 := by omega
  have g2 : (p : Int) ≤ l.length + 1 := by omega
  have g3 : (p : Int) + 1 ≤ l.length + 1 := by omega
  have g4 : (0 : Int) ≤ p + 1 := by omega
  have g5 : ¬ cap1 = p := by omega
  have hrd : Rd w2 1 (.slice (some ⟨rb, ro + p, none⟩) (l.length + 1 - p) (cap1 - p)) (l.length + 1 - p) ((ub l ++ [Value.int .u8 0]).drop p) [rb] := by
    have := ho2.rd.sliced (l := p) (by omega) (Nat.le_refl _) a3 (Nat.le_refl _)
    rw [List.take_of_length_le (by simp)] at this
    simpa [sliced, Addr.add_lit, g5] using this
  have hw1 : IntKind.i64.wrap ((p : Int) + 1) = p + 1 := IntWalk.i64_in _ (by omega)
  have hw2 : ((p : Int) + 1).toNat = p + 1 := by omega
  have hS0 : (w2.drew.cell? ⟨b, 2, none⟩ = some (.slice (some ⟨rb, ro, none⟩) (l.length + 1) cap1)) := c2
  refine wp_region_X (fun W => W.cell? ⟨b, 2, none⟩ = some (.slice (some ⟨rb, ro, none⟩) (l.length + 1) cap1)) [0, 1, 2, 3, 4, 5, 6, 7, 8, 9, 10, 11, 12] [] [0, 1, 2, 3, 4, 5, 6, 7, 8, 9, 10, 11, 12, 13] (by kernel_rfl) (by kernel_rfl) ?_
  (repeat (refine wpX_st (v := ?_) _ (by rfl) (by rfl) (by rfl) (fun W hW => ?_) hS0 ?_; rotate_left; (focus ((try dsimp only at hW); go_simp; (try with_reducible rfl); done)); try simp only [Act.put, List.getElem_toArray, List.getElem_cons_zero, List.getElem_cons_succ, List.setIfInBounds_toArray, List.set_cons_zero, List.set_cons_succ]))
  refine wpX_eff _ (by rfl) (by rfl) (by rfl) (fun K hK => ?_)
  refine wp_copy_any _ _ 22 22 (by rfl) 5 Try.underlying22 size5 _ _ _ _ _ ho2.drew (p + 1) _ (l.length - p) (cap1 - (p + 1)) (by rfl) (by by_cases h : cap1 = p + 1; exact .inl (by omega); exact .inr (by simp [h, Addr.add_lit])) (by omega) _ _ ((ub l ++ [Value.int .u8 0]).drop p) [rb] (by rfl) (hrd.fr (F := []) (Fr.refl _ _).drew (by simp)) (fun u hu => by
    rcases List.mem_append.1 (List.mem_of_mem_drop hu) with h1 | h1
    · exact ub_one l u h1
    · simp at h1; subst h1; rfl) ?_
  intro w3 ho3 hf3 hs3
  have hf3' := hf3.of_drew
  have hb3 := hb2.fr hf3' (by simpa using hne)
  have d2 := hb3.cell 2
  simp at d2
  (refine hK _ _ (fun hl => ?_) ?_; (first | (focus (cases hl; done)) | exact d2); clear hK K; try simp only [Act.put, List.getElem_toArray, List.getElem_cons_zero, List.getElem_cons_succ, List.setIfInBounds_toArray, List.set_cons_zero, List.set_cons_succ])
  (simp only [wpX])
  clear hS0 c2 hrd hw1 hw2
  generalize (if cap1 = p + 1 then some (⟨rb, ro, none⟩ : Addr) else some ⟨rb, ro + (p + 1), none⟩) = dao
  obtain ⟨b1, b2, _, _, _, _⟩ := ho3.at
  have r2 := b2 (ro + p)
  have hmin : Nat.min (l.length + 1 - p) (l.length - p) = l.length - p := Nat.min_eq_right (by omega)
  rw [hmin] at ho3 b1
  have hxs : ∃ z, ((ub l ++ [Value.int .u8 0]).take (p + 1) ++ ((ub l ++ [Value.int .u8 0]).drop p).take (l.length - p) ++ (ub l ++ [Value.int .u8 0]).drop (p + 1 + (l.length - p)))[p]? = some z := by
    refine ⟨_, List.getElem?_eq_getElem ?_⟩
    simp; omega
  obtain ⟨z, hz⟩ := hxs
  have r1 := b1 p (by omega)
  rw [hz] at r1
  clear b1 b2 hz
  go_wp2_with fail
  go_ret
  have e1 : ((ub l ++ [Value.int .u8 0]).take (p + 1) ++ ((ub l ++ [Value.int .u8 0]).drop p).take (l.length - p) ++ (ub l ++ [Value.int .u8 0]).drop (p + 1 + (l.length - p))).set p (.int .u8 x.toNat) = ub (l.take p ++ x :: l.drop p) := by
    have h1 : l = l.take p ++ l.drop p := (List.take_append_drop p l).symm
    have h2 : (l.take p).length = p := by simp; omega
    generalize l.take p = l1 at h1 h2 ⊢
    generalize l.drop p = l2 at h1 ⊢
    subst h1
    subst h2
    have h3 : (l1 ++ l2).length - l1.length = l2.length := by simp
    have h4 : (ub (l1 ++ l2) ++ [Value.int .u8 0]).drop (l1.length + 1 + l2.length) = [] := List.drop_of_length_le (by simp; omega)
    have h5 : (ub (l1 ++ l2) ++ [Value.int .u8 0]).drop l1.length = ub l2 ++ [Value.int .u8 0] := by
      rw [ub_append, List.append_assoc]
      exact List.drop_left' (by simp)
    have h6 : (ub l2 ++ [Value.int .u8 0]).take l2.length = ub l2 := List.take_left' (by simp)
    have h7 : ∃ d, (ub (l1 ++ l2) ++ [Value.int .u8 0]).take (l1.length + 1) = ub l1 ++ [d] := by
      rw [ub_append, List.append_assoc, List.take_append]
      rw [List.take_of_length_le (by simp)]
      cases l2 with
      | nil => exact ⟨_, by simp [ub]; rfl⟩
      | cons y l2 => exact ⟨_, by simp [ub]; rfl⟩
    obtain ⟨d, h7⟩ := h7
    rw [h3, h4, h5, h6, h7]
    rw [List.append_nil, set_mid _ _ _ _ _ (by simp)]
    simp [ub]
  have hfin := ho3.set p (by omega) (.int .u8 x.toNat)
  rw [e1] at hfin
  have hnl : (l.take p ++ x :: l.drop p).length = l.length + 1 := by simp; omega
  refine ⟨rfl, [rb], ⟨⟨some ⟨rb, ro, none⟩, cap1, ?_, ?_⟩, by simpa using hne, ?_⟩, ?_, ?_⟩
  · simp only [CS.insert, hnl]
    exact hb3.setCell_other (p := ⟨rb, ro + p, none⟩) hne _
  · simp only [CS.insert, hnl]
    exact hfin
  · have := HP.out; simp only [CS.insert, CS.ok, hnl]; omega
  · refine (hf2.trans (hf3'.mono (G := [rb]) (by simp)) ?_).setCell ?_ _
    · intro k hk
      simp at hk; subst hk
      rcases hB1'.out with h | h
      · exact .inr h
      · exact .inl (by simp [h])
    · rcases hB1'.out with h | h
      · exact .inr h
      · exact .inl (by simp [h])
  · intro k hk
    simp at hk; subst hk
    rcases hB1'.out with h | h
    · exact .inr h
    · exact .inl h

end Go.Proofs.Ytlfchokafpodcaa
