/- Contracts of package channel's functions, the second text. -/
import Derived.Test.YtlfchokafpodcaaChanP
open Go.RowKit Go.Own
namespace Go.Proofs.Ytlfchokafpodcaa

set_option maxHeartbeats 1000000 in
theorem put_ok (b : Nat) (s : CS) (bs : List UInt8) (B S : List Nat) (n cap : Nat) (ao : Option Addr) (w : World) (h : Ch 53 w b s B)
    (hr : Rd w 1 (.slice ao n cap) n (ub bs) S) (hS : ∀ k, k ∈ S → k ∉ b :: B) (hbits : ∀ x ∈ bs, x ≤ 1) :
    Calls Try.prog 12 #[.pointer (some ⟨b, 0, none⟩), .slice ao n cap] w fun e w' => 
      e = .returned (.tuple #[.int .i64 (n - min n (s.room - s.l.length) : Nat), .int .i64 0]) ∧ Upd 53 w b B w' (s.put bs) := by
  obtain ⟨i5, hi, hz0, hz1, hz2⟩ := info_parts info5
  obtain ⟨room, levels, l, passed⟩ := s
  obtain ⟨⟨lao, lcap, hb, ho⟩, hbB, hroom1, hroom2, hl1, hl2, hlr, hp⟩ := h
  dsimp only at *
  obtain ⟨hlen, hnc, hcm⟩ := hr.bounds
  have hn : bs.length = n := by simpa using hlen
  unfold maxLen at hcm
  have c0 := hb.cell 0
  have c1 := hb.cell 1
  have c2 := hb.cell 2
  simp at c0 c1 c2
  go_enter Try.func12, Try.ntmps12
  go_wp2_with (go_at_call 24; refine (good_yes b _ _ c0 (by omega)).mono ?_; rintro e w' ⟨rfl, rfl⟩)
  go_loop [16] (fun i => ∃ k : Nat, k ≤ n ∧ i = .int .i64 k) (fun i => n - (intOf i).toNat)
  case atStart => exact ⟨0, Nat.zero_le _, rfl⟩
  case round =>
    obtain ⟨k, hk, rfl⟩ := hrel
    by_cases hlt : k < n
    · obtain ⟨sb, so, rfl, rfl, hsb, hcs⟩ := hr.addr (by omega)
      have hck : w.cell? ⟨sb, so + k, none⟩ = some (.int .u8 ((bs[k]'(by omega)).toNat : Int)) := by
        rw [hcs k (by omega), ub_get]
      have hx : (((bs[k]'(by omega)).toNat : Nat) : Int) ≤ 1 := by
        have := UInt8.le_iff_toNat_le.1 (hbits _ (List.getElem_mem (show k < bs.length by omega)))
        simp at this; omega
      clear hcs hbits
      go_wp2_with fail
      go_round
      case rel => exact ⟨k + 1, by omega, by go_num⟩
      case measure => simp [intOf]; omega
    · go_upto_region 9 with (fail)
      clear hk hlt
      obtain ⟨m, hm⟩ : ∃ m : Nat, m = min n (room - l.length) := ⟨_, rfl⟩
      go_cut [8] (fun v wc => v = .int .i64 m ∧ ∃ nq, wc = w.drewN nq)
      case first =>
        go_quiet (fail)
        go_wp2_with fail
        · go_meet
          case rel => exact ⟨by congr 1; omega, nq, rfl⟩
        · go_meet
          case rel => exact ⟨by congr 1; omega, nq, rfl⟩
      case rest =>
        obtain ⟨rfl, nq, rfl⟩ := hcut
        go_wp2_with fail
        have hm1 : m ≤ n := by omega
        have hm2 : l.length + m ≤ room := by omega
        have ho' := ho.drewN nq
        have hf0 : Fr (b :: B) w (w.drewN nq) := (Fr.refl _ w).drewN nq
        go_loopw [40] (fun i wr => ∃ (k : Nat) (ao : Option Addr) (cap : Nat) (Bk : List Nat), k ≤ m ∧ i = .int .i64 k ∧ Blk wr b 53 [.int .i64 room, .int .i64 levels, .slice ao (l.length + k) cap, .int .u64 passed] ∧
           Own wr 5 1 (.slice ao (l.length + k) cap) (l.length + k) (ub (l ++ (bs.take k).map (lv levels))) Bk ∧ Fr (b :: B) w wr ∧ (∀ k, k ∈ Bk → k ∈ B ∨ w.heap.size ≤ k) ∧ b ∉ Bk) (fun i _ => m - (intOf i).toNat)
        case atStart => exact ⟨0, _, _, B, Nat.zero_le _, rfl, hb, by simpa using ho', hf0, fun _ h => .inl h, hbB⟩
        case round =>
          clear c0 c1 c2 ho ho' hf0
          obtain ⟨k, lao, lcap, Bk, hk, rfl, hb', ho, hfr, hsub, hbB'⟩ := hrel
          have c1 := hb'.cell 1
          have c2 := hb'.cell 2
          simp at c1 c2
          by_cases hlt : k < m
          · obtain ⟨sb, so, rfl, rfl, hsb, hcs⟩ := hr.addr (by omega)
            obtain ⟨x, hxk⟩ : ∃ x, bs[k]? = some x := ⟨_, List.getElem?_eq_getElem (by omega)⟩
            have hck : wr.cell? ⟨sb, so + k, none⟩ = some (.int .u8 (x.toNat : Int)) := by
              rw [hfr.cell (p := ⟨sb, so + k, none⟩) hsb (hS sb (by simp)), hcs k (by omega), ub_get? hxk]
            have hX := lv_wrap levels x (hbits _ (List.mem_of_getElem? hxk)) hl1 hl2
            have HXK := Lib.hid hxk
            have hlb := hb.lt
            clear hcs hbits hr hS hlen hm hb hxk
            go_wp2_with fail
            have hS0 : (wr.drew.cell? ⟨b, 1, none⟩ = some (.int .i64 levels) ∧ wr.drew.cell? ⟨b, 2, none⟩ = some (.slice lao (l.length + k) lcap)) := ⟨c1, c2⟩
            refine wp_region_X (fun W => W.cell? ⟨b, 1, none⟩ = some (.int .i64 levels) ∧ W.cell? ⟨b, 2, none⟩ = some (.slice lao (l.length + k) lcap)) [0,1,2,3,4,5,6,7,8,9,10,11,12] [17] [0,1,2,3,4,5,6,7,8,9,10,11,12,13,14,15,16,17] (by kernel_rfl) (by kernel_rfl) ?_
            (repeat (refine wpX_st (v := ?_) _ (by rfl) (by rfl) (by rfl) (fun W hW => ?_) hS0 ?_; rotate_left; (focus ((try dsimp only at hW); go_simp; (try with_reducible rfl); done)); try simp only [Act.put, List.getElem_toArray, List.getElem_cons_zero, List.getElem_cons_succ, List.setIfInBounds_toArray, List.set_cons_zero, List.set_cons_succ]))
            (refine wpX_eff _ (by rfl) (by rfl) (by rfl) (fun K hK => ?_); go_simp; refine hK _ _ (fun hl => ?_) ?_; (first | (focus (cases hl; done)) | go_keep); clear hK K; try simp only [Act.put, List.getElem_toArray, List.getElem_cons_zero, List.getElem_cons_succ, List.setIfInBounds_toArray, List.set_cons_zero, List.set_cons_succ])
            refine wpX_eff _ (by rfl) (by rfl) (by rfl) (fun K hK => ?_)
            refine wp_append_one (w := wr) _ _ 22 (by rfl) 5 i5 (.int .u8 0) 1 1 Try.underlying22 hi hz0 hz1 hz2 (by rfl) _ _ _ _ Bk (by rfl) ho [_] (by rfl) ⟨rfl, rfl, rfl, rfl⟩ (by rfl) (by simp [Value.oneCell']) (by unfold maxLen; omega) (by omega) (fun ao' cap' w1 B1 ho1 hf1 hB1 => ?_)
            have hb1 := hb'.fr hf1 hbB'
            have d1 := hb1.cell 1
            have d2 := hb1.cell 2
            have f2 := hb1.frozen 2
            simp at d1 d2
            (refine hK _ _ (fun hl => ?_) ?_; (first | (focus (cases hl; done)) | exact ⟨d1, d2⟩); clear hK K; try simp only [Act.put, List.getElem_toArray, List.getElem_cons_zero, List.getElem_cons_succ, List.setIfInBounds_toArray, List.set_cons_zero, List.set_cons_succ])
            clear hS0 c1 c2 hck
            repeat (refine wpX_eff _ (by rfl) (by rfl) (by rfl) (fun K hK => ?_); go_simp; refine hK _ _ (fun hl => ?_) ?_; (first | (focus (cases hl; done)) | exact ⟨d1, d2⟩); clear hK K; try simp only [Act.put, List.getElem_toArray, List.getElem_cons_zero, List.getElem_cons_succ, List.setIfInBounds_toArray, List.set_cons_zero, List.set_cons_succ])
            (simp only [wpX])
            go_wp2_with fail
            go_roundw
            case rel =>
              have hbB1 : b ∉ B1 := fun hm => by rcases hB1 b hm with h1 | h1; exact hbB' h1; have := hfr.size; omega
              refine ⟨k + 1, ao', cap', B1, by omega, by go_num, ?_, ?_, ?_, ?_, hbB1⟩
              · exact hb1.setCell 2 _
              · have e : ub (l ++ (bs.take (k + 1)).map (lv levels)) = ub (l ++ (bs.take k).map (lv levels)) ++ [.int .u8 (lv levels x).toNat] := by
                  rw [List.take_add_one, HXK.out]; simp [ub]
                rw [e]
                exact ho1.setCell hbB1 _
              · refine (hfr.trans hf1 (fun y hy => ?_)).setCell (by simp) _
                rcases hsub y hy with h1 | h1
                · exact .inl (by simp [h1])
                · exact .inr h1
              · intro y hy
                rcases hB1 y hy with h1 | h1
                · exact hsub y h1
                · have := hfr.size; exact .inr (by omega)
            case measure => simp [intOf]; omega
          · obtain rfl : k = m := by omega
            go_wp2_with fail
            go_ret2
            have e1 : (bs.take k).map (lv levels) = (bs.take (room - l.length)).map (lv levels) := by
              congr 1
              rw [hm, ← hn, List.take_eq_take_iff]; omega
            refine ⟨congrArg (fun z => Ending.returned (.tuple #[.int .i64 z, .int .i64 0])) (by omega), Bk, ⟨⟨lao, lcap, ?_, ?_⟩, hbB', ?_⟩, hfr, hsub⟩
            · simp only [CS.put]
              rw [← e1]
              simpa [show min k bs.length = k by omega] using hb'
            · simp only [CS.put]
              rw [← e1]
              simpa [show min k bs.length = k by omega] using ho
            · simp only [CS.put, CS.ok]
              rw [← e1]
              simp
              omega

/-- New. -/
theorem new_ok (room levels : Int) (w : World) (h1 : 1 ≤ room) (h2 : room ≤ 65536) (h3 : 2 ≤ levels) (h4 : levels ≤ 16) :
    Calls Try.prog 9 #[.int .i64 room, .int .i64 levels] w fun e w' => ∃ b, e = .returned (.tuple #[.pointer (some ⟨b, 0, none⟩), .int .i64 0]) ∧ w.heap.size ≤ b ∧
      Ch 53 w' b ⟨room.toNat, levels.toNat, [], 0⟩ [] ∧ Fr [] w w' := by
  go_enter Try.func9, Try.ntmps9
  go_wp2
  go_ret2
  refine ⟨w.heap.size, rfl, Nat.le_refl _, ⟨⟨none, 0, ?_, Own.nil _ _ _⟩, by simp, ?_⟩, (Fr.refl [] w).alloc _⟩
  · have := Blk.new w 53 [.int .i64 room, .int .i64 levels, .slice none 0 0, .int .u64 0]
    simpa [show ((room.toNat : Nat) : Int) = room by omega, show ((levels.toNat : Nat) : Int) = levels by omega] using this
  · simp [CS.ok]; omega

theorem new_bad (room levels : Int) (w : World) (h : ¬ (1 ≤ room ∧ room ≤ 65536 ∧ 2 ≤ levels ∧ levels ≤ 16)) :
    Calls Try.prog 9 #[.int .i64 room, .int .i64 levels] w fun e w' => e = .returned (.tuple #[.pointer none, .int .i64 1]) ∧ w = w' := by
  by_cases h1 : room < 1
  · go_enter Try.func9, Try.ntmps9
    go_wp2
    go_ret2
    exact ⟨rfl, rfl⟩
  by_cases h2 : room > 65536
  · go_enter Try.func9, Try.ntmps9
    go_wp2
    go_ret2
    exact ⟨rfl, rfl⟩
  by_cases h3 : levels < 2
  · go_enter Try.func9, Try.ntmps9
    go_wp2
    go_ret2
    exact ⟨rfl, rfl⟩
  · have h4 : levels > 16 := by omega
    go_enter Try.func9, Try.ntmps9
    go_wp2
    go_ret2
    exact ⟨rfl, rfl⟩

/-- Take. -/
theorem take_bad (b : Nat) (s : CS) (B : List Nat) (n : Int) (w : World) (h : Ch 53 w b s B) (hn : n < 0) :
    Calls Try.prog 14 #[.pointer (some ⟨b, 0, none⟩), .int .i64 n] w fun e w' => e = .returned (.tuple #[.slice none 0 0, .int .i64 1]) ∧ w = w' := by
  obtain ⟨room, levels, l, passed⟩ := s
  obtain ⟨⟨lao, lcap, hb, ho⟩, hbB, hroom1, hroom2, hl1, hl2, hlr, hp⟩ := h
  dsimp only at *
  have c0 := hb.cell 0
  simp at c0
  clear hp
  go_enter Try.func14, Try.ntmps14
  go_wp2_with (go_at_call 24; refine (good_yes b _ _ c0 (by omega)).mono ?_; rintro e w' ⟨rfl, rfl⟩)
  go_ret2
  exact ⟨rfl, rfl⟩

theorem u64_add (a n : Nat) : IntKind.u64.wrap ((a : Int) + (n : Int)) = (((a + n) % 18446744073709551616 : Nat) : Int) := by
  simp [IntKind.wrap, IntKind.bits, IntKind.signed]

set_option maxHeartbeats 1000000 in
theorem take_ok (b : Nat) (s : CS) (B : List Nat) (n : Int) (w : World) (h : Ch 53 w b s B) (hn : 0 ≤ n) (m : Nat) (hm : m = min n.toNat s.l.length) :
    Calls Try.prog 14 #[.pointer (some ⟨b, 0, none⟩), .int .i64 n] w fun e w' => e = .returned (.tuple #[.slice (some ⟨w.heap.size, 0, none⟩) m m, .int .i64 0]) ∧
      Own w' 5 1 (.slice (some ⟨w.heap.size, 0, none⟩) m m) m (ub (s.l.take m)) [w.heap.size] ∧ Ch 53 w' b (s.take m) B ∧ Fr (b :: B) w w' ∧ w.heap.size < w'.heap.size := by
  have hcut := cut_ok b s B m w h (Int.natCast_nonneg _) (by omega)
  have h' := h
  obtain ⟨room, levels, l, passed⟩ := s
  obtain ⟨⟨lao, lcap, hb, ho⟩, hbB, hroom1, hroom2, hl1, hl2, hlr, hp⟩ := h
  dsimp only at *
  obtain ⟨hlc, hlm⟩ := (ho.rd.bounds).2
  unfold maxLen at hlm
  have c0 := hb.cell 0
  have c2 := hb.cell 2
  simp at c0 c2 hcut
  have hbl := hb.lt
  have HM := Lib.hid hm
  have hml : m ≤ l.length := by omega
  have hpp : ((passed : Nat) : Int) ≤ 18446744073709551615 := by omega
  clear hm hp
  go_enter Try.func14, Try.ntmps14
  go_upto_region 3 with (go_at_call 24; refine (good_yes b _ _ c0 (by omega)).mono ?_; rintro e w' ⟨rfl, rfl⟩)
  go_cut [1] (fun v wc => v = .int .i64 m ∧ w = wc)
  case first =>
    go_wp2_with fail
    all_goals
      go_meet
      case rel => exact ⟨by congr 1; have := HM.out; omega, rfl⟩
  case rest =>
    obtain ⟨rfl, rfl⟩ := hcut
    clear hn HM
    go_wp2_with (go_at_call 25; refine hcut.mono ?_; rintro e w1 ⟨rfl, ho1, hf1, hs1⟩; have hb1 := hb.fr hf1 (by simp); have d2 := hb1.cell 2; simp at d2)
    have hS0 : (w1.drew.cell? ⟨b, 2, none⟩ = some (.slice lao l.length lcap)) := d2
    refine wp_region_X (fun W => W.cell? ⟨b, 2, none⟩ = some (.slice lao l.length lcap)) [0, 1, 2, 3, 4, 5, 6, 7, 8, 9, 10, 11, 12, 13, 14, 15, 16] [17, 18, 19] [0, 1, 2, 3, 4, 5, 6, 7, 8, 9, 10, 11, 12, 13, 14, 15, 16, 17, 18, 19] (by kernel_rfl) (by kernel_rfl) ?_
    (repeat (refine wpX_st (v := ?_) _ (by rfl) (by rfl) (by rfl) (fun W hW => ?_) hS0 ?_; rotate_left; (focus ((try dsimp only at hW); go_simp; (try with_reducible rfl); done)); try simp only [Act.put, List.getElem_toArray, List.getElem_cons_zero, List.getElem_cons_succ, List.setIfInBounds_toArray, List.set_cons_zero, List.set_cons_succ]))
    have hsl : Own w1 5 1 (.slice (if l.length = m then lao else Option.map (fun x => x.add m) lao) (l.length - m) (l.length - m)) (l.length - m) (ub (l.drop m)) B := by
      have := (ho.fr hf1 (by simp)).sliced hml (Nat.le_refl _) (Nat.le_refl _) hlc
      simpa [sliced, ub_drop, List.take_of_length_le] using this
    generalize (if l.length = m then lao else Option.map (fun x => x.add m) lao) = ao' at hsl ⊢
    have d0 := hb1.cell 0
    have d1 := hb1.cell 1
    have d3 := hb1.cell 3
    have f2 := hb1.frozen 2
    have f3 := hb1.frozen 3
    simp at d0 d1 d3
    repeat (refine wpX_eff _ (by rfl) (by rfl) (by rfl) (fun K hK => ?_); go_simp; refine hK _ _ (fun hl => ?_) ?_; (first | (focus (cases hl; done)) | exact hS0); clear hK K; try simp only [Act.put, List.getElem_toArray, List.getElem_cons_zero, List.getElem_cons_succ, List.setIfInBounds_toArray, List.set_cons_zero, List.set_cons_succ])
    (simp only [wpX])
    clear hS0
    go_wp2_with fail
    go_ret2
    rw [u64_add]
    have hB : b ∉ [w.heap.size] := by simp; omega
    refine ⟨rfl, ((ho1.setCell (by simp; omega) _).setCell (by simp; omega) _).drew, ⟨⟨ao', l.length - m, ?_, ?_⟩, hbB, ?_⟩, ?_, ?_⟩
    · have := (hb1.setCell 2 (.slice ao' (l.length - m) (l.length - m))).setCell 3 (.int .u64 (((passed + m) % 18446744073709551616 : Nat) : Int))
      simpa only [CS.take, List.length_drop, List.set_cons_succ, List.set_cons_zero] using this.drew
    · have := (hsl.setCell (p := ⟨b, 2, none⟩) hbB (.slice ao' (l.length - m) (l.length - m))).setCell (p := ⟨b, 3, none⟩) hbB (.int .u64 (((passed + m) % 18446744073709551616 : Nat) : Int))
      simpa only [CS.take, List.length_drop] using this.drew
    · simp [CS.take, CS.ok]; omega
    · exact ((hf1.nil.setCell (by simp) _).setCell (by simp) _).drew
    · simpa using hs1

end Go.Proofs.Ytlfchokafpodcaa
