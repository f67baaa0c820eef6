/- Contracts of the reference's channel, the third text: Put. -/
import Derived.Test.YtlfchokafpodcaaChanR2
open Go.RowKit Go.Own
namespace Go.Proofs.Ytlfchokafpodcaa

theorem lv_wrap2 (levels : Nat) (x : UInt8) (hx : x ≤ 1) (h1 : 2 ≤ levels) (h2 : levels ≤ 16) :
    IntKind.u8.wrap (IntKind.i64.wrap (IntKind.i64.wrap (x.toNat : Int) * IntKind.i64.wrap ((levels : Int) - 1))) = (lv levels x).toNat := by
  have hx' : x.toNat ≤ 1 := by simpa using UInt8.le_iff_toNat_le.1 hx
  have e1 : IntKind.i64.wrap ((levels : Int) - 1) = levels - 1 := by rw [IntKind.wrap_i64]; omega
  have e2 : IntKind.i64.wrap (x.toNat : Int) = x.toNat := by rw [IntKind.wrap_i64]; omega
  rw [e1, e2]
  have h3 : x.toNat = 0 ∨ x.toNat = 1 := by omega
  unfold lv
  rw [UInt8.toNat_mul, UInt8.toNat_ofNat']
  rcases h3 with h3 | h3 <;> rw [h3]
  · simp [IntKind.wrap, IntKind.bits, IntKind.signed]
  · simp [IntKind.wrap, IntKind.bits, IntKind.signed]; omega

set_option maxHeartbeats 1000000 in
theorem rput_ok (b : Nat) (s : CS) (bs : List UInt8) (B S : List Nat) (n cap : Nat) (ao : Option Addr) (w : World) (h : Ch 60 w b s B)
    (hr : Rd w 1 (.slice ao n cap) n (ub bs) S) (hS : ∀ k, k ∈ S → k ∉ b :: B) (hbits : ∀ x ∈ bs, x ≤ 1) :
    Calls Try.prog 32 #[.pointer (some ⟨b, 0, none⟩), .slice ao n cap] w fun e w' => 
      e = .returned (.tuple #[.int .i64 (n - min n (s.room - s.l.length) : Nat), .int .i64 0]) ∧ Upd 60 w b B w' (s.put bs) := by
  obtain ⟨i5, hi, hz0, hz1, hz2⟩ := info_parts info5
  obtain ⟨room, levels, l, passed⟩ := s
  obtain ⟨⟨lao, lcap, hb, ho⟩, hbB, hroom1, hroom2, hl1, hl2, hlr, hp⟩ := h
  dsimp only at *
  obtain ⟨hlen, hnc, hcm⟩ := hr.bounds
  have hn : bs.length = n := by simpa using hlen
  unfold maxLen at hcm
  go_enter Try.func32, Try.ntmps32
  go_wp2
  go_loop [6] (fun i => ∃ k : Nat, k ≤ n ∧ i = .int .i64 k) (fun i => n - (intOf i).toNat)
  case atStart => exact ⟨0, Nat.zero_le _, rfl⟩
  case round =>
    obtain ⟨k, hk, rfl⟩ := hrel
    by_cases hlt : k < n
    · obtain ⟨sb, so, rfl, rfl, hsb, hcs⟩ := hr.addr (by omega)
      obtain ⟨x, hxk⟩ : ∃ x, bs[k]? = some x := ⟨_, List.getElem?_eq_getElem (by omega)⟩
      have hck : w.cell? ⟨sb, so + k, none⟩ = some (.int .u8 (x.toNat : Int)) := by
        rw [hcs k (by omega), ub_get? hxk]
      have hx : ((x.toNat : Nat) : Int) ≤ 1 := by
        have := UInt8.le_iff_toNat_le.1 (hbits _ (List.mem_of_getElem? hxk))
        simp at this; omega
      clear hcs hbits hxk
      go_wp2_with fail
      go_round
      case rel => exact ⟨k + 1, by omega, by go_num⟩
      case measure => simp [intOf]; omega
    · go_wp2_with fail
      clear hk hlt
      obtain ⟨r, hR⟩ : ∃ r : Nat, r = room - l.length := ⟨_, rfl⟩
      go_loopw [7, 8] (fun t i wr => ∃ (k : Nat) (ao : Option Addr) (cap : Nat) (Bk : List Nat), k ≤ n ∧ i = .int .i64 k ∧ t = .int .i64 ((k - min k r : Nat) : Int) ∧ Blk wr b 60 [.int .i64 room, .int .i64 levels, .slice ao (l.length + min k r) cap, .int .u64 passed] ∧
           Own wr 5 1 (.slice ao (l.length + min k r) cap) (l.length + min k r) (ub (l ++ (bs.take (min k r)).map (lv levels))) Bk ∧ Fr (b :: B) w wr ∧ (∀ k, k ∈ Bk → k ∈ B ∨ w.heap.size ≤ k) ∧ b ∉ Bk) (fun _ i _ => n - (intOf i).toNat)
      case atStart => exact ⟨0, _, _, B, Nat.zero_le _, rfl, by simp, by simpa using hb, by simpa using ho, Fr.refl _ w, fun _ h => .inl h, hbB⟩
      case round =>
        clear ho
        obtain ⟨k, lao, lcap, Bk, hk, rfl, rfl, hb', ho, hfr, hsub, hbB'⟩ := hrel
        have c0 := hb'.cell 0
        have c1 := hb'.cell 1
        have c2 := hb'.cell 2
        simp at c0 c1 c2
        have hlb := hb.lt
        by_cases hlt : k < n
        · by_cases hfull : k < r
          · have em : min k r = k := by omega
            have em1 : min (k + 1) r = k + 1 := by omega
            rw [em] at c2 hb' ho ⊢
            obtain ⟨sb, so, rfl, rfl, hsb, hcs⟩ := hr.addr (by omega)
            obtain ⟨x, hxk⟩ : ∃ x, bs[k]? = some x := ⟨_, List.getElem?_eq_getElem (by omega)⟩
            have hck : wr.cell? ⟨sb, so + k, none⟩ = some (.int .u8 (x.toNat : Int)) := by
              rw [hfr.cell (p := ⟨sb, so + k, none⟩) hsb (hS sb (by simp)), hcs k (by omega), ub_get? hxk]
            have hX := lv_wrap2 levels x (hbits _ (List.mem_of_getElem? hxk)) hl1 hl2
            have HXK := Lib.hid hxk
            have hq : ¬ ((room : Int) ≤ (l.length + k : Nat)) := by omega
            have hq2 : ¬ ((room : Int) ≤ (l.length : Int) + (k : Int)) := by omega
            have HM1 := Lib.hid em
            have HM2 := Lib.hid em1
            have HSB := Lib.hid (hS sb (by simp))
            clear hcs hbits hr hS hlen hR hb hxk em em1
            go_wp2_with fail
            go_quiet (fail)
            go_wp2_with fail
            have hki : (k : Int) < n := by omega
            have hS0 : ((wr.drewN nq).drew.cell? ⟨b, 1, none⟩ = some (.int .i64 levels) ∧ (wr.drewN nq).drew.cell? ⟨b, 2, none⟩ = some (.slice lao (l.length + k) lcap) ∧ (wr.drewN nq).drew.cell? ⟨sb, so + k, none⟩ = some (.int .u8 (x.toNat : Int))) := ⟨c1, c2, hck⟩
            refine wp_region_X (fun W => W.cell? ⟨b, 1, none⟩ = some (.int .i64 levels) ∧ W.cell? ⟨b, 2, none⟩ = some (.slice lao (l.length + k) lcap) ∧ W.cell? ⟨sb, so + k, none⟩ = some (.int .u8 (x.toNat : Int))) [0, 1, 2, 3, 4, 5, 6, 7, 8, 9, 10, 11, 12, 13, 14, 15, 16] [19, 20, 21] [0, 1, 2, 3, 4, 5, 6, 7, 8, 9, 10, 11, 12, 13, 14, 15, 16, 17, 18, 19, 20, 21] (by kernel_rfl) (by kernel_rfl) ?_
            (repeat (refine wpX_st (v := ?_) _ (by rfl) (by rfl) (by rfl) (fun W hW => ?_) hS0 ?_; rotate_left; (focus ((try dsimp only at hW); go_simp; (try with_reducible rfl); done)); try simp only [Act.put, List.getElem_toArray, List.getElem_cons_zero, List.getElem_cons_succ, List.setIfInBounds_toArray, List.set_cons_zero, List.set_cons_succ]))
            (refine wpX_eff _ (by rfl) (by rfl) (by rfl) (fun K hK => ?_); go_simp; refine hK _ _ (fun hl => ?_) ?_; (first | (focus (cases hl; done)) | go_keep); clear hK K; try simp only [Act.put, List.getElem_toArray, List.getElem_cons_zero, List.getElem_cons_succ, List.setIfInBounds_toArray, List.set_cons_zero, List.set_cons_succ])
            try rw [hX]
            refine wpX_eff _ (by rfl) (by rfl) (by rfl) (fun K hK => ?_)
            refine wp_append_one (w := wr.drewN nq) _ _ 22 (by rfl) 5 i5 (.int .u8 0) 1 1 Try.underlying22 hi hz0 hz1 hz2 (by rfl) _ _ _ _ Bk (by rfl) (ho.drewN nq) [_] (by rfl) ⟨rfl, rfl, rfl, rfl⟩ (by rfl) (by simp [Value.oneCell']) (by unfold maxLen; omega) (by omega) (fun ao' cap' w1 B1 ho1 hf1' hB1 => ?_)
            have hf1 := hf1'.of_drewN
            have hb1 := hb'.fr hf1 hbB'
            have hsbk : sb ∉ Bk := fun h => by
              rcases hsub sb h with h1 | h1
              · exact HSB.out (by simp [h1])
              · omega
            have d3 : w1.cell? ⟨sb, so + k, none⟩ = some (.int .u8 (x.toNat : Int)) := by rw [hf1.cell (p := ⟨sb, so + k, none⟩) (by have := hfr.size; simp; omega) hsbk]; exact hck
            have d1 := hb1.cell 1
            have d2 := hb1.cell 2
            have f2 := hb1.frozen 2
            simp at d1 d2
            (refine hK _ _ (fun hl => ?_) ?_; (first | (focus (cases hl; done)) | exact ⟨d1, d2, d3⟩); clear hK K; try simp only [Act.put, List.getElem_toArray, List.getElem_cons_zero, List.getElem_cons_succ, List.setIfInBounds_toArray, List.set_cons_zero, List.set_cons_succ])
            clear hS0 c0 c1 c2 hck
            repeat (refine wpX_eff _ (by rfl) (by rfl) (by rfl) (fun K hK => ?_); go_simp; refine hK _ _ (fun hl => ?_) ?_; (first | (focus (cases hl; done)) | exact ⟨d1, d2, d3⟩); clear hK K; try simp only [Act.put, List.getElem_toArray, List.getElem_cons_zero, List.getElem_cons_succ, List.setIfInBounds_toArray, List.set_cons_zero, List.set_cons_succ])
            (simp only [wpX])
            go_wp2_with fail
            go_roundw
            case rel =>
              have hbB1 : b ∉ B1 := fun hm => by rcases hB1 b hm with h1 | h1; exact hbB' h1; have := hfr.size; simp at h1; omega
              have em1 := HM2.out
              refine ⟨k + 1, ao', cap', B1, by omega, by go_num, by rw [em1]; simp, ?_, ?_, ?_, ?_, hbB1⟩
              · rw [em1]; exact hb1.setCell 2 _
              · rw [em1]
                have e : ub (l ++ (bs.take (k + 1)).map (lv levels)) = ub (l ++ (bs.take k).map (lv levels)) ++ [.int .u8 (lv levels x).toNat] := by
                  rw [List.take_add_one, HXK.out]; simp [ub]
                rw [e]
                exact ho1.setCell hbB1 _
              · refine (hfr.trans hf1 (fun y hy => ?_)).setCell (by simp) _
                rcases hsub y hy with h1 | h1
                · exact .inl (by simp [h1])
                · exact .inr h1
              · intro y hy
                rcases hB1 y hy with h1 | h1
                · exact hsub y h1
                · have := hfr.size; simp at h1; exact .inr (by omega)
            case measure => simp [intOf]; omega
          · have em : min k r = r := by omega
            have em1 : min (k + 1) r = r := by omega
            rw [em] at c2 hb' ho ⊢
            have hq : (room : Int) ≤ (l.length : Int) + (r : Int) := by omega
            have hki : (k : Int) < n := by omega
            have hkr : ((k - r : Nat) : Int) = (k : Int) - r := by omega
            have hkn : (n : Int) ≤ 9223372036854775807 := by omega
            have HM1 := Lib.hid em
            have HM2 := Lib.hid em1
            have HR := Lib.hid hR
            clear hS hlen hR em em1
            go_wp2_with fail
            go_quiet (fail)
            go_wp2_with fail
            go_roundw
            case rel =>
              have em1 := HM2.out
              exact ⟨k + 1, lao, lcap, Bk, by omega, by go_num, by rw [em1]; congr 1; omega, by rw [em1]; exact hb'.drewN _, by rw [em1]; exact ho.drewN _, hfr.drewN _, hsub, hbB'⟩
            case measure => simp [intOf]; omega
        · obtain rfl : k = n := by omega
          go_wp2_with fail
          go_ret2
          have e1 : (bs.take (min k r)).map (lv levels) = (bs.take (room - l.length)).map (lv levels) := by
            congr 1
            rw [hR, ← hn, List.take_eq_take_iff]; omega
          refine ⟨congrArg (fun z => Ending.returned (.tuple #[.int .i64 z, .int .i64 0])) (by omega), Bk, ⟨⟨lao, lcap, ?_, ?_⟩, hbB', ?_⟩, hfr, hsub⟩
          · simp only [CS.put]
            rw [← e1]
            simpa [show min (min k r) bs.length = min k r by omega] using hb'
          · simp only [CS.put]
            rw [← e1]
            simpa [show min (min k r) bs.length = min k r by omega] using ho
          · simp only [CS.put, CS.ok]
            rw [← e1]
            simp
            omega

end Go.Proofs.Ytlfchokafpodcaa
