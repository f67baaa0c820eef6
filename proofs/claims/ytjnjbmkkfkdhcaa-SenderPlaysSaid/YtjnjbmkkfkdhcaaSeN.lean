/- The walk of SenderRound. -/
import Derived.Test.YtjnjbmkkfkdhcaaSeM
open Go.RowKit Go.Own
namespace Go.Proofs.Ytjnjbmkkfkdhcaa

def seA (q : Nat) (W S T F : Int) : Asn := cellsA q 24 [.int .i64 W, .int .i64 S, .int .i64 T, .int .u32 F]
theorem seM {w : World} {q : Nat} {W S T F : Int} {L : List Asn} (h : Hold w (seA q W S T F :: L)) :
    w.cell? ⟨q, 0, none⟩ = some (.int .i64 W) ∧ w.cell? ⟨q, 1, none⟩ = some (.int .i64 S) ∧ w.cell? ⟨q, 2, none⟩ = some (.int .i64 T) ∧ w.cell? ⟨q, 3, none⟩ = some (.int .u32 F) :=
  ⟨Hold.cell h 0, Hold.cell h 1, Hold.cell h 2, Hold.cell h 3⟩

theorem slot_any (b : Nat) (S : SS) (hSI : SI S) (w : World) (L : List Asn) (h : Hold w (snA b S :: L)) :
    Calls Try.prog 12 #[.pointer (some ⟨b, 0, none⟩)] w fun e w' => ∃ fr ok, e = .returned (.tuple #[fr, ok]) ∧ Hold w' (snA b (slotS S) :: L) := by
  refine (slot_ok b S hSI w L h).mono ?_
  rintro e w' (⟨-, x, ao, cap, -, -, rfl, h⟩ | ⟨-, rfl, h⟩)
  · exact ⟨_, _, rfl, h.drop⟩
  · exact ⟨_, _, rfl, h⟩

set_option maxRecDepth 20000 in
theorem round_bad (W S T F : Int) (hf : ¬ fitsN W S T) (v : Value) (w : World) (L : List Asn) (h : Hold w L) :
    Calls Try.prog 3 #[.agg #[.int .i64 W, .int .i64 S, .int .i64 T, .int .u32 F], v] w fun e w' => e = .returned (.bool true) ∧ Hold w' L := by
  have PN := fun w => new_bad W S T F hf w
  clear hf
  go_enter Try.func3, Try.ntmps3
  have hb : Hold _ (seA w.heap.size W S T F :: L) := h.box 24 [.int .i64 W, .int .i64 S, .int .i64 T, .int .u32 F]
  go_upto_region 1 with (fail)
  refine gen_world hb (fun w1 hb => ?_)
  generalize w.heap.size = q at *
  obtain ⟨g0, g1, g2, g3⟩ := seM hb
  go_wp2_with (first
    | (go_at_call 7; refine (PN _).mono ?_; rintro e w2 ⟨rfl, rfl⟩)
    | (go_at_call 8; refine (num_any _ _).mono ?_; rintro e w2 ⟨rfl, rfl⟩)
    | (go_at_call 9; refine (live_ok _ _ hb).mono ?_; rintro e w3 ⟨rfl, h3⟩))
  go_ret
  exact ⟨rfl, h3.drop⟩

def OpsRel (b q : Nat) (W S T F : Nat) (n : Nat) (C : Asn) (L : List Asn) (i : Value) (wr : World) : Prop :=
  ∃ (k : Nat) (S1 : SS), k ≤ n ∧ i = .int .i64 k ∧ SI S1 ∧ S1.window = W ∧ S1.timeout = T ∧ Hold wr (snA b S1 :: seA q W S T F :: C :: L)

def bs (xs : List Bool) : List Value := xs.map fun x => .bool x
@[simp] theorem bs_length (xs : List Bool) : (bs xs).length = xs.length := by simp [bs]
theorem bs_set (xs : List Bool) (j : Nat) (x : Bool) : (bs xs).set j (.bool x) = bs (xs.set j x) := by simp [bs, List.map_set]
theorem info4 : (Try.prog.info? 4).map (fun i => (i.zero, i.size, i.bytes)) = some (some (.bool false), 1, 1) := by kernel_rfl
theorem made_false (K : Nat) : ((madeCells (Value.bool false).cells (K * 1)).toList).take (K * 1) = bs (List.replicate K false) := by
  have e : (Value.bool false).cells = #[.bool false] := rfl
  rw [e]
  unfold madeCells bs
  apply List.ext_getElem?
  intro j
  by_cases hj : j < K
  · simp [hj, Nat.mod_one]
  · simp [hj, Nat.mod_one]

def MetRel (b q : Nat) (W S T F : Nat) (S0 : SS) (mo : Option Addr) (mc : Nat) (C : Asn) (L : List Asn) (i : Value) (wr : World) : Prop :=
  ∃ (k : Nat) (S1 : SS) (met : List Bool), k ≤ 2 * T ∧ i = .int .i64 k ∧ RoundP S0 S1 k met ∧ Hold wr (rowA 4 1 mo S0.L.length mc (bs met) :: snA b S1 :: seA q W S T F :: C :: L)

theorem ack_same (S : SS) (n : Nat) : (ackS S n).window = S.window ∧ (ackS S n).timeout = S.timeout := by
  unfold ackS; split <;> exact ⟨rfl, rfl⟩

set_option maxHeartbeats 4000000 in
set_option maxRecDepth 20000 in
theorem round_good (W S T F : Nat) (hF : F ≤ 4294967295) (hf : fitsN W S T) (C : Asn) (ao : Option Addr) (n cap : Nat) (hO : RowsOf C 4 (OpRow C) ao n cap) (hn : n ≤ 140737488351232) (w : World) (L : List Asn) (h : Hold w (C :: L)) :
    Calls Try.prog 3 #[.agg #[.int .i64 W, .int .i64 S, .int .i64 T, .int .u32 F], .slice ao n cap] w fun e w' => e = .returned (.bool true) ∧ Hold w' (C :: L) := by
  have PN := fun w L h => new_good W S T F hf w L h
  have hN : (n : Int) ≤ 9223372036854775807 := by omega
  have hI0 : SI (newS W S T F) := by unfold fitsN at hf; exact SI.new (by omega) (by omega) (by omega) (by omega) (by omega) hF
  have HI0 := Lib.hid hI0
  have HO := Lib.hid hO
  have hT9 : (T : Int) ≤ 4611686018427387903 := by unfold fitsN at hf; omega
  have HF := Lib.hid hf
  clear hF hf hn hI0 hO
  go_enter Try.func3, Try.ntmps3
  have hb : Hold _ (seA w.heap.size W S T F :: C :: L) := h.box 24 [.int .i64 W, .int .i64 S, .int .i64 T, .int .u32 F]
  go_upto_region 1 with (fail)
  refine gen_world hb (fun w1 hb => ?_)
  generalize w.heap.size = q at *
  obtain ⟨g0, g1, g2, g3⟩ := seM hb
  go_upto_region 2 with (go_at_call 7; refine (PN _ _ hb).mono ?_; rintro e w2 ⟨b, rfl, h2⟩)
  clear PN g0 g1 g2 g3 hb
  go_upto_region 4 with (first
    | (go_at_call 8; refine (num_any _ _).mono ?_; rintro e w2 ⟨rfl, rfl⟩))
  go_wp2
  go_loopw [7] (fun i wr => OpsRel b q W S T F n C L i wr) (fun i _ => n - (intOf i).toNat)
  case atStart => exact ⟨0, newS W S T F, by omega, rfl, HI0.out, rfl, rfl, h2⟩
  case round =>
    clear h2 HI0
    obtain ⟨k, S1, hk, rfl, hSI, eW, eT, hr⟩ := hrel
    by_cases hlt : k < n
    · have hki : (k : Int) < n := by omega
      have hk0 : 0 ≤ (k : Int) := by omega
      obtain ⟨rb, ro, vs, rfl, ⟨kd, ys, ax, cx, N, near, rfl, hRy, hyl, hN4⟩, G⟩ := HO.out.at hlt (by omega) (hr.mv 2)
      have c0 : wr.cell? ⟨rb, ro + k * 4, none⟩ = some (.int .i64 kd) := G _ _ (hr.mv 2) 0 (by omega)
      have c1 : wr.cell? ⟨rb, ro + k * 4 + 1, none⟩ = some (.slice ax ys.length cx) := by rw [Nat.add_assoc]; exact G _ _ (hr.mv 2) 1 (by omega)
      have HSI := Lib.hid (And.intro hSI (And.intro eW eT))
      have HG := Lib.hid G
      clear G eW eT
      go_upto_block 2 with (fail)
      have hrel9 : ∀ (S9 : SS) (wr : World), SI S9 → S9.window = W → S9.timeout = T → Hold wr (snA b S9 :: seA q W S T F :: C :: L) → OpsRel b q W S T F n C L (.int .i64 ((k : Int) + 1)) wr := fun S9 wr a1 a2 a3 a4 => ⟨k + 1, S9, by omega, by go_num, a1, a2, a3, a4⟩
      have HREL := Lib.hid hrel9
      clear hrel9
      by_cases hk1 : kd = 1
      · subst hk1
        have PO := own_ok ys C ax ys.length cx hRy hyl
        by_cases he : sendE S1 ys.length = 0
        · have PS := fun ao cap w L h => send_good b S1 hSI ys (ownA ao ys.length cap ys) ao ys.length cap (ownA_reads rfl) he w L h
          have HA := Lib.hid (hSI.add he)
          have hyl' : (ys.length : Int) ≤ 9223372036854775807 := by omega
          clear hRy hyl he hSI
          go_wp2_with (first
            | (go_at_call 11; refine (PO _ _ (hr.mv 2)).mono ?_; rintro e w3 ⟨ao3, cap3, rfl, h3⟩; have h4 := h3.arr [2, 0, 1, 3])
            | (go_at_call 10; refine (PS _ _ _ _ h4).mono ?_; rintro e w5 ⟨rfl, h5⟩))
          have h6 := (h5.arr [1, 0, 3, 2]).drop
          go_roundw
          case rel => exact HREL.out _ _ HA.out HSI.out.2.1 HSI.out.2.2 h6
          case measure => simp [intOf]; omega
        · have PS := fun ao cap w L h => send_bad b S1 hSI ao ys.length cap hyl he w L h
          have hyl' : (ys.length : Int) ≤ 9223372036854775807 := by omega
          clear hRy hyl he hSI
          go_wp2_with (first
            | (go_at_call 11; refine (PO _ _ (hr.mv 2)).mono ?_; rintro e w3 ⟨ao3, cap3, rfl, h3⟩; have h4 := h3.arr [2, 0, 1, 3])
            | (go_at_call 10; refine (PS _ _ _ _ h4).mono ?_; rintro e w5 ⟨rfl, h5⟩))
          have h6 := (h5.arr [1, 0, 3, 2]).drop
          go_roundw
          case rel => exact HREL.out _ _ HSI.out.1 HSI.out.2.1 HSI.out.2.2 h6
          case measure => simp [intOf]; omega
      · have hd1 : (kd == 1) = false := by rw [beq_eq_false_iff_ne]; exact hk1
        by_cases hk2 : kd = 2
        · subst hk2
          have PS := fun w L h => slot_any b S1 hSI w L h
          clear hRy hyl hSI hd1 hk1
          go_wp2_with (first
            | (go_at_call 12; refine (PS _ _ hr).mono ?_; rintro e w5 ⟨fr, ok, rfl, h5⟩))
          go_roundw
          case rel => exact HREL.out _ _ HSI.out.1.slot ((slot_same S1).2.2.1.trans HSI.out.2.1) ((slot_same S1).2.2.2.1.trans HSI.out.2.2) h5
          case measure => simp [intOf]; omega
        · have hd2 : (kd == 2) = false := by rw [beq_eq_false_iff_ne]; exact hk2
          by_cases hk3 : kd = 3
          · subst hk3
            obtain ⟨m, hm⟩ : ∃ m : Nat, IntKind.u32.wrap ((S1.base : Int) + N) = m := ⟨(IntKind.u32.wrap ((S1.base : Int) + N)).toNat, by rw [IntKind.wrap_u32]; omega⟩
            have PA := fun w L h => ack_ok b S1 hSI m w L h
            have PB := fun w L h => base_ok b S1 hSI w L h
            clear hRy hyl hSI hd1 hd2 hk1 hk2 hN4
            go_upto_region 13 with (fail)
            have hS := hr.drew
            have c2 : wr.drew.cell? ⟨rb, ro + k * 4 + 2, none⟩ = some (.int .u32 N) := by rw [Nat.add_assoc]; exact HG.out _ _ (hS.mv 2) 2 (by omega)
            refine wp_region_Z (fun W => W.cell? ⟨rb, ro + k * 4 + 2, none⟩ = some (.int .u32 N)) [7] [] [0, 1, 3, 4, 5, 6, 8] [0, 1, 3, 4, 5, 6, 7, 2, 8, 9] (by kernel_rfl) (by kernel_rfl) ?_
            (repeat (first | (refine wpZ_st (v := ?_) _ (by rfl) (by rfl) (by rfl) (fun W hW => ?_) (by exact c2) ?_; (rotate_left; (focus ((try dsimp only at hW); go_simp; (try with_reducible rfl); done))); try simp only [Act.put, List.getElem_toArray, List.getElem_cons_zero, List.getElem_cons_succ, List.setIfInBounds_toArray, List.set_cons_zero, List.set_cons_succ]) | (refine wpZ_pu (v := ?_) _ (by rfl) (by rfl) (by rfl) (by rfl) (fun W => ?_) ?_; (rotate_left; (focus ((try dsimp only at hW); go_simp; (try with_reducible rfl); done))); try simp only [Act.put, List.getElem_toArray, List.getElem_cons_zero, List.getElem_cons_succ, List.setIfInBounds_toArray, List.set_cons_zero, List.set_cons_succ]) | (refine wpZ_no _ (by rfl) (by rfl) (by rfl) (by rfl) ?_; try simp only [Act.put, List.getElem_toArray, List.getElem_cons_zero, List.getElem_cons_succ, List.setIfInBounds_toArray, List.set_cons_zero, List.set_cons_succ]) | (refine wpZ_noS _ (by rfl) (by rfl) (by rfl) (by exact c2) ?_; try simp only [Act.put, List.getElem_toArray, List.getElem_cons_zero, List.getElem_cons_succ, List.setIfInBounds_toArray, List.set_cons_zero, List.set_cons_succ])))
            refine wpZ_eff _ (by rfl) (by rfl) (by rfl) (by rfl) (fun K hK => ?_)
            go_simp
            refine (PB _ _ hS).mono ?_
            rintro e w7 ⟨rfl, rfl⟩
            dsimp only
            (refine hK _ _ (fun hl => ?_) ?_; (first | (focus (cases hl; done)) | exact c2); clear hK K; try simp only [Act.put, List.getElem_toArray, List.getElem_cons_zero, List.getElem_cons_succ, List.setIfInBounds_toArray, List.set_cons_zero, List.set_cons_succ])
            (repeat (first | (refine wpZ_st (v := ?_) _ (by rfl) (by rfl) (by rfl) (fun W hW => ?_) (by exact c2) ?_; (rotate_left; (focus ((try dsimp only at hW); go_simp; (try with_reducible rfl); done))); try simp only [Act.put, List.getElem_toArray, List.getElem_cons_zero, List.getElem_cons_succ, List.setIfInBounds_toArray, List.set_cons_zero, List.set_cons_succ]) | (refine wpZ_pu (v := ?_) _ (by rfl) (by rfl) (by rfl) (by rfl) (fun W => ?_) ?_; (rotate_left; (focus ((try dsimp only at hW); go_simp; (try with_reducible rfl); done))); try simp only [Act.put, List.getElem_toArray, List.getElem_cons_zero, List.getElem_cons_succ, List.setIfInBounds_toArray, List.set_cons_zero, List.set_cons_succ]) | (refine wpZ_no _ (by rfl) (by rfl) (by rfl) (by rfl) ?_; try simp only [Act.put, List.getElem_toArray, List.getElem_cons_zero, List.getElem_cons_succ, List.setIfInBounds_toArray, List.set_cons_zero, List.set_cons_succ]) | (refine wpZ_noS _ (by rfl) (by rfl) (by rfl) (by exact c2) ?_; try simp only [Act.put, List.getElem_toArray, List.getElem_cons_zero, List.getElem_cons_succ, List.setIfInBounds_toArray, List.set_cons_zero, List.set_cons_succ])))
            refine wpZ_eff _ (by rfl) (by rfl) (by rfl) (by rfl) (fun K hK => ?_)
            go_simp
            refine (PA _ _ hS).mono ?_
            rintro e w8 ⟨rfl, h8⟩
            dsimp only
            (refine hK _ _ (fun hl => ?_) ?_; (first | (focus (cases hl; done)) | exact (by rw [Nat.add_assoc]; exact HG.out _ _ (h8.mv 2) 2 (by omega))); clear hK K; try simp only [Act.put, List.getElem_toArray, List.getElem_cons_zero, List.getElem_cons_succ, List.setIfInBounds_toArray, List.set_cons_zero, List.set_cons_succ])
            (simp only [wpZ])
            go_wp2
            go_roundw
            case rel => exact HREL.out _ _ (HSI.out.1.ack m) ((ack_same S1 m).1.trans HSI.out.2.1) ((ack_same S1 m).2.trans HSI.out.2.2) h8
            case measure => simp [intOf]; omega
          · have hd3 : (kd == 3) = false := by rw [beq_eq_false_iff_ne]; exact hk3
            clear hRy hyl hSI
            go_wp2
            go_roundw
            case rel => exact HREL.out _ _ HSI.out.1 HSI.out.2.1 HSI.out.2.2 hr
            case measure => simp [intOf]; omega
    · obtain rfl : k = n := by omega
      have hN9 : (k : Int) ≤ 9223372036854775807 := hN
      have PB := fun w L h => base_ok b S1 hSI w L h
      have PE := fun w L h => end_ok b S1 hSI w L h
      have hfin := hSI.fin
      have hmax := hSI.max
      have hll := hSI.ll
      have hs2 := hSI.s256
      have W1 : IntKind.u64.wrap (S1.base : Int) = S1.base := IntWalk.u64_in _ (by omega)
      have W2 : IntKind.u64.wrap (S1.fin : Int) = S1.fin := IntWalk.u64_in _ (by omega)
      have W3 : IntKind.u64.wrap ((S1.fin : Int) - S1.base) = S1.L.length := by rw [show (S1.fin : Int) - S1.base = S1.L.length by omega]; exact IntWalk.u64_in _ (by omega)
      have W4 : IntKind.i64.wrap (S1.L.length : Int) = S1.L.length := IntWalk.i64_in _ (by omega)
      have HSI := Lib.hid (And.intro hSI (And.intro eW eT))
      have hl256 : (S1.L.length : Int) ≤ 256 := by omega
      have HFM := Lib.hid (And.intro hfin hmax)
      clear hSI eW eT hfin hmax hll hs2 hN hlt hk
      by_cases h0 : S1.L.length = 0
      · have hz : ((S1.L.length : Int) == 0) = true := by rw [h0]; rfl
        clear h0
        go_wp2_with (first
          | (go_at_call 14; refine (PB _ _ hr).mono ?_; rintro e w5 ⟨rfl, rfl⟩)
          | (go_at_call 15; refine (PE _ _ hr).mono ?_; rintro e w5 ⟨rfl, rfl⟩)
          | (go_at_call 9; refine (live_ok _ _ hr).mono ?_; rintro e w6 ⟨rfl, h6⟩))
        go_ret
        exact ⟨rfl, h6.drop.drop⟩
      · have hz : ((S1.L.length : Int) == 0) = false := by rw [beq_eq_false_iff_ne]; omega
        have hl1 : 1 ≤ (S1.L.length : Int) := by omega
        clear h0
        obtain ⟨i4, hi4, hz0, hz1, hz2⟩ := info_parts info4
        go_upto_region 19 with (first
          | (go_at_call 14; refine (PB _ _ hr).mono ?_; rintro e w5 ⟨rfl, rfl⟩)
          | (go_at_call 15; refine (PE _ _ hr).mono ?_; rintro e w5 ⟨rfl, rfl⟩)
          | ((with_reducible refine wpList_plain (o := ⟨some 102, _, _, _, _, _⟩) rfl (fun K hK => ?_)); refine wp_make_h _ _ 45 (by rfl) 4 i4 (.bool false) 1 1 Try.underlying45 hi4 hz0 hz1 hz2 .i64 .i64 S1.L.length S1.L.length (by rfl) (by rfl) (by omega) (by omega) (by omega) (by omega) hr (fun mo w5 h5 => ?_); refine hK _ _ ?_; clear hK K; rw [Int.toNat_natCast, made_false] at h5))
        obtain ⟨mb, mp, rfl, -, -⟩ := h5.at (by omega)
        have hMB : ∀ (W : World) (xs : List Bool) (R : List Asn), Hold W (rowA 4 1 (some ⟨mb, mp, none⟩) S1.L.length S1.L.length (bs xs) :: R) → xs.length = S1.L.length ∧ (∀ j, j < S1.L.length → W.cell? ⟨mb, mp + j, none⟩ = (bs xs)[j]?) ∧ ∀ j, W.frozen? ⟨mb, j, none⟩ = false := fun W xs R hW => by
          obtain ⟨b', o', e', hc, hf⟩ := hW.at (by omega)
          simp only [Option.some.injEq, Addr.mk.injEq, and_true] at e'
          obtain ⟨rfl, rfl⟩ := e'
          exact ⟨by have := hW.bounds.1; simpa using this, fun j hj => hc j (by omega), hf⟩
        have HMB := Lib.hid hMB
        have HR0 : Hid (r0 S1 < T) := Lib.hid (by have := r0_lt HSI.out.1; rw [HSI.out.2.2] at this; exact this)
        have HT1 : Hid (1 ≤ T) := Lib.hid (by have := HSI.out.1.t1; rw [HSI.out.2.2] at this; exact this)
        clear hMB hi4 hz0 hz1 hz2 hr PB PE
        go_wp2
        go_loopw [11] (fun i wr => MetRel b q W S T F S1 (some ⟨mb, mp, none⟩) S1.L.length C L i wr) (fun i _ => 2 * T - (intOf i).toNat)
        case atStart => exact ⟨0, S1, List.replicate S1.L.length false, by omega, rfl, RoundP.start HSI.out.1, h5⟩
        case round =>
          clear h5
          obtain ⟨p, Sx, met, hp, rfl, RP, hr⟩ := hrel
          obtain ⟨-, -, gT, -⟩ := seM (hr.mv 2)
          by_cases hlt : p < 2 * T
          · have hpi : (p : Int) < 2 * (T : Int) := by omega
            have hp0 : 0 ≤ (p : Int) := by omega
            have hT1 : 1 ≤ (T : Int) := by have := HT1.out; omega
            have hst := RP.step (by omega : 0 < S1.L.length)
            have HRP := Lib.hid hst
            obtain ⟨t1, t2, t3, t4, t5, t6, t7⟩ := tick_same Sx
            have hSx := RP.si
            have e1 := RP.base
            have e2 := RP.L
            have hbn := hSx.tick.bn
            have hfinx := hSx.fin
            obtain ⟨hf1, hf2⟩ := HFM.out
            clear hst
            by_cases hrd : ready (tickS Sx) = true
            · have hsD : sentD Sx = some ((tickS Sx).next - S1.base) := by unfold sentD; rw [if_pos hrd, t1, e1]
              have PS := slot_yes b Sx hSx hrd wr _ (hr.mv 1)
              have hrd2 := hrd
              simp only [ready, decide_eq_true_eq] at hrd2
              have hml := RP.len
              generalize (tickS Sx).next = nx at *
              have hnx1 : S1.base ≤ nx := by omega
              have hnx2 : nx < S1.base + S1.L.length := by rw [e2, e1] at hfinx; omega
              obtain ⟨d, hd⟩ : ∃ d, nx - S1.base = d := ⟨_, rfl⟩
              have hdl : d < S1.L.length := by omega
              rw [hd] at hsD
              have W5 : IntKind.u64.wrap (nx : Int) = nx := IntWalk.u64_in _ (by omega)
              have W6 : IntKind.u64.wrap ((S1.base : Int) + S1.L.length) = (S1.base : Int) + S1.L.length := IntWalk.u64_in _ (by omega)
              have W7 : IntKind.u64.wrap ((nx : Int) - S1.base) = d := by rw [show (nx : Int) - S1.base = d by omega]; exact IntWalk.u64_in _ (by omega)
              have W8 : IntKind.u64.wrap (S1.L.length : Int) = S1.L.length := IntWalk.u64_in _ (by omega)
              have hd1 : decide (nx < S1.base) = false := by simp; omega
              have hd2 : decide (S1.base + S1.L.length ≤ nx) = false := by simp; omega
              have hd3 : decide ((S1.base : Int) + S1.L.length ≤ nx) = false := by simp; omega
              have hdi : (d : Int) < S1.L.length := by omega
              have hd0 : 0 ≤ (d : Int) := by omega
              have HSD := Lib.hid hsD
              clear RP t1 t2 t3 t4 t5 t6 t7 e1 e2 hbn hfinx hf1 hf2 hSx hrd hrd2 hnx1 hnx2 hd hsD hml hdl
              go_upto_region 23 with (go_at_call 12; refine PS.mono ?_; rintro e w6 ⟨x, a6, cap6, -, -, rfl, h6⟩)
              clear PS hr gT
              obtain ⟨q8, hq8⟩ : ∃ q, w6.heap.size = q := ⟨_, rfl⟩
              have h7 := h6.drop.box 39 [.int .i64 2, .int .u32 nx, .int .u32 0, .slice a6 x.length cap6]
              simp only [hq8] at h7 ⊢
              refine gen_world h7 (fun w7 h7 => ?_)
              clear h6 hq8
              have k1 : w7.cell? ⟨q8, 1, none⟩ = some (.int .u32 nx) := h7.cell 1
              obtain ⟨-, -, gT, -⟩ := seM (h7.mv 3)
              have h8 := (h7.mv 2)
              (try dsimp only [Go.Own.front, Go.Own.arrA, Go.Own.atA, Go.Own.dropA, List.length_cons, List.length_nil, Nat.zero_add, Nat.reduceAdd] at h8)
              obtain ⟨-, hcd, hfd⟩ := HMB.out _ _ _ h8
              have kd := hcd d (by omega)
              have fd := hfd (mp + d)
              obtain ⟨y9, hy9⟩ : ∃ y9, (bs met)[d]? = some y9 := ⟨(bs met)[d]'(by have := (HMB.out _ _ _ h8).1; simp; omega), List.getElem?_eq_getElem _⟩
              rw [hy9] at kd
              have HS := h8.put d (by omega) (.bool true)
              rw [bs_set] at HS
              clear hcd hfd hy9
              go_upto_region 28 with (fail)
              refine gen_world HS (fun w8 HS => ?_)
              clear k1 gT h8 h7 kd fd
              have HX := HS.arr [0, 2, 3, 4, 1]
              (try dsimp only [Go.Own.front, Go.Own.arrA, Go.Own.atA, Go.Own.dropA, List.length_cons, List.length_nil, Nat.zero_add, Nat.reduceAdd] at HX)
              have HY := (HX.mv 4).drop
              (try dsimp only [Go.Own.front, Go.Own.arrA, Go.Own.atA, Go.Own.dropA, List.length_cons, List.length_nil, Nat.zero_add, Nat.reduceAdd] at HY)
              have eM : mark met (sentD Sx) = met.set d true := by rw [HSD.out]; rfl
              rw [← eM] at HY
              obtain ⟨-, -, gT, -⟩ := seM (HY.mv 2)
              clear HS HX eM
              by_cases hpT : p + 1 = T
              · have hd5 : ((p : Int) == (T : Int) - 1) = true := by rw [beq_iff_eq]; omega
                have hb0 : (mark met (sentD Sx))[0]? = some true := HRP.out.b (by have := HR0.out; omega)
                obtain ⟨-, hc0, -⟩ := HMB.out _ _ _ HY
                have c0 := hc0 0 (by omega)
                rw [Nat.add_zero] at c0
                have c0' : _ = some (Value.bool true) := c0.trans (by simp [bs, hb0])
                clear c0 hb0 hc0 hpT
                go_wp2
                go_roundw
                case rel => exact ⟨p + 1, slotS Sx, mark met (sentD Sx), by omega, by go_num, HRP.out, HY⟩
                case measure => simp [intOf]; omega
              · have hd5 : ((p : Int) == (T : Int) - 1) = false := by rw [beq_eq_false_iff_ne]; omega
                clear hpT
                go_wp2
                go_roundw
                case rel => exact ⟨p + 1, slotS Sx, mark met (sentD Sx), by omega, by go_num, HRP.out, HY⟩
                case measure => simp [intOf]; omega
            · have hrd' : ready (tickS Sx) = false := by simpa using hrd
              have hsD : sentD Sx = none := by unfold sentD; rw [hrd']; rfl
              have PS := slot_no b Sx hSx hrd' wr _ (hr.mv 1)
              have HSD := Lib.hid hsD
              clear RP t1 t2 t3 t4 t5 t6 t7 e1 e2 hbn hfinx hf1 hf2 hSx hrd hrd' hsD
              go_upto_region 23 with (go_at_call 12; refine PS.mono ?_; rintro e w6 ⟨rfl, h6⟩)
              clear PS hr gT
              obtain ⟨q8, hq8⟩ : ∃ q, w6.heap.size = q := ⟨_, rfl⟩
              have h7 := h6.box 39 [.int .i64 0, .int .u32 0, .int .u32 0, .slice none 0 0]
              simp only [hq8] at h7 ⊢
              refine gen_world h7 (fun w7 h7 => ?_)
              clear h6 hq8
              have k1 : w7.cell? ⟨q8, 1, none⟩ = some (.int .u32 0) := h7.cell 1
              have HX := h7.arr [2, 1, 3, 4, 0]
              (try dsimp only [Go.Own.front, Go.Own.arrA, Go.Own.atA, Go.Own.dropA, List.length_cons, List.length_nil, Nat.zero_add, Nat.reduceAdd] at HX)
              have HY := (HX.mv 4).drop
              (try dsimp only [Go.Own.front, Go.Own.arrA, Go.Own.atA, Go.Own.dropA, List.length_cons, List.length_nil, Nat.zero_add, Nat.reduceAdd] at HY)
              have eM : mark met (sentD Sx) = met := by rw [HSD.out]; rfl
              rw [← eM] at HY
              obtain ⟨-, -, gT, -⟩ := seM (HY.mv 2)
              clear h7 HX eM
              go_upto_region 28 with (fail)
              by_cases hpT : p + 1 = T
              · have hd5 : ((p : Int) == (T : Int) - 1) = true := by rw [beq_iff_eq]; omega
                have hb0 : (mark met (sentD Sx))[0]? = some true := HRP.out.b (by have := HR0.out; omega)
                obtain ⟨-, hc0, -⟩ := HMB.out _ _ _ HY
                have c0 := hc0 0 (by omega)
                rw [Nat.add_zero] at c0
                have c0' : _ = some (Value.bool true) := c0.trans (by simp [bs, hb0])
                clear c0 hb0 hc0 hpT
                go_wp2
                go_roundw
                case rel => exact ⟨p + 1, slotS Sx, mark met (sentD Sx), by omega, by go_num, HRP.out, HY⟩
                case measure => simp [intOf]; omega
              · have hd5 : ((p : Int) == (T : Int) - 1) = false := by rw [beq_eq_false_iff_ne]; omega
                clear hpT
                go_wp2
                go_roundw
                case rel => exact ⟨p + 1, slotS Sx, mark met (sentD Sx), by omega, by go_num, HRP.out, HY⟩
                case measure => simp [intOf]; omega
          · obtain rfl : p = 2 * T := by omega
            have hmet : W ≤ T → ∀ j, j < S1.L.length → j < W → met[j]? = some true := fun hWT j h1 h2 => by
              have e2 := RP.L
              have e3 : Sx.window = W := RP.window.trans HSI.out.2.1
              have e4 : Sx.timeout = T := RP.timeout.trans HSI.out.2.2
              have hr0 := HR0.out
              exact RP.d (by omega) j (by rw [e2, e3]; omega)
            have HMET := Lib.hid hmet
            have hW9 : (W : Int) ≤ 9223372036854775807 := by have := HF.out; unfold fitsN at this; omega
            clear RP hmet
            go_wp2
            go_loopw [15] (fun i wr => ∃ j : Nat, j ≤ S1.L.length ∧ i = .int .i64 j ∧ Hold wr (rowA 4 1 (some ⟨mb, mp, none⟩) S1.L.length S1.L.length (bs met) :: snA b Sx :: seA q W S T F :: C :: L)) (fun i _ => S1.L.length - (intOf i).toNat)
            case atStart => exact ⟨0, by omega, rfl, hr⟩
            case round =>
              clear hr gT
              obtain ⟨j, hj, rfl, hr⟩ := hrel
              obtain ⟨gW, -, gT, -⟩ := seM (hr.mv 2)
              have hj0 : 0 ≤ (j : Int) := by omega
              have hcase : (S1.L.length ≤ j) ∨ (j < S1.L.length ∧ W ≤ j) ∨ (j < S1.L.length ∧ j < W ∧ T < W) ∨ (j < S1.L.length ∧ j < W ∧ W ≤ T) := by omega
              rcases hcase with h1 | ⟨h1, h2⟩ | ⟨h1, h2, h3⟩ | ⟨h1, h2, h3⟩
              · have hc1 : decide (j < S1.L.length) = false := by simp; omega
                clear h1
                go_wp2_with (go_at_call 9; refine (live_ok _ _ hr).mono ?_; rintro e w6 ⟨rfl, h6⟩)
                go_ret
                exact ⟨rfl, h6.drop.drop.drop⟩
              · have hc1 : decide (j < S1.L.length) = true := by simp; omega
                have hc2 : decide (j < W) = false := by simp; omega
                clear h1 h2
                go_wp2_with (go_at_call 9; refine (live_ok _ _ hr).mono ?_; rintro e w6 ⟨rfl, h6⟩)
                go_ret
                exact ⟨rfl, h6.drop.drop.drop⟩
              · have hc1 : decide (j < S1.L.length) = true := by simp; omega
                have hc2 : decide (j < W) = true := by simp; omega
                have hc3 : decide (W ≤ T) = false := by simp; omega
                clear h1 h2 h3
                go_wp2_with (go_at_call 9; refine (live_ok _ _ hr).mono ?_; rintro e w6 ⟨rfl, h6⟩)
                go_ret
                exact ⟨rfl, h6.drop.drop.drop⟩
              · have hc1 : decide (j < S1.L.length) = true := by simp; omega
                have hc2 : decide (j < W) = true := by simp; omega
                have hc3 : decide (W ≤ T) = true := by simp; omega
                have hb0 := HMET.out h3 j h1 h2
                obtain ⟨-, hc0, -⟩ := HMB.out _ _ _ hr
                have c0 := hc0 j h1
                have c0' : _ = some (Value.bool true) := c0.trans (by simp [bs, hb0])
                have hji : (j : Int) < S1.L.length := by omega
                have HJ := Lib.hid h1
                clear c0 hc0 hb0 h1 h2 h3
                go_wp2
                go_roundw
                case rel => exact ⟨j + 1, HJ.out, by go_num, hr⟩
                case measure => have := HJ.out; simp [intOf]; omega

theorem round_walk (W S T : Int) (F : Nat) (hF : F ≤ 4294967295) (C : Asn) (ao : Option Addr) (n cap : Nat) (hO : RowsOf C 4 (OpRow C) ao n cap) (hn : n ≤ 140737488351232) (w : World) (L : List Asn) (h : Hold w (C :: L)) :
    Calls Try.prog 3 #[.agg #[.int .i64 W, .int .i64 S, .int .i64 T, .int .u32 F], .slice ao n cap] w fun e w' => e = .returned (.bool true) ∧ Hold w' (C :: L) := by
  by_cases hf : fitsN W S T
  · have hf2 := hf
    unfold fitsN at hf2
    obtain ⟨W', rfl⟩ : ∃ W' : Nat, W = W' := ⟨W.toNat, by omega⟩
    obtain ⟨S', rfl⟩ : ∃ S' : Nat, S = S' := ⟨S.toNat, by omega⟩
    obtain ⟨T', rfl⟩ : ∃ T' : Nat, T = T' := ⟨T.toNat, by omega⟩
    exact round_good W' S' T' F hF hf C ao n cap hO hn w L h
  · exact round_bad W S T F hf _ w _ h

end Go.Proofs.Ytjnjbmkkfkdhcaa
