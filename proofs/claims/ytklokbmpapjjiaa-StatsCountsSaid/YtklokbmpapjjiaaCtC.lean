/- The walk of StatsCounted. -/
import Derived.Test.YtklokbmpapjjiaaCtB
open Go.RowKit Go.Own
namespace Go.Proofs.Ytklokbmpapjjiaa

theorem info24 : (Try.prog.info? 24).map (·.size) = some 32 := by kernel_rfl
theorem u32s_one (n : Nat) (c : Nat → Nat) : ∀ v ∈ u32s n c, v.oneCell' = true := by
  intro v hv
  simp only [u32s, List.mem_map] at hv
  obtain ⟨_, _, rfl⟩ := hv
  rfl
theorem u32s_zero : (u32s 32 (fun _ => 0)).toArray = (List.toArray (.int .u32 0 :: .int .u32 0 :: .int .u32 0 :: .int .u32 0 :: .int .u32 0 :: .int .u32 0 :: .int .u32 0 :: .int .u32 0 :: .int .u32 0 :: .int .u32 0 :: .int .u32 0 :: .int .u32 0 :: .int .u32 0 :: .int .u32 0 :: .int .u32 0 :: .int .u32 0 :: .int .u32 0 :: .int .u32 0 :: .int .u32 0 :: .int .u32 0 :: .int .u32 0 :: .int .u32 0 :: .int .u32 0 :: .int .u32 0 :: .int .u32 0 :: .int .u32 0 :: .int .u32 0 :: .int .u32 0 :: .int .u32 0 :: .int .u32 0 :: .int .u32 0 :: .int .u32 0 :: [])) := by rfl
theorem _root_.Go.Own.Hold.boxW {w : World} {L : List Asn} (h : Hold w L) : Hold (w.alloc (.cells (List.toArray (.int .u32 0 :: .int .u32 0 :: .int .u32 0 :: .int .u32 0 :: .int .u32 0 :: .int .u32 0 :: .int .u32 0 :: .int .u32 0 :: .int .u32 0 :: .int .u32 0 :: .int .u32 0 :: .int .u32 0 :: .int .u32 0 :: .int .u32 0 :: .int .u32 0 :: .int .u32 0 :: .int .u32 0 :: .int .u32 0 :: .int .u32 0 :: .int .u32 0 :: .int .u32 0 :: .int .u32 0 :: .int .u32 0 :: .int .u32 0 :: .int .u32 0 :: .int .u32 0 :: .int .u32 0 :: .int .u32 0 :: .int .u32 0 :: .int .u32 0 :: .int .u32 0 :: .int .u32 0 :: [])) 24)) (cellsA w.heap.size 24 (u32s 32 fun _ => 0) :: L) := by
  have := h.box 24 (u32s 32 fun _ => 0)
  rwa [u32s_zero] at this
theorem wp_store24 {ops : Array Oper} {rest : List Oper} {op : Oper} {a : Act} {w : World} {Q : Exit → Act → World → Prop} (hgd : op.guard = none) (x y : Operand) (ho : op.op = .store 24 x y)
    (b : Nat) (hx : a.eval x = .pointer (some ⟨b, 0, none⟩)) (d : Nat → Nat) (hy : a.eval y = .agg (u32s 32 d).toArray) {c : Nat → Nat} {L : List Asn} (h : Hold w (cellsA b 24 (u32s 32 c) :: L))
    (k : ∀ w', Hold w' (cellsA b 24 (u32s 32 d) :: L) → wpList Try.prog ops Q rest (a.put op.dst undef) w') : wpList Try.prog ops Q (op :: rest) a w :=
  wpList_storeAll_h hgd 24 x y ho b hx (u32s 32 d) hy h (by rw [u32s_length, u32s_length]) (by rw [info24, u32s_length]) (u32s_one 32 d) k
theorem exec_load24w {ev : Operand → Value} {o : Oper} {x : Operand} (ho : o.op = .load 24 x) {b : Nat} (hx : ev x = .pointer (some ⟨b, 0, none⟩)) {c : Nat → Nat} {L : List Asn} {W : World} (h : Hold W (cellsA b 24 (u32s 32 c) :: L)) : (execOp ev o).run Try.prog W = .ok (.value (.agg (u32s 32 c).toArray)) W := by
  unfold execOp
  simp only [ho, hx, Sem.run_bind, h.loadAll 24 _ Try.underlying24 rfl (by rw [info24, u32s_length]), Result.andThen_ok, Sem.run_pure]
theorem _root_.Go.Own.Hold.setw {w : World} {b : Nat} {T : TypeId} {c : Nat → Nat} {L : List Asn} (h : Hold w (cellsA b T (u32s 32 c) :: L)) (i x : Nat) : Hold (w.setCell ⟨b, i, none⟩ (.int .u32 x)) (cellsA b T (u32s 32 (upd c i x)) :: L) := by
  have := h.st i (.int .u32 x)
  rwa [u32s_set] at this

def nwD (m q k : Nat) : Nat → Nat := fun i => if (i / 16 < q ∧ i % 16 < m) ∨ (i / 16 = q ∧ i % 16 < k) then 1 else 0
theorem nwD_zero (m : Nat) : nwD m 0 0 = fun _ => 0 := by funext i; simp [nwD]
theorem nwD_step (m q k i j : Nat) (hk : k < 16) (hj : j = 16 * q + k) : upd (nwD m q k) j 1 i = nwD m q (k + 1) i := by
  unfold upd nwD
  by_cases h1 : i = j
  · rw [if_pos h1, if_pos (.inr (by omega))]
  · rw [if_neg h1]
    by_cases h2 : (i / 16 < q ∧ i % 16 < m) ∨ (i / 16 = q ∧ i % 16 < k)
    · rw [if_pos h2, if_pos (by omega)]
    · rw [if_neg h2, if_neg (by omega)]
theorem nwD_next (m q i : Nat) : nwD m q m i = nwD m (q + 1) 0 i := by
  unfold nwD
  by_cases h1 : (i / 16 < q ∧ i % 16 < m) ∨ (i / 16 = q ∧ i % 16 < m)
  · rw [if_pos h1, if_pos (by omega)]
  · rw [if_neg h1, if_neg (by omega)]
theorem nwD_end (m i : Nat) (hi : i < 32) : nwD m 2 0 i = newC m i := by
  unfold nwD newC
  by_cases h1 : i % 16 < m
  · rw [if_pos (by omega), if_pos h1]
  · rw [if_neg (by omega), if_neg h1]

/-- What a counter's counts are. -/
structure Cnt (s : SV) (m : Nat) : Prop where
  lv : s.lv = (m : Int)
  lo : 2 ≤ m
  hi : m ≤ 16
  le : ∀ i, i < 32 → s.c i ≤ 4095
  above : ∀ i, i < 32 → m ≤ i % 16 → s.c i = 0
  below : ∀ i, i < 32 → i % 16 < m → 1 ≤ s.c i

theorem Cnt.ok {s : SV} {m : Nat} (h : Cnt s m) : s.ok := by
  have := h.lv; have := h.lo; have := h.hi
  exact ⟨by omega, by omega, fun i hi => by have := h.le i hi; omega⟩
theorem Cnt.check {s : SV} {m : Nat} (h : Cnt s m) : Go.Proofs.Ytklokbmpapjjiaa.check s = 0 := by
  have h1 := h.lv
  have h2 := h.lo
  have h3 := h.hi
  refine check_of (by omega) (by omega) (fun r hr => good_of ?_) (r := 0) (q := 0) (by omega) (by have := h.below 0 (by omega) (by omega); omega) (by omega) (by have := h.below 16 (by omega) (by omega); show s.c 16 ≠ 0; omega)
  have a1 := h.le r (by omega)
  have a2 := h.le (16 + r) (by omega)
  by_cases hrm : r < m
  · have := h.below r (by omega) (by omega); omega
  · have b1 := h.above r (by omega) (by omega)
    have b2 := h.above (16 + r) (by omega) (by omega)
    omega
theorem new_cnt {m : Nat} (h1 : 2 ≤ m) (h2 : m ≤ 16) : Cnt ⟨m, newC m⟩ m := by
  refine ⟨rfl, h1, h2, fun i hi => ?_, fun i hi hm => ?_, fun i hi hm => ?_⟩
  · show newC m i ≤ 4095
    unfold newC; split <;> omega
  · show newC m i = 0
    unfold newC; rw [if_neg (by omega)]
  · show 1 ≤ newC m i
    unfold newC; rw [if_pos hm]; omega
theorem Cnt.add {s : SV} {m : Nat} (h : Cnt s m) (bit lev : Nat) : Cnt (addV s bit lev) m := by
  unfold addV
  split
  · rename_i e
    have h1 := h.lv
    have hi := h.hi
    have hb : ¬ 1 < bit := fun hb => by rw [(add_1 hb).1] at e; cases e
    have hl : ¬ s.lv ≤ (lev : Int) := fun hl => by rw [(add_2 (by omega) hl).1] at e; cases e
    have hc : ¬ 4095 ≤ s.c (16 * bit + lev) := fun hc => by rw [(add_3 (by omega) (by omega) hc).1] at e; cases e
    refine ⟨h1, h.lo, hi, fun i hi => ?_, fun i hi hm => ?_, fun i hi hm => ?_⟩
    · show upd s.c (16 * bit + lev) _ i ≤ 4095
      unfold upd; split
      · omega
      · exact h.le i hi
    · show upd s.c (16 * bit + lev) _ i = 0
      unfold upd; rw [if_neg (by omega)]; exact h.above i hi hm
    · show 1 ≤ upd s.c (16 * bit + lev) _ i
      unfold upd; split
      · omega
      · exact h.below i hi hm
  · exact h

def CntRel (n m t b : Nat) (C : Asn) (L : List Asn) (i : Value) (wr : World) : Prop := ∃ (k : Nat) (s : SV), k ≤ n ∧ i = .int .i64 k ∧ Cnt s m ∧ Hold wr (cellsA t 24 (u32s 32 s.c) :: cellsA b 85 (encC s) :: C :: L)

set_option maxHeartbeats 8000000 in
set_option maxRecDepth 20000 in
theorem counted_walk (lv : Int) (ao : Option Addr) (n cap : Nat) (l : List UInt8) (C : Asn) (hR : Reads C 2 (.slice ao n cap) n (ub l)) (hl1 : -9223372036854775808 ≤ lv) (hl2 : lv ≤ 9223372036854775807) (hn : n ≤ 140737488351232) (w : World) (L : List Asn) (h : Hold w (C :: L)) :
    Calls Try.prog 6 #[.int .i64 lv, .slice ao n cap] w fun e w' => e = .returned (.bool true) ∧ Hold w' (C :: L) := by
  obtain ⟨hm1, hm2⟩ := goodM_le lv
  have hme := goodM_eq lv
  have b1 := Int.lt_tmod_of_pos lv (b := 15) (by omega)
  have b2 := Int.tmod_lt_of_pos lv (b := 15) (by omega)
  generalize goodM lv = m at *
  generalize hX : lv.tmod 15 = X at *
  go_enter Try.func6, Try.ntmps6
  go_upto_region 5 with (first
    | (go_at_call 29; refine (cnew_ok m hm1 hm2 _ _ h).mono ?_; rintro e w1 ⟨b, rfl, h1⟩)
    | (go_at_call 18; refine (num_any _ _ _ h1).mono ?_; rintro e w' ⟨rfl, rfl⟩)
    | (go_at_call 21; refine (knows_ok _ _ h1).mono ?_; rintro e w2 ⟨rfl, h2⟩))
  clear h h1 hX b1 b2 hme
  have z2 := h2.boxW
  go_upto_region 6 with (refine wp_store24 rfl _ _ (by rfl) w2.heap.size (by rfl) (fun _ => 0) (by rfl) z2 (fun w3 h3 => ?_))
  generalize w2.heap.size = t at *
  clear z2 h2
  go_wp2
  go_loopw [8] (fun i wr => ∃ q : Nat, q ≤ 2 ∧ i = .int .i64 q ∧ Hold wr (cellsA t 24 (u32s 32 (nwD m q 0)) :: cellsA b 85 (encC ⟨m, newC m⟩) :: C :: L)) (fun i _ => 2 - (intOf i).toNat)
  case atStart => exact ⟨0, by omega, rfl, by rw [nwD_zero]; exact h3⟩
  case round =>
    obtain ⟨q, hq, hi, hr⟩ := hrel
    clear h3
    by_cases hlt : q < 2
    · obtain ⟨wo, rfl⟩ : ∃ wo : World, wo = wr := ⟨_, rfl⟩
      obtain rfl | rfl : q = 0 ∨ q = 1 := by omega
      · have hi : _ = Value.int IntKind.i64 0 := hi
        subst hi
        go_wp2
        go_loopw [9] (fun i wr => ∃ k : Nat, k ≤ m ∧ i = .int .i64 k ∧ Hold wr (cellsA t 24 (u32s 32 (nwD m 0 k)) :: cellsA b 85 (encC ⟨m, newC m⟩) :: C :: L)) (fun i _ => m - (intOf i).toNat)
        case atStart => exact ⟨0, by omega, rfl, hr⟩
        case round =>
          obtain ⟨k, hk, rfl, hr2⟩ := hrel
          by_cases hlt2 : k < m
          · have hki : (k : Int) < m := by omega
            have hk16 : (k : Int) < 16 := by omega
            have ka := (hr2.cell (k)).trans (u32s_get (i := k) (by omega))
            have fa := hr2.frozen (k)
            have HX := (hr2.setw (k) 1).as (ds := u32s 32 (nwD m 0 (k + 1))) (u32s_congr fun i hi => nwD_step m 0 k i _ (by omega) (by omega))
            simp only [Int.natCast_one] at HX
            go_wp2
            go_roundw
            case rel => exact ⟨k + 1, by omega, by go_num, HX⟩
            case measure => simp [intOf]; omega
          · obtain rfl : m = k := by omega
            go_wp2
            go_roundw
            case rel => exact ⟨1, by omega, by go_num, hr2.as (ds := u32s 32 (nwD m 1 0)) (u32s_congr fun i _ => nwD_next m 0 i)⟩
            case measure => simp [intOf]
      · have hi : _ = Value.int IntKind.i64 1 := hi
        subst hi
        go_wp2
        go_loopw [9] (fun i wr => ∃ k : Nat, k ≤ m ∧ i = .int .i64 k ∧ Hold wr (cellsA t 24 (u32s 32 (nwD m 1 k)) :: cellsA b 85 (encC ⟨m, newC m⟩) :: C :: L)) (fun i _ => m - (intOf i).toNat)
        case atStart => exact ⟨0, by omega, rfl, hr⟩
        case round =>
          obtain ⟨k, hk, rfl, hr2⟩ := hrel
          by_cases hlt2 : k < m
          · have hki : (k : Int) < m := by omega
            have hk16 : (k : Int) < 16 := by omega
            have ka := (hr2.cell (16 + k)).trans (u32s_get (i := 16 + k) (by omega))
            have fa := hr2.frozen (16 + k)
            have HX := (hr2.setw (16 + k) 1).as (ds := u32s 32 (nwD m 1 (k + 1))) (u32s_congr fun i hi => nwD_step m 1 k i _ (by omega) (by omega))
            simp only [Int.natCast_one] at HX
            go_wp2
            go_roundw
            case rel => exact ⟨k + 1, by omega, by go_num, HX⟩
            case measure => simp [intOf]; omega
          · obtain rfl : m = k := by omega
            go_wp2
            go_roundw
            case rel => exact ⟨2, by omega, by go_num, hr2.as (ds := u32s 32 (nwD m 2 0)) (u32s_congr fun i _ => nwD_next m 1 i)⟩
            case measure => simp [intOf]
    · obtain rfl : q = 2 := by omega
      have hi : _ = Value.int IntKind.i64 2 := hi
      subst hi
      have hr := hr.as (ds := u32s 32 (newC m)) (u32s_congr fun i hi => nwD_end m i hi)
      have hcnt := new_cnt hm1 hm2
      go_wp2
      go_loopw [10] (fun i wr => CntRel n m t b C L i wr) (fun i _ => n - (intOf i).toNat)
      case atStart => exact ⟨0, _, by omega, rfl, hcnt, hr⟩
      case round =>
        clear hr hcnt
        obtain ⟨k, s, hk, rfl, hcnt, hr⟩ := hrel
        have HC := Lib.hid hcnt
        have hlv := hcnt.lv
        clear hcnt
        obtain ⟨ls, c⟩ := s
        simp only at hlv hr
        subst hlv
        obtain ⟨S', hrd⟩ := (hr.mv 2).reads hR
        obtain ⟨hbn1, hbn2, hbn3⟩ := hrd.bounds
        unfold maxLen at hbn3
        by_cases hltn : k < n
        · have hki : (k : Int) < n := by omega
          obtain ⟨rb, ro, rfl, -, -, hcs⟩ := hrd.addr (by omega)
          have hll : l.length = n * 2 := by simpa using hbn1
          have c0 := hcs (k * 2) (by omega)
          have c1 : wr.cell? ⟨rb, ro + k * 2 + 1, none⟩ = (ub l)[k * 2 + 1]? := by rw [Nat.add_assoc]; exact hcs (k * 2 + 1) (by omega)
          rw [ub_get l _ (by omega)] at c0 c1
          generalize (l[k * 2]'(by omega)) = x at c0
          generalize (l[k * 2 + 1]'(by omega)) = y at c1
          clear hcs hbn1 hrd
          have hx : x.toNat < 256 := x.toNat_lt
          have hy : y.toNat < 256 := y.toNat_lt
          generalize x.toNat = bit at *
          generalize y.toNat = lev at *
          have A := fun w L h => cadd_ok ⟨m, c⟩ bit lev (by show (m : Int) ≤ 16; omega) hx hy b w L h
          by_cases h1 : 1 < bit
          · obtain ⟨e1, e2⟩ := add_1 (s := ⟨m, c⟩) (lev := lev) h1
            rw [e1, e2] at A
            clear e1 e2
            go_upto_region 19 with (first
              | (go_at_call 30; refine (A _ _ (hr.mv 1)).mono ?_; rintro e w5 ⟨rfl, h5⟩)
              | (go_at_call 18; refine (num_any _ _ _ h5).mono ?_; rintro e w' ⟨rfl, rfl⟩))
            go_wp2
            go_roundw
            case rel => exact ⟨k + 1, ⟨m, c⟩, by omega, by go_num, HC.out, h5.mv 1⟩
            case measure => simp [intOf]; omega
          · by_cases h2 : (m : Int) ≤ (lev : Int)
            · obtain ⟨e1, e2⟩ := add_2 (s := ⟨m, c⟩) (bit := bit) (by omega) h2
              rw [e1, e2] at A
              clear e1 e2
              have h1' : bit < 2 := by omega
              clear h1
              go_upto_region 19 with (first
                | (go_at_call 30; refine (A _ _ (hr.mv 1)).mono ?_; rintro e w5 ⟨rfl, h5⟩)
                | (go_at_call 18; refine (num_any _ _ _ h5).mono ?_; rintro e w' ⟨rfl, rfl⟩))
              go_wp2
              go_roundw
              case rel => exact ⟨k + 1, ⟨m, c⟩, by omega, by go_num, HC.out, h5.mv 1⟩
              case measure => simp [intOf]; omega
            · have h2' : (lev : Int) < m := by omega
              have hl16 : (lev : Int) < 16 := by omega
              clear h2
              obtain rfl | rfl : bit = 0 ∨ bit = 1 := by omega
              · have ga := (hr.cell (lev)).trans (u32s_get (i := lev) (by omega))
                by_cases h3 : 4095 ≤ c (lev)
                · obtain ⟨e1, e2⟩ := add_3 (s := ⟨m, c⟩) (bit := 0) (lev := lev) (by omega) h2' (by rw [show 16 * 0 + lev = lev from by omega]; exact h3)
                  rw [e1, e2] at A
                  have h3' : (4095 : Int) ≤ c (lev) := by omega
                  clear e1 e2 h3
                  go_upto_region 19 with (first
                    | (go_at_call 30; refine (A _ _ (hr.mv 1)).mono ?_; rintro e w5 ⟨rfl, h5⟩)
                    | (go_at_call 18; refine (num_any _ _ _ h5).mono ?_; rintro e w' ⟨rfl, rfl⟩))
                  have ga := (h5.mv 1 |>.cell (lev)).trans (u32s_get (i := lev) (by omega))
                  go_wp2
                  go_roundw
                  case rel => exact ⟨k + 1, ⟨m, c⟩, by omega, by go_num, HC.out, h5.mv 1⟩
                  case measure => simp [intOf]; omega
                · obtain ⟨e1, e2⟩ := add_4 (s := ⟨m, c⟩) (bit := 0) (lev := lev) (by omega) h2' (by rw [show 16 * 0 + lev = lev from by omega]; show c (lev) < 4095; omega)
                  have HN := Lib.hid (HC.out.add 0 lev)
                  rw [e1, e2] at A
                  rw [e2] at HN
                  rw [show 16 * 0 + lev = lev from by omega] at A HN
                  simp only at A HN
                  have h3' : (c (lev) : Int) < 4095 := by omega
                  have W1 : IntKind.u32.wrap ((c (lev) : Int) + 1) = (c (lev) : Int) + 1 := IntWalk.u32_in _ (by omega)
                  clear e1 e2 h3
                  go_upto_region 19 with (first
                    | (go_at_call 30; refine (A _ _ (hr.mv 1)).mono ?_; rintro e w5 ⟨rfl, h5⟩)
                    | (go_at_call 18; refine (num_any _ _ _ h5).mono ?_; rintro e w' ⟨rfl, rfl⟩))
                  have h6 := h5.mv 1
                  have h6 : Hold w5 (cellsA t 24 (u32s 32 c) :: cellsA b 85 (encC ⟨m, upd c (lev) (c (lev) + 1)⟩) :: C :: L) := h6
                  have ga := (h6.cell (lev)).trans (u32s_get (i := lev) (by omega))
                  have fa := h6.frozen (lev)
                  go_upto_region 21 with (fail)
                  refine wp_region_Z (fun W => W.cell? ⟨t, lev, none⟩ = some (.int .u32 (c (lev)))) [4] [8] [0, 1, 2, 3, 5, 6, 7] [0, 1, 2, 3, 4, 5, 6, 7, 8] (by kernel_rfl) (by kernel_rfl) ?_
                  (repeat (first | (refine wpZ_st (v := ?_) _ (by rfl) (by rfl) (by rfl) (fun W hW => ?_) ga ?_; (rotate_left; (focus ((try dsimp only at hW); go_simp; (try with_reducible rfl); done))); try simp only [Act.put, List.getElem_toArray, List.getElem_cons_zero, List.getElem_cons_succ, List.setIfInBounds_toArray, List.set_cons_zero, List.set_cons_succ]) | (refine wpZ_pu (v := ?_) _ (by rfl) (by rfl) (by rfl) (by rfl) (fun W => ?_) ?_; (rotate_left; (focus ((try dsimp only at hW); go_simp; (try with_reducible rfl); done))); try simp only [Act.put, List.getElem_toArray, List.getElem_cons_zero, List.getElem_cons_succ, List.setIfInBounds_toArray, List.set_cons_zero, List.set_cons_succ]) | (refine wpZ_no _ (by rfl) (by rfl) (by rfl) (by rfl) ?_; try simp only [Act.put, List.getElem_toArray, List.getElem_cons_zero, List.getElem_cons_succ, List.setIfInBounds_toArray, List.set_cons_zero, List.set_cons_succ]) | (refine wpZ_noS _ (by rfl) (by rfl) (by rfl) ga ?_; try simp only [Act.put, List.getElem_toArray, List.getElem_cons_zero, List.getElem_cons_succ, List.setIfInBounds_toArray, List.set_cons_zero, List.set_cons_succ])))
                  (refine wpZ_eff _ (by rfl) (by rfl) (by rfl) (by rfl) (fun K hK => ?_); go_simp; refine hK _ _ (fun hl => ?_) ?_; (first | (focus (cases hl; done)) | trivial); clear hK K; try simp only [Act.put, List.getElem_toArray, List.getElem_cons_zero, List.getElem_cons_succ, List.setIfInBounds_toArray, List.set_cons_zero, List.set_cons_succ])
                  (simp only [wpZ])
                  have HX := (h6.setw (lev) (c (lev) + 1)).drew
                  simp only [Int.natCast_add, Int.natCast_one] at HX
                  go_wp2
                  go_roundw
                  case rel => exact ⟨k + 1, ⟨m, upd c (lev) (c (lev) + 1)⟩, by omega, by go_num, HN.out, HX⟩
                  case measure => simp [intOf]; omega
              · have ga := (hr.cell (16 + lev)).trans (u32s_get (i := 16 + lev) (by omega))
                by_cases h3 : 4095 ≤ c (16 + lev)
                · obtain ⟨e1, e2⟩ := add_3 (s := ⟨m, c⟩) (bit := 1) (lev := lev) (by omega) h2' (by rw [show 16 * 1 + lev = 16 + lev from by omega]; exact h3)
                  rw [e1, e2] at A
                  have h3' : (4095 : Int) ≤ c (16 + lev) := by omega
                  clear e1 e2 h3
                  go_upto_region 19 with (first
                    | (go_at_call 30; refine (A _ _ (hr.mv 1)).mono ?_; rintro e w5 ⟨rfl, h5⟩)
                    | (go_at_call 18; refine (num_any _ _ _ h5).mono ?_; rintro e w' ⟨rfl, rfl⟩))
                  have ga := (h5.mv 1 |>.cell (16 + lev)).trans (u32s_get (i := 16 + lev) (by omega))
                  go_wp2
                  go_roundw
                  case rel => exact ⟨k + 1, ⟨m, c⟩, by omega, by go_num, HC.out, h5.mv 1⟩
                  case measure => simp [intOf]; omega
                · obtain ⟨e1, e2⟩ := add_4 (s := ⟨m, c⟩) (bit := 1) (lev := lev) (by omega) h2' (by rw [show 16 * 1 + lev = 16 + lev from by omega]; show c (16 + lev) < 4095; omega)
                  have HN := Lib.hid (HC.out.add 1 lev)
                  rw [e1, e2] at A
                  rw [e2] at HN
                  rw [show 16 * 1 + lev = 16 + lev from by omega] at A HN
                  simp only at A HN
                  have h3' : (c (16 + lev) : Int) < 4095 := by omega
                  have W1 : IntKind.u32.wrap ((c (16 + lev) : Int) + 1) = (c (16 + lev) : Int) + 1 := IntWalk.u32_in _ (by omega)
                  clear e1 e2 h3
                  go_upto_region 19 with (first
                    | (go_at_call 30; refine (A _ _ (hr.mv 1)).mono ?_; rintro e w5 ⟨rfl, h5⟩)
                    | (go_at_call 18; refine (num_any _ _ _ h5).mono ?_; rintro e w' ⟨rfl, rfl⟩))
                  have h6 := h5.mv 1
                  have h6 : Hold w5 (cellsA t 24 (u32s 32 c) :: cellsA b 85 (encC ⟨m, upd c (16 + lev) (c (16 + lev) + 1)⟩) :: C :: L) := h6
                  have ga := (h6.cell (16 + lev)).trans (u32s_get (i := 16 + lev) (by omega))
                  have fa := h6.frozen (16 + lev)
                  go_upto_region 21 with (fail)
                  refine wp_region_Z (fun W => W.cell? ⟨t, 16 + lev, none⟩ = some (.int .u32 (c (16 + lev)))) [4] [8] [0, 1, 2, 3, 5, 6, 7] [0, 1, 2, 3, 4, 5, 6, 7, 8] (by kernel_rfl) (by kernel_rfl) ?_
                  (repeat (first | (refine wpZ_st (v := ?_) _ (by rfl) (by rfl) (by rfl) (fun W hW => ?_) ga ?_; (rotate_left; (focus ((try dsimp only at hW); go_simp; (try with_reducible rfl); done))); try simp only [Act.put, List.getElem_toArray, List.getElem_cons_zero, List.getElem_cons_succ, List.setIfInBounds_toArray, List.set_cons_zero, List.set_cons_succ]) | (refine wpZ_pu (v := ?_) _ (by rfl) (by rfl) (by rfl) (by rfl) (fun W => ?_) ?_; (rotate_left; (focus ((try dsimp only at hW); go_simp; (try with_reducible rfl); done))); try simp only [Act.put, List.getElem_toArray, List.getElem_cons_zero, List.getElem_cons_succ, List.setIfInBounds_toArray, List.set_cons_zero, List.set_cons_succ]) | (refine wpZ_no _ (by rfl) (by rfl) (by rfl) (by rfl) ?_; try simp only [Act.put, List.getElem_toArray, List.getElem_cons_zero, List.getElem_cons_succ, List.setIfInBounds_toArray, List.set_cons_zero, List.set_cons_succ]) | (refine wpZ_noS _ (by rfl) (by rfl) (by rfl) ga ?_; try simp only [Act.put, List.getElem_toArray, List.getElem_cons_zero, List.getElem_cons_succ, List.setIfInBounds_toArray, List.set_cons_zero, List.set_cons_succ])))
                  (refine wpZ_eff _ (by rfl) (by rfl) (by rfl) (by rfl) (fun K hK => ?_); go_simp; refine hK _ _ (fun hl => ?_) ?_; (first | (focus (cases hl; done)) | trivial); clear hK K; try simp only [Act.put, List.getElem_toArray, List.getElem_cons_zero, List.getElem_cons_succ, List.setIfInBounds_toArray, List.set_cons_zero, List.set_cons_succ])
                  (simp only [wpZ])
                  have HX := (h6.setw (16 + lev) (c (16 + lev) + 1)).drew
                  simp only [Int.natCast_add, Int.natCast_one] at HX
                  go_wp2
                  go_roundw
                  case rel => exact ⟨k + 1, ⟨m, upd c (16 + lev) (c (16 + lev) + 1)⟩, by omega, by go_num, HN.out, HX⟩
                  case measure => simp [intOf]; omega
        · obtain rfl : n = k := by omega
          have hcnt := HC.out
          have hok := hcnt.ok
          have KC := check_ok _ hok
          rw [hcnt.check] at KC
          have EQ := eq24 hok.2.2 hok.2.2 (v := true) (by simp)
          simp only at EQ
          clear hcnt hok
          go_upto_region 27 with (first
            | (go_at_call 31; refine (cstats_ok _ b _ _ (hr.mv 1)).mono ?_; rintro e w5 ⟨rfl, h5⟩; have z5 := h5.boxZ 0)
            | (refine wp_store26 rfl _ _ (by rfl) w5.heap.size (by rfl) ⟨m, c⟩ (by rfl) z5 (fun w6 h6 => ?_)))
          generalize w5.heap.size = p at *
          clear z5 h5 hr
          have g0 := (h6.cell 0).trans (enc_lv _)
          simp only at g0
          go_wp2_with (first
            | (refine wpList_yw (by rfl) (exec_load24 (by rfl) (by rfl) h6) ?_)
            | (refine wpList_yw (by rfl) (exec_load24w (by rfl) (by rfl) (h6.mv 2)) ?_)
            | (refine wpList_yw (by rfl) (exec_load26 (by rfl) (by rfl) h6) ?_)
            | (refine wpList_yw (by rfl) (exec_agg_eql (by rfl) (by rfl) (by rfl) g24 EQ _) ?_)
            | (go_at_call 19; refine (KC _ _ h6).mono ?_; rintro e w7 ⟨rfl, h7⟩)
            | (go_at_call 18; refine (num_any _ _ _ h7).mono ?_; rintro e w' ⟨rfl, rfl⟩))
          go_ret
          exact ⟨by simp, h7.drop.drop.drop⟩

end Go.Proofs.Ytklokbmpapjjiaa
