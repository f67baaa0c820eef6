/- The walk of the law on what is the caller's own. -/
import Derived.Test.YtlfchokafpodcaaChanO
import Derived.Test.YtlfchokafpodcaaKeep2
open Go.RowKit Go.Own
namespace Go.Proofs.Ytlfchokafpodcaa

theorem lv_two (x : UInt8) : lv 2 x = x := by
  unfold lv
  apply UInt8.toNat.inj
  rw [UInt8.toNat_mul]
  have := x.toNat_lt
  simp

theorem within_len (p : Nat) (N : Int) (hp : p ≤ 65536) : ∃ Q : Nat, (wrap64 (wrap64 (N.tmod ((p : Int) + 1) + p) + 1)).tmod ((p : Int) + 1) = (Q : Int) ∧ Q ≤ p := by
  have a1 := Int.tmod_lt_of_pos N (b := (p : Int) + 1) (by omega)
  have a2 := Int.lt_tmod_of_pos N (b := (p : Int) + 1) (by omega)
  have e1 : wrap64 (wrap64 (N.tmod ((p : Int) + 1) + p) + 1) = N.tmod ((p : Int) + 1) + p + 1 := by unfold wrap64; omega
  rw [e1]
  have b1 := Int.tmod_lt_of_pos (N.tmod ((p : Int) + 1) + p + 1) (b := (p : Int) + 1) (by omega)
  have b2 := Int.tmod_nonneg ((p : Int) + 1) (a := N.tmod ((p : Int) + 1) + p + 1) (by omega)
  exact ⟨((N.tmod ((p : Int) + 1) + p + 1).tmod ((p : Int) + 1)).toNat, by omega, by omega⟩

theorem look_new (b : Nat) (s : CS) (B : List Nat) (w : World) (h : Ch 53 w b s B) (l : List UInt8) (m : Nat) (hl : s.l = l) (hm : l.length = m) :
    Calls Try.prog 13 #[.pointer (some ⟨b, 0, none⟩)] w fun e w' => ∃ a, e = .returned (.slice (some ⟨a, 0, none⟩) m m) ∧ Own w' 5 1 (.slice (some ⟨a, 0, none⟩) m m) m (ub l) [a] ∧ Fr [] w w' ∧ w.heap.size ≤ a := by
  subst hl; subst hm
  exact (look_ok b s B w h).mono fun e w' ⟨h1, h2, h3, _⟩ => ⟨_, h1, h2, h3, Nat.le_refl _⟩

theorem take_new (b : Nat) (s : CS) (B : List Nat) (n : Int) (w : World) (h : Ch 53 w b s B) (hn : 0 ≤ n) (m : Nat) (hm : m = min n.toNat s.l.length) :
    Calls Try.prog 14 #[.pointer (some ⟨b, 0, none⟩), .int .i64 n] w fun e w' => ∃ a, e = .returned (.tuple #[.slice (some ⟨a, 0, none⟩) m m, .int .i64 0]) ∧
      Own w' 5 1 (.slice (some ⟨a, 0, none⟩) m m) m (ub (s.l.take m)) [a] ∧ Ch 53 w' b (s.take m) B ∧ Fr (b :: B) w w' ∧ w.heap.size ≤ a :=
  (take_ok b s B n w h hn m hm).mono fun e w' ⟨h1, h2, h3, h4, _⟩ => ⟨_, h1, h2, h3, h4, Nat.le_refl _⟩

set_option maxHeartbeats 4000000 in
set_option maxRecDepth 20000 in
theorem own_walk (W : List UInt8) (S : List Nat) (ao : Option Addr) (n cap : Nat) (N : Int) (w : World) (hr : Rd w 1 (.slice ao n cap) n (ub W) S) (hS : ∀ k, k ∈ S → k < w.heap.size) (hn : n ≤ 140737488351232)
    (hN1 : -9223372036854775808 ≤ N) (hN2 : N ≤ 9223372036854775807) :
    Calls Try.prog 3 #[.slice ao n cap, .int .i64 N] w fun e w' => e = .returned (.bool true) ∧ Fr [] w w' := by
  obtain ⟨i5, hi, hz0, hz1, hz2⟩ := info_parts info5
  obtain ⟨hlW0, hnc, hcm⟩ := hr.bounds
  have hlW : W.length = n := by simpa using hlW0
  unfold maxLen at hcm
  go_enter Try.func3, Try.ntmps3
  have P1 := new_ok 65536 2 w (by omega) (by omega) (by omega) (by omega)
  go_upto_region 4 with (first
    | (go_at_call 9; refine P1.mono ?_; rintro e w1 ⟨b, rfl, hbt, hch, hf1⟩; clear P1)
    | (go_at_call 10; refine (num_any _ _).mono ?_; rintro e w' ⟨rfl, rfl⟩)
    | (go_at_call 11; refine (knows_ok _).mono ?_; rintro e w2 ⟨rfl, hf2⟩))
  have hch2 := hch.fr hf2 (by simp)
  have hf02 := hf1.trans hf2 (by simp)
  have hr2 := hr.fr hf02 (by simp)
  have hbl := hch2.lt b (by simp)
  clear hch hf1 hf2 hr
  obtain ⟨m, hm⟩ : ∃ m : Nat, m = min n 65536 := ⟨_, rfl⟩
  have hmn : m ≤ n := by omega
  have hm6 : m ≤ 65536 := by omega
  have HM := Lib.hid hm
  clear hm
  go_cut [7] (fun v wc => ∃ M, v = .slice (some ⟨M, 0, none⟩) m m ∧ M = w2.heap.size ∧ Own wc 5 1 (.slice (some ⟨M, 0, none⟩) m m) m (((madeCells (Value.int IntKind.u8 0).cells m).toList).take m) [M] ∧ Fr [] w2 wc)
  case first =>
    by_cases hle : n ≤ 65536
    · obtain rfl : m = n := by have := HM.out; omega
      have hlei : (m : Int) ≤ 65536 := by omega
      go_wp2_with (at_make; refine wpList_make_any rfl (.tmp 33) (.tmp 33) 22 (by rfl) 5 i5 (.int .u8 0) 1 1 Try.underlying22 hi hz0 hz1 hz2 .i64 .i64 m m (by rfl) (by rfl) (by omega) (by omega) (by omega) (by omega) ?_; intro w4 ho4 hf4 hs4 hh4; simp only [Int.toNat_natCast, Nat.mul_one] at ho4 ⊢)
      all_goals go_meet
      all_goals exact ⟨_, rfl, rfl, ho4, hf4⟩
    · obtain rfl : m = 65536 := by have := HM.out; omega
      have hlei : ¬ (n : Int) ≤ 65536 := by omega
      have hlei2 : (65536 : Int) ≤ n := by omega
      have hlei3 : (65536 : Int) < n := by omega
      go_wp2_with (at_make; refine wpList_make_any rfl (.tmp 33) (.tmp 33) 22 (by rfl) 5 i5 (.int .u8 0) 1 1 Try.underlying22 hi hz0 hz1 hz2 .i64 .i64 65536 65536 (by rfl) (by rfl) (by omega) (by omega) (by omega) (by omega) ?_; intro w4 ho4 hf4 hs4 hh4)
      all_goals go_meet
      all_goals exact ⟨_, rfl, rfl, ho4, hf4⟩
  case rest =>
    obtain ⟨M, rfl, hMe, ho4, hf4⟩ := hcut
    have hMb : M ∉ [b] := by simp; omega
    have hch4 := hch2.fr hf4 (by simp)
    have hr4 := hr2.fr hf4 (by simp)
    have HMe := Lib.hid hMe
    clear hMe
    go_wp2_with fail
    go_loopw [8] (fun j wr => ∃ (p : Nat) (xs : List Value), p ≤ m ∧ j = .int .i64 p ∧ Own wr 5 1 (.slice (some ⟨M, 0, none⟩) m m) m xs [M] ∧ (∀ q, q < p → xs[q]? = (ub ((W.take m).map (· &&& 1)))[q]?) ∧ Fr [M] wc wr) (fun j _ => m - (intOf j).toNat)
    case atStart => exact ⟨0, _, by omega, rfl, ho4, fun p hp => by omega, Fr.refl _ _⟩
    case round =>
      obtain ⟨p, xs, hp, rfl, ho5, hxs, hf5⟩ := hrel
      by_cases hlm : p < m
      · have hmi : (p : Int) < m := by omega
        have hni : (p : Int) < n := by omega
        have hr5 := hr4.fr hf5 (by intro k hk hk2; have := hS k hk; have := hf02.size; have := HMe.out; simp at hk2; omega)
        obtain ⟨rb, ro, rfl, rfl, hrb, hcs⟩ := hr5.addr (by omega)
        obtain ⟨x, hxk⟩ : ∃ x, W[p]? = some x := ⟨_, List.getElem?_eq_getElem (by omega)⟩
        have hck : wr.cell? ⟨rb, ro + p, none⟩ = some (.int .u8 (x.toNat : Int)) := by
          rw [hcs p (by omega), ub_get? hxk]
        obtain ⟨a1, a2, _, _, _, a6⟩ := ho5.at
        have f1 := a2 (0 + p)
        obtain ⟨z, hz⟩ : ∃ z, wr.cell? ⟨M, 0 + p, none⟩ = some z := Option.isSome_iff_exists.1 (a6 p (by omega))
        have HX := Lib.hid hxs
        have HK := Lib.hid hxk
        obtain ⟨y, hy⟩ : ∃ y : UInt8, y = x &&& 1 := ⟨_, rfl⟩
        have hand := and1 x
        rw [← hy] at hand
        have HY := Lib.hid hy
        clear hcs a1 a2 a6 hxs hxk hy
        simp only [Nat.zero_add] at f1 hz
        go_wp2_with fail
        go_roundw
        case rel =>
          refine ⟨p + 1, _, by omega, by go_num, by simpa using ho5.set p (by omega) _, fun q hq => ?_, hf5.setCell (by simp) _⟩
          by_cases hpm : q = p
          · subst hpm
            rw [List.getElem?_set_self (by have := ho5.rd.bounds.1; omega), ub_get? (x := y) (by rw [List.getElem?_map, List.getElem?_take, if_pos hlm, HK.out, HY.out]; rfl)]
          · rw [List.getElem?_set_ne (by omega)]
            exact HX.out q (by omega)
        case measure => simp [intOf]; omega
      · obtain rfl : p = m := by omega
        obtain ⟨bt, hbt⟩ : ∃ bt, bt = (W.take p).map (· &&& 1) := ⟨_, rfl⟩
        have hbits : ∀ x ∈ bt, x ≤ 1 := by rw [hbt]; exact bits_le _
        have hbl2 : bt.length = p := by rw [hbt]; simp; omega
        rw [← hbt] at hxs
        have hxe := ext_lt (n := p) (by simpa using ho5.rd.bounds.1) (by simpa using hbl2) hxs
        subst hxe
        have hch5 := hch4.fr hf5 (by simpa using fun h => hMb (by simp [h]))
        have P2 := put_ok b _ bt [] [M] p p (some ⟨M, 0, none⟩) wr hch5 ho5.rd (by simpa using hMb) hbits
        have hput : CS.put ⟨(65536 : Int).toNat, (2 : Int).toNat, [], 0⟩ bt = ⟨65536, 2, bt, 0⟩ := by
          unfold CS.put
          simp only [List.nil_append, List.length_nil]
          congr 1
          rw [List.take_of_length_le (by simp; omega)]
          conv => rhs; rw [← List.map_id bt]
          exact List.map_congr_left fun x _ => lv_two x
        rw [hput] at P2
        have hfall : Fr [] w wr := (hf02.trans hf4 (by simp)).trans hf5 (fun k hk => .inr (by have := hf02.size; have := HMe.out; simp at hk; omega))
        clear hxs hput hbt hr4 hr2 hch4 hch2
        generalize ((p - min p (CS.room ⟨(65536 : Int).toNat, (2 : Int).toNat, [], 0⟩ - (CS.l ⟨(65536 : Int).toNat, (2 : Int).toNat, [], 0⟩).length) : Nat) : Int) = pz at P2
        have hpmi : (0 : Int) ≤ p := by omega
        go_upto_region 14 with (first
          | (go_at_call 12; refine P2.mono ?_; rintro e w6 ⟨rfl, B6, hch6, hf6, hB6⟩; clear P2;
             have hl6 := ho5.fr hf6 (by simpa using hMb); have hl6M := ho5.lt M (by simp); have z6 := hf6.size;
             have P3 := look_new b _ B6 w6 hch6 bt p rfl hbl2)
          | (go_at_call 13; refine P3.mono ?_; rintro e w7 ⟨a1, rfl, hoa, hf7, ha1⟩; clear P3; have hch7 := hch6.fr hf7 (by simp); have P4 := look_new b _ B6 w7 hch7 bt p rfl hbl2)
          | (go_at_call 13; refine P4.mono ?_; rintro e w8 ⟨a2, rfl, hob, hf8, ha2⟩; clear P4;
             have hoa8 := hoa.fr hf8 (by simp); have hl8 := (hl6.fr hf7 (by simp)).fr hf8 (by simp);
             have T1 := run_text Try.underlying22 Try.underlying5 Try.underlying9 hoa8.rd; have T2 := run_text Try.underlying22 Try.underlying5 Try.underlying9 hob.rd; have T3 := run_text Try.underlying22 Try.underlying5 Try.underlying9 hl8.rd))
        clear T1 T2 T3
        obtain ⟨Q, hQ, hQp⟩ := within_len p N hm6
        go_upto_region 15 with (fail)
        clear hQ
        generalize wrap64 (wrap64 (N.tmod (↑p + 1) + ↑p) + 1) = x1
        generalize wrap64 (N.tmod (↑p + 1) + ↑p) = x2
        generalize N.tmod (↑p + 1) = x3
        have hQi : (Q : Int) ≤ p := by omega
        have hch8 := hch7.fr hf8 (by simp)
        have P5 := take_new b _ B6 Q w8 hch8 (by omega) Q (by simp [hbl2]; omega)
        simp only [CS.take] at P5
        have hba : ∀ a, a ∈ b :: B6 → a < w6.heap.size := hch6.lt
        go_upto_region 17 with (first
          | (go_at_call 14; refine P5.mono ?_; rintro e w9 ⟨a3, rfl, hox, hch9, hf9, ha3⟩; clear P5;
             have P6 := look_new b _ B6 w9 hch9 (bt.drop Q) (p - Q) rfl (by simp [hbl2]))
          | (go_at_call 13; refine P6.mono ?_; rintro e w10 ⟨a4, rfl, hod, hf10, ha4⟩; clear P6))
        have hf810 : Fr (b :: B6) w8 w10 := hf9.trans hf10 (by simp)
        have hMB6 : M ∉ b :: B6 := fun h => by
          rcases List.mem_cons.1 h with h | h
          · exact hMb (by simp [h])
          · rcases hB6 M h with h | h
            · simp at h
            · have := ho5.lt M (by simp); omega
        have hA1 : a1 ∉ b :: B6 := fun h => by have := hba a1 h; omega
        have z7 := hf7.size
        have hA2 : a2 ∉ b :: B6 := fun h => by have := hba a2 h; omega
        have hoa10 := hoa8.fr hf810 (by simpa using hA1)
        have hob10 := hob.fr hf810 (by simpa using hA2)
        have hl10 := hl8.fr hf810 (by simpa using hMB6)
        have hox10 := hox.fr hf10 (by simp)
        have hlt10 := own_take hl10 Q hQp
        have hld10 := own_drop hl10 Q hQp
        have T1 : ∀ W, Fr [] w10 W → Sem.run Try.prog (convert 22 9 (.slice (some ⟨a3, 0, none⟩) Q Q)) W = .ok (.string ⟨(bt.take Q).toArray⟩) W :=
          fun W hW => run_text Try.underlying22 Try.underlying5 Try.underlying9 (hox10.rd.fr hW (by simp))
        have T2 : ∀ W, Fr [] w10 W → Sem.run Try.prog (convert 22 9 (.slice (some ⟨M, 0, none⟩) Q p)) W = .ok (.string ⟨(bt.take Q).toArray⟩) W :=
          fun W hW => run_text Try.underlying22 Try.underlying5 Try.underlying9 (hlt10.rd.fr hW (by simp))
        have T3 : ∀ W, Fr [] w10 W → Sem.run Try.prog (convert 22 9 (.slice (some ⟨a4, 0, none⟩) (p - Q) (p - Q))) W = .ok (.string ⟨(bt.drop Q).toArray⟩) W :=
          fun W hW => run_text Try.underlying22 Try.underlying5 Try.underlying9 (hod.rd.fr hW (by simp))
        have eadd : (if p = Q then some (⟨M, 0, none⟩ : Addr) else Option.map (fun x : Addr => x.add Q) (some (⟨M, 0, none⟩ : Addr))) = (if p = Q then some ⟨M, 0, none⟩ else some ⟨M, Q, none⟩) := by
          split
          · rfl
          · simp [Addr.add_lit]
        rw [eadd] at hld10
        clear eadd
        have T4 : ∀ W, Fr [] w10 W → Sem.run Try.prog (convert 22 9 (.slice (if p = Q then some ⟨M, 0, none⟩ else some ⟨M, Q, none⟩) (p - Q) (p - Q))) W = .ok (.string ⟨(bt.drop Q).toArray⟩) W :=
          fun W hW => run_text Try.underlying22 Try.underlying5 Try.underlying9 (hld10.rd.fr hW (by simp))
        generalize (bt.take Q).toArray = tx1 at T1 T2
        generalize hbd : (bt.drop Q).toArray = tx2 at T3 T4
        have HBD := Lib.hid hbd
        clear hbd
        have hS0 : Fr [] w10 w10.drew := (Fr.refl _ _).drew
        refine wp_region_X (fun W => Fr [] w10 W) [0, 2, 3, 4, 5, 6, 7, 8, 9, 10, 11, 12, 13, 14, 15, 16, 17, 18, 19, 20] [] [0, 1, 2, 3, 4, 5, 6, 7, 8, 9, 10, 11, 12, 13, 14, 15, 16, 17, 18, 19, 20] (by kernel_rfl) (by kernel_rfl) ?_
        (repeat (refine wpX_st (v := ?_) _ (by rfl) (by rfl) (by rfl) (fun W hW => ?_) hS0 ?_; rotate_left; (focus ((try dsimp only at hW); go_simp; (try with_reducible rfl); done)); try simp only [Act.put, List.getElem_toArray, List.getElem_cons_zero, List.getElem_cons_succ, List.setIfInBounds_toArray, List.set_cons_zero, List.set_cons_succ]))
        refine wpX_eff _ (by rfl) (by rfl) (by rfl) (fun K hK => ?_)
        go_simp
        refine (num_any _ _).mono ?_
        rintro e w' ⟨rfl, rfl⟩
        dsimp only
        (refine hK _ _ (fun hl => ?_) ?_; (first | (focus (cases hl; done)) | exact hS0); clear hK K; try simp only [Act.put, List.getElem_toArray, List.getElem_cons_zero, List.getElem_cons_succ, List.setIfInBounds_toArray, List.set_cons_zero, List.set_cons_succ])
        (repeat (refine wpX_st (v := ?_) _ (by rfl) (by rfl) (by rfl) (fun W hW => ?_) hS0 ?_; rotate_left; (focus ((try dsimp only at hW); go_simp; (try with_reducible rfl); done)); try simp only [Act.put, List.getElem_toArray, List.getElem_cons_zero, List.getElem_cons_succ, List.setIfInBounds_toArray, List.set_cons_zero, List.set_cons_succ]))
        (simp only [wpX])
        clear T1 T2 T3 T4
        generalize (if p = Q then some (⟨M, 0, none⟩ : Addr) else some ⟨M, Q, none⟩) = lo
        have hfd : Fr [] w10 w10.drew := (Fr.refl _ _).drew
        obtain ⟨A, hA⟩ : ∃ A, A = w10.drew.heap.size := ⟨_, rfl⟩
        have hA' : A = w10.heap.size := hA
        have hba4 := Blk.new w10.drew 22 [.slice (some ⟨a1, 0, none⟩) p p, .slice (some ⟨a2, 0, none⟩) p p, .slice (some ⟨a3, 0, none⟩) Q Q, .slice (some ⟨a4, 0, none⟩) (p - Q) (p - Q)]
        have hal : Fr [] w10.drew (w10.drew.alloc (.cells [Value.slice (some ⟨a1, 0, none⟩) p p, .slice (some ⟨a2, 0, none⟩) p p, .slice (some ⟨a3, 0, none⟩) Q Q, .slice (some ⟨a4, 0, none⟩) (p - Q) (p - Q)].toArray 22)) := (Fr.refl _ _).alloc _
        rw [← hA] at hba4
        simp only [List.toArray] at hba4 hal
        have z8 := hf8.size
        have z9 := hf9.size
        have z10 := hf10.size
        have l1 := hoa10.lt a1 (by simp)
        have l2 := hob10.lt a2 (by simp)
        have l3 := hox10.lt a3 (by simp)
        have l4 := hod.lt a4 (by simp)
        have m1 := hoa.lt a1 (by simp)
        have m2 := hob.lt a2 (by simp)
        have m3 := hox.lt a3 (by simp)
        have hfx := hfd.trans hal (by simp)
        generalize hW11 : w10.drew.alloc (Obj.cells #[Value.slice (some ⟨a1, 0, none⟩) p p, .slice (some ⟨a2, 0, none⟩) p p, .slice (some ⟨a3, 0, none⟩) Q Q, .slice (some ⟨a4, 0, none⟩) (p - Q) (p - Q)] 22) = w11 at *
        have hRA : RowsAt w11 A 0 4 (fun i => match i with | 0 => some ⟨a1, 0, none⟩ | 1 => some ⟨a2, 0, none⟩ | 2 => some ⟨a3, 0, none⟩ | _ => some ⟨a4, 0, none⟩) (fun i => match i with | 0 => p | 1 => p | 2 => Q | _ => p - Q) (fun i => match i with | 0 => p | 1 => p | 2 => Q | _ => p - Q)
            (fun i => match i with | 0 => ub bt | 1 => ub bt | 2 => ub (bt.take Q) | _ => ub (bt.drop Q)) (fun i => match i with | 0 => [a1] | 1 => [a2] | 2 => [a3] | _ => [a4]) := by
          refine ⟨fun i hi => ?_, fun i hi => ?_, fun i j hi hj hij k hk hk2 => ?_, fun i hi hA2 => ?_, hba4.lt⟩
          · match i, hi with
            | 0, _ => simpa using hba4.cell 0
            | 1, _ => simpa using hba4.cell 1
            | 2, _ => simpa using hba4.cell 2
            | 3, _ => simpa using hba4.cell 3
          · match i, hi with
            | 0, _ => exact hoa10.fr hfx (by simp)
            | 1, _ => exact hob10.fr hfx (by simp)
            | 2, _ => exact hox10.fr hfx (by simp)
            | 3, _ => exact hod.fr hfx (by simp)
          · match i, hi, j, hj with
            | 0, _, 0, _ => omega
            | 0, _, 1, _ => simp at hk hk2; omega
            | 0, _, 2, _ => simp at hk hk2; omega
            | 0, _, 3, _ => simp at hk hk2; omega
            | 1, _, 0, _ => simp at hk hk2; omega
            | 1, _, 1, _ => omega
            | 1, _, 2, _ => simp at hk hk2; omega
            | 1, _, 3, _ => simp at hk hk2; omega
            | 2, _, 0, _ => simp at hk hk2; omega
            | 2, _, 1, _ => simp at hk hk2; omega
            | 2, _, 2, _ => omega
            | 2, _, 3, _ => simp at hk hk2; omega
            | 3, _, 0, _ => simp at hk hk2; omega
            | 3, _, 1, _ => simp at hk hk2; omega
            | 3, _, 2, _ => simp at hk hk2; omega
            | 3, _, 3, _ => omega
          · match i, hi with
            | 0, _ => simp at hA2; omega
            | 1, _ => simp at hA2; omega
            | 2, _ => simp at hA2; omega
            | 3, _ => simp at hA2; omega
        have P7 := apart_ok A 0 4 4 _ _ _ _ _ [a1, a2, a3, a4] w11 hRA (fun i hi k hk => by
          match i, hi with
          | 0, _ => simp at hk; simp [hk]
          | 1, _ => simp at hk; simp [hk]
          | 2, _ => simp at hk; simp [hk]
          | 3, _ => simp at hk; simp [hk]) (by simp; omega) (by omega) (by omega) (fun i hi => by
          match i, hi with
          | 0, _ => show p ≤ _; omega
          | 1, _ => show p ≤ _; omega
          | 2, _ => show Q ≤ _; omega
          | 3, _ => show p - Q ≤ _; omega)
        have hln11 := (hl10.fr hfx (by simp))
        have hch11 := (hch9.fr hf10 (by simp)).fr hfx (by simp)
        have HA := Lib.hid hA'
        clear hA'
        subst hA
        have HW := Lib.hid hW11
        clear hRA hba4 hal hoa10 hob10 hox10 hod hoa8 hob hox hl8 hl6 hoa
        have l5 := hln11.lt M (by simp)
        have hM4 : M ∉ [a1, a2, a3, a4] := by
          simp; omega
        have hb4 : ∀ k, k ∈ b :: B6 → k ∉ [a1, a2, a3, a4] := fun k hk h => by have := hba k hk; simp at h; omega
        go_upto_region 22 with (first
          | (go_at_call 15; (try rw [HW.out]); refine P7.mono ?_; rintro e w12 ⟨rfl, hf12⟩; clear P7;
             have hch12 := hch11.fr hf12 hb4;
             have P8 := take_new b _ B6 p w12 hch12 (by omega) (p - Q) (by simp [hbl2] <;> omega); simp only [CS.take] at P8)
          | (go_at_call 14; refine P8.mono ?_; rintro e w13 ⟨a5, rfl, hoy, hch13, hf13, ha5⟩; clear P8))
        have hb12 : b :: B6 = b :: B6 := rfl
        have hMf : M ∉ b :: B6 := hMB6
        have hl12 := hln11.fr hf12 (by simpa using hM4)
        have hl13 := hl12.fr hf13 (by simpa using hMB6)
        have hld13 := own_drop hl13 Q hQp
        have eadd : (if p = Q then some (⟨M, 0, none⟩ : Addr) else Option.map (fun x : Addr => x.add Q) (some (⟨M, 0, none⟩ : Addr))) = (if p = Q then some ⟨M, 0, none⟩ else some ⟨M, Q, none⟩) := by
          split
          · rfl
          · simp [Addr.add_lit]
        rw [eadd] at hld13
        clear eadd
        rw [List.take_of_length_le (by simp [hbl2])] at hoy
        have T4 : ∀ W, Fr [] w13 W → Sem.run Try.prog (convert 22 9 (.slice (if p = Q then some ⟨M, 0, none⟩ else some ⟨M, Q, none⟩) (p - Q) (p - Q))) W = .ok (.string ⟨(bt.drop Q).toArray⟩) W :=
          fun W hW => run_text Try.underlying22 Try.underlying5 Try.underlying9 (hld13.rd.fr hW (by simp))
        have T5 : ∀ W, Fr [] w13 W → Sem.run Try.prog (convert 22 9 (.slice (some ⟨a5, 0, none⟩) (p - Q) (p - Q))) W = .ok (.string ⟨(bt.drop Q).toArray⟩) W :=
          fun W hW => run_text Try.underlying22 Try.underlying5 Try.underlying9 (hoy.rd.fr hW (by simp))
        generalize (bt.drop Q).toArray = tx3 at T4 T5
        have hS0 : Fr [] w13 w13.drew := (Fr.refl _ _).drew
        refine wp_region_X (fun W => Fr [] w13 W) [0, 2, 3, 4, 5, 6, 7, 8, 9, 10, 11] [12] [0, 1, 2, 3, 4, 5, 6, 7, 8, 9, 10, 11, 12] (by kernel_rfl) (by kernel_rfl) ?_
        (repeat (refine wpX_st (v := ?_) _ (by rfl) (by rfl) (by rfl) (fun W hW => ?_) hS0 ?_; rotate_left; (focus ((try dsimp only at hW); go_simp; (try with_reducible rfl); done)); try simp only [Act.put, List.getElem_toArray, List.getElem_cons_zero, List.getElem_cons_succ, List.setIfInBounds_toArray, List.set_cons_zero, List.set_cons_succ]))
        refine wpX_eff _ (by rfl) (by rfl) (by rfl) (fun K hK => ?_)
        go_simp
        refine (num_any _ _).mono ?_
        rintro e w' ⟨rfl, rfl⟩
        dsimp only
        (refine hK _ _ (fun hl => ?_) ?_; (first | (focus (cases hl; done)) | exact hS0); clear hK K; try simp only [Act.put, List.getElem_toArray, List.getElem_cons_zero, List.getElem_cons_succ, List.setIfInBounds_toArray, List.set_cons_zero, List.set_cons_succ])
        (repeat (refine wpX_st (v := ?_) _ (by rfl) (by rfl) (by rfl) (fun W hW => ?_) hS0 ?_; rotate_left; (focus ((try dsimp only at hW); go_simp; (try with_reducible rfl); done)); try simp only [Act.put, List.getElem_toArray, List.getElem_cons_zero, List.getElem_cons_succ, List.setIfInBounds_toArray, List.set_cons_zero, List.set_cons_succ]))
        (refine wpX_eff _ (by rfl) (by rfl) (by rfl) (fun K hK => ?_); go_simp; refine hK _ _ (fun hl => ?_) ?_; (first | (focus (cases hl; done)) | exact hS0); clear hK K; try simp only [Act.put, List.getElem_toArray, List.getElem_cons_zero, List.getElem_cons_succ, List.setIfInBounds_toArray, List.set_cons_zero, List.set_cons_succ])
        (simp only [wpX])
        clear T4 T5
        generalize (if p = Q then some (⟨M, 0, none⟩ : Addr) else some ⟨M, Q, none⟩) = lo2
        go_wp2_with fail
        go_ret
        refine ⟨rfl, ?_⟩
        have zw := hfall.size
        have hbB : ∀ k, k ∈ b :: B6 → w.heap.size ≤ k := fun k hk => by
          rcases List.mem_cons.1 hk with rfl | hk
          · exact hbt
          · rcases hB6 k hk with h | h
            · simp at h
            · omega
        have f8 : Fr [] w w8 := (hfall.trans hf6 (fun k hk => .inr (by simp at hk; omega))).trans (hf7.trans hf8 (by simp)) (by simp)
        have f11 : Fr [] w w11 := (f8.trans hf810 (fun k hk => .inr (hbB k hk))).trans hfx (by simp)
        refine ((f11.trans hf12 (fun k hk => .inr ?_)).trans hf13 (fun k hk => .inr (hbB k hk))).trans hS0 (by simp)
        simp at hk; omega

end Go.Proofs.Ytlfchokafpodcaa
