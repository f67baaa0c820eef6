/- The walk of the law on the order. -/
import Derived.Test.YtlfchokafpodcaaChanX2
open Go.RowKit Go.Own
namespace Go.Proofs.Ytlfchokafpodcaa

theorem within_pos (lo m x : Int) (h0 : 0 ≤ lo) (h1 : lo ≤ 1000) (h2 : 1 ≤ m) (h3 : m ≤ 1000000) : ∃ R : Nat, wrap64 (lo + (wrap64 (x.tmod m + m)).tmod m) = (R : Int) ∧ lo ≤ R ∧ (R : Int) ≤ lo + m - 1 := by
  have a1 := Int.tmod_lt_of_pos x (b := m) (by omega)
  have a2 := Int.lt_tmod_of_pos x (b := m) (by omega)
  have e1 : wrap64 (x.tmod m + m) = x.tmod m + m := by unfold wrap64; omega
  rw [e1]
  have b1 := Int.tmod_lt_of_pos (x.tmod m + m) (b := m) (by omega)
  have b2 := Int.tmod_nonneg m (a := x.tmod m + m) (by omega)
  have e2 : wrap64 (lo + (x.tmod m + m).tmod m) = lo + (x.tmod m + m).tmod m := by unfold wrap64; omega
  rw [e2]
  exact ⟨(lo + (x.tmod m + m).tmod m).toNat, by omega, by omega, by omega⟩

theorem and1 (x : UInt8) : bits BinOp.and IntKind.u8 (x.toNat : Int) 1 = ((x &&& 1).toNat : Int) := by
  have hx : x.toNat &&& 1 < 2 ^ 8 := Nat.and_lt_two_pow _ (by omega)
  have hx2 := x.toNat_lt
  have h1 : (BitVec.ofInt 8 (x.toNat : Int)).toNat = x.toNat := by
    rw [BitVec.ofInt_natCast, BitVec.toNat_ofNat]; exact Nat.mod_eq_of_lt (by omega)
  show IntKind.u8.wrap ((BitVec.ofInt 8 (x.toNat : Int) &&& BitVec.ofInt 8 (1 : Int)).toNat : Int) = _
  rw [BitVec.toNat_and, h1, UInt8.toNat_and]
  have h2 : (BitVec.ofInt 8 (1 : Int)).toNat = 1 := by decide
  rw [h2]
  simp [IntKind.wrap, IntKind.bits, IntKind.signed]
  omega

theorem lv_wrap3 (L : Nat) (x : UInt8) (hx : x ≤ 1) (h1 : 2 ≤ L) (h2 : L ≤ 16) : wrap64 (wrap64 (x.toNat : Int) * ((L : Int) - 1)) % 256 = (lv L x).toNat := by
  have hx' : x.toNat ≤ 1 := by simpa using UInt8.le_iff_toNat_le.1 hx
  have h3 : x.toNat = 0 ∨ x.toNat = 1 := by omega
  unfold lv
  rw [UInt8.toNat_mul, UInt8.toNat_ofNat']
  have e1 : wrap64 (x.toNat : Int) = x.toNat := by unfold wrap64; omega
  rw [e1]
  rcases h3 with h3 | h3 <;> rw [h3]
  · simp [wrap64]
  · have e2 : wrap64 (((1 : Nat) : Int) * ((L : Int) - 1)) = (L : Int) - 1 := by unfold wrap64; omega
    rw [e2]; omega

theorem own_drop {w : World} {E : TypeId} {ao : Option Addr} {n cap : Nat} {l : List UInt8} {B : List Nat} (h : Own w E 1 (.slice ao n cap) n (ub l) B) (m : Nat) (hm : m ≤ n) :
    Own w E 1 (.slice (if cap = m then ao else Option.map (fun x => x.add m) ao) (n - m) (cap - m)) (n - m) (ub (l.drop m)) B := by
  obtain ⟨h1, h2, _⟩ := h.rd.bounds
  simp at h1
  have := h.sliced (l := m) (u := n) (m := cap) hm (Nat.le_refl _) h2 (Nat.le_refl _)
  rw [Nat.mul_one, Nat.mul_one, ← ub_drop, List.take_of_length_le (by simp; omega)] at this
  simpa [sliced] using this

theorem ext_lt {α : Type} {xs ys : List α} {n : Nat} (h1 : xs.length = n) (h2 : ys.length = n) (h : ∀ p, p < n → xs[p]? = ys[p]?) : xs = ys := by
  apply List.ext_getElem?
  intro p
  by_cases hp : p < n
  · exact h p hp
  · simp [List.getElem?_eq_none, h1, h2, hp, Nat.le_of_not_lt hp]

theorem bits_le (W : List UInt8) : ∀ x ∈ W.map (· &&& 1), x ≤ 1 := by
  intro x hx
  obtain ⟨y, _, rfl⟩ := List.mem_map.1 hx
  rw [UInt8.le_iff_toNat_le, UInt8.toNat_and]
  exact Nat.and_le_right

/-- The rows' state: the channel, and the law's own row alike. -/
def Way (w : World) (top R L b : Nat) (v : Value) (p : Int) : Prop :=
  ∃ (s : CS) (B Y : List Nat) (ao : Option Addr) (cap : Nat), Ch 53 w b s B ∧ s.room = R ∧ s.levels = L ∧ v = .slice ao s.l.length cap ∧ Own w 5 1 (.slice ao s.l.length cap) s.l.length (ub s.l) Y ∧
    p = s.passed ∧ (∀ k, k ∈ Y → k ∉ b :: B) ∧ (∀ k, k ∈ b :: B → top ≤ k) ∧ (∀ k, k ∈ Y → top ≤ k)

set_option maxHeartbeats 4000000 in
set_option maxRecDepth 20000 in
theorem order_walk (room levels : Int) (v : Value) (n : Nat) (w : World) (hs : Script w w.heap.size v n) :
    Calls Try.prog 4 #[.int .i64 room, .int .i64 levels, v] w fun e w' => e = .returned (.bool true) ∧ Fr [] w w' := by
  obtain ⟨i5, hi, hz0, hz1, hz2⟩ := info_parts info5
  have hs' := hs
  obtain ⟨sao, scap, hv, _⟩ := hs'
  subst hv
  have hnm := hs.bound
  unfold maxLen at hnm
  obtain ⟨R, hR, hR1, hR2⟩ := within_pos 1 65536 room (by omega) (by omega) (by omega) (by omega)
  obtain ⟨L, hL, hL1, hL2⟩ := within_pos 2 15 levels (by omega) (by omega) (by omega) (by omega)
  go_enter Try.func4, Try.ntmps4
  go_upto_region 3 with (fail)
  rw [hR, hL]
  generalize wrap64 (room.tmod 65536 + 65536) = x1
  generalize wrap64 (levels.tmod 15 + 15) = x2
  generalize x1.tmod 65536 = x1
  generalize x2.tmod 15 = x1
  generalize room.tmod 65536 = x1
  generalize levels.tmod 15 = x1
  clear hR hL
  have P1 := new_ok R L w (by omega) (by omega) (by omega) (by omega)
  go_wp2_with (first
    | (go_at_call 9; refine P1.mono ?_; rintro e w1 ⟨b, rfl, hbt, hch, hf1⟩; clear P1)
    | (go_at_call 10; refine (num_any _ _).mono ?_; rintro e w' ⟨rfl, rfl⟩)
    | (go_at_call 11; refine (knows_ok _).mono ?_; rintro e w2 ⟨rfl, hf2⟩))
  have hch2 := hch.fr hf2 (by simp)
  have hf02 := hf1.trans hf2 (by simp)
  go_loopw [9, 10, 11] (fun wv p i wr => ∃ (k : Nat) (q : Int), k ≤ n ∧ i = .int .i64 k ∧ p = .int .u64 q ∧ Way wr w.heap.size R L b wv q ∧ Fr [] w wr) (fun _ _ i _ => n - (intOf i).toNat)
  case atStart => exact ⟨0, 0, by omega, rfl, rfl, ⟨_, [], [], none, 0, hch2, by simp, by simp, rfl, by simpa [ub] using Own.nil w2 5 1, rfl, by simp, by simpa using hbt, by simp⟩, hf02⟩
  case round =>
    clear hch hf1 hf2 hch2 hf02
    obtain ⟨k, q, hk, rfl, rfl, ⟨s, B, Y, ao, cap, hch, hroom, hlev, rfl, how, hq, hYB, hBt, hYt⟩, hf⟩ := hrel
    have hsr := hs.fr hf (Nat.le_refl _) (by simp)
    by_cases hlt : k < n
    · obtain ⟨sb, so, scap', K, N, lev, wo, wn, wc, S, hv, hcap, hb, c0, c1, c2, c3, hop, hS, hN1, hN2⟩ := hsr.op2 hlt
      simp only [Value.slice.injEq, true_and] at hv
      obtain ⟨rfl, rfl⟩ := hv
      have hki : (k : Int) < n := by omega
      by_cases hK : K = 2
      · subst hK
        have hb0 := Blk.new wr 39 [.int .i64 2, .slice wo wn wc, .int .i64 N, .int .u8 lev.toNat]
        have hal : Fr [] wr (wr.alloc (.cells [.int .i64 2, .slice wo wn wc, .int .i64 N, .int .u8 lev.toNat].toArray 39)) := (Fr.refl _ _).alloc _
        simp only [List.toArray] at hb0 hal
        go_upto_region 26 with (fail)
        generalize wr.alloc (Obj.cells #[.int .i64 2, .slice wo wn wc, .int .i64 N, .int .u8 lev.toNat] 39) = w3 at *
        have g2 := hb0.cell 2
        simp at g2
        have hch3 := hch.fr hal (by simp)
        have how3 := how.fr hal (by simp)
        by_cases hN : N < 0
        · obtain ⟨Q, hQ⟩ : ∃ Q : Nat, -(N + 1) = (Q : Int) := ⟨(-(N + 1)).toNat, by omega⟩
          have hQ63 : (Q : Int) ≤ 9223372036854775807 := by omega
          obtain ⟨m, hm⟩ : ∃ m : Nat, m = min Q s.l.length := ⟨_, rfl⟩
          have P2 := take_ok b s B Q w3 hch3 (by omega) m (by simpa using hm)
          have hml : m ≤ s.l.length := by omega
          have HM := Lib.hid hm
          clear hm
          go_upto_region 30 with (go_at_call 14; refine P2.mono ?_; rintro e w4 ⟨rfl, ho4, hch4, hf4, hs4⟩)
          clear P2
          go_cut [22] (fun v wc => v = .int .i64 m ∧ w4 = wc)
          case first =>
            have hso2 := hch.2.2
            unfold CS.ok at hso2
            go_wp2_with fail
            all_goals go_meet
            all_goals exact ⟨by have := HM.out; congr 1; omega, rfl⟩
          case rest =>
            obtain ⟨rfl, rfl⟩ := hcut
            have hnb : w3.heap.size ∉ b :: B := fun h => by have := hch3.lt _ h; omega
            have how4 := how3.fr hf4 hYB
            have T1 : ∀ W, Fr [] w4 W → Sem.run Try.prog (convert 22 9 (.slice (some ⟨w3.heap.size, 0, none⟩) m m)) W = .ok (.string ⟨(s.l.take m).toArray⟩) W :=
              fun W hW => run_text Try.underlying22 Try.underlying5 Try.underlying9 (ho4.rd.fr hW (by simp))
            have T2 : ∀ W, Fr [] w4 W → Sem.run Try.prog (convert 22 9 (.slice ao m cap)) W = .ok (.string ⟨(s.l.take m).toArray⟩) W :=
              fun W hW => run_text Try.underlying22 Try.underlying5 Try.underlying9 ((own_take how4 m hml).rd.fr hW (by simp))
            obtain ⟨_, hlc, hcm⟩ := how4.rd.bounds
            unfold maxLen at hcm
            have hmi : (m : Int) ≤ s.l.length := by omega
            have hmc : m ≤ cap := by omega
            have hmci : (m : Int) ≤ cap := by omega
            have hS0 : Fr [] w4 w4.drew := (Fr.refl _ _).drew
            generalize w3.heap.size = M at *
            generalize (s.l.take m).toArray = txt at *
            go_upto_region 31 with fail
            refine wp_region_X (fun W => Fr [] w4 W) [0, 2, 3, 4, 5, 6, 7, 8, 9, 10, 11] [] [0, 1, 2, 3, 4, 5, 6, 7, 8, 9, 10, 11] (by kernel_rfl) (by kernel_rfl) ?_
            (repeat (refine wpX_st (v := ?_) _ (by rfl) (by rfl) (by rfl) (fun W hW => ?_) hS0 ?_; rotate_left; (focus ((try dsimp only at hW); go_simp; (try with_reducible rfl); done)); try simp only [Act.put, List.getElem_toArray, List.getElem_cons_zero, List.getElem_cons_succ, List.setIfInBounds_toArray, List.set_cons_zero, List.set_cons_succ]))
            refine wpX_eff _ (by rfl) (by rfl) (by rfl) (fun K hK => ?_)
            go_simp
            refine (num_any _ _).mono ?_
            rintro e w' ⟨rfl, rfl⟩
            dsimp only
            (refine hK _ _ (fun hl => ?_) ?_; (first | (focus (cases hl; done)) | exact hS0); clear hK K; try simp only [Act.put, List.getElem_toArray, List.getElem_cons_zero, List.getElem_cons_succ, List.setIfInBounds_toArray, List.set_cons_zero, List.set_cons_succ])
            (repeat (refine wpX_st (v := ?_) _ (by rfl) (by rfl) (by rfl) (fun W hW => ?_) hS0 ?_; rotate_left; (focus ((try dsimp only at hW); go_simp; (try with_reducible rfl); done)); try simp only [Act.put, List.getElem_toArray, List.getElem_cons_zero, List.getElem_cons_succ, List.setIfInBounds_toArray, List.set_cons_zero, List.set_cons_succ]))
            (simp only [wpX])
            clear T1 T2
            have how5 := own_drop (how4.fr hS0 (by simp)) m hml
            have hch5 := hch4.fr hS0 (by simp)
            go_upto_region 35 with (fail)
            have P3 := len_ok b _ B _ hch5
            have P4 := passed_ok b _ B _ hch5
            have hln : (s.take m).l.length = s.l.length - m := by simp [CS.take]
            rw [hln] at P3
            have hpw : IntKind.u64.wrap ((s.passed : Int) + m) = ((s.take m).passed : Int) := by
              simp [CS.take, IntKind.wrap, IntKind.bits, IntKind.signed]
            rw [hpw]
            obtain ⟨pq, hpq⟩ : ∃ pq : Nat, (s.take m).passed = pq := ⟨_, rfl⟩
            rw [hpq] at P4
            rw [hpq]
            have HPQ := Lib.hid hpq
            have HLN := Lib.hid hln
            clear hpw hpq hln
            generalize (if cap = m then ao else Option.map (fun x => x.add m) ao) = ao2 at *
            go_wp2_with (first
              | (go_at_call 16; refine P3.mono ?_; rintro e w' ⟨rfl, rfl⟩)
              | (go_at_call 17; refine P4.mono ?_; rintro e w' ⟨rfl, rfl⟩))
            go_roundw
            case rel =>
              have z0 := hf.size
              have z1 := hal.size
              refine ⟨k + 1, _, by omega, by go_num, rfl, ⟨s.take m, B, Y, ao2, cap - m, hch5, hroom, hlev, by rw [HLN.out], ?_, by rw [HPQ.out], hYB, hBt, hYt⟩, ?_⟩
              · rw [HLN.out]; exact how5
              · exact ((hf.trans hal (by simp)).trans hf4 (fun k hk => .inr (hBt k hk))).trans hS0 (by simp)
            case measure => simp [intOf]; omega
        · obtain ⟨Q, rfl⟩ : ∃ Q : Nat, N = (Q : Int) := ⟨N.toNat, by omega⟩
          have hQ63 : (Q : Int) ≤ 9223372036854775807 := by omega
          obtain ⟨m, hm⟩ : ∃ m : Nat, m = min Q s.l.length := ⟨_, rfl⟩
          have P2 := take_ok b s B Q w3 hch3 (by omega) m (by simpa using hm)
          have hml : m ≤ s.l.length := by omega
          have HM := Lib.hid hm
          clear hm
          go_upto_region 30 with (go_at_call 14; refine P2.mono ?_; rintro e w4 ⟨rfl, ho4, hch4, hf4, hs4⟩)
          clear P2
          go_cut [22] (fun v wc => v = .int .i64 m ∧ w4 = wc)
          case first =>
            have hso2 := hch.2.2
            unfold CS.ok at hso2
            go_wp2_with fail
            all_goals go_meet
            all_goals exact ⟨by have := HM.out; congr 1; omega, rfl⟩
          case rest =>
            obtain ⟨rfl, rfl⟩ := hcut
            have hnb : w3.heap.size ∉ b :: B := fun h => by have := hch3.lt _ h; omega
            have how4 := how3.fr hf4 hYB
            have T1 : ∀ W, Fr [] w4 W → Sem.run Try.prog (convert 22 9 (.slice (some ⟨w3.heap.size, 0, none⟩) m m)) W = .ok (.string ⟨(s.l.take m).toArray⟩) W :=
              fun W hW => run_text Try.underlying22 Try.underlying5 Try.underlying9 (ho4.rd.fr hW (by simp))
            have T2 : ∀ W, Fr [] w4 W → Sem.run Try.prog (convert 22 9 (.slice ao m cap)) W = .ok (.string ⟨(s.l.take m).toArray⟩) W :=
              fun W hW => run_text Try.underlying22 Try.underlying5 Try.underlying9 ((own_take how4 m hml).rd.fr hW (by simp))
            obtain ⟨_, hlc, hcm⟩ := how4.rd.bounds
            unfold maxLen at hcm
            have hmi : (m : Int) ≤ s.l.length := by omega
            have hmc : m ≤ cap := by omega
            have hmci : (m : Int) ≤ cap := by omega
            have hS0 : Fr [] w4 w4.drew := (Fr.refl _ _).drew
            generalize w3.heap.size = M at *
            generalize (s.l.take m).toArray = txt at *
            go_upto_region 31 with fail
            refine wp_region_X (fun W => Fr [] w4 W) [0, 2, 3, 4, 5, 6, 7, 8, 9, 10, 11] [] [0, 1, 2, 3, 4, 5, 6, 7, 8, 9, 10, 11] (by kernel_rfl) (by kernel_rfl) ?_
            (repeat (refine wpX_st (v := ?_) _ (by rfl) (by rfl) (by rfl) (fun W hW => ?_) hS0 ?_; rotate_left; (focus ((try dsimp only at hW); go_simp; (try with_reducible rfl); done)); try simp only [Act.put, List.getElem_toArray, List.getElem_cons_zero, List.getElem_cons_succ, List.setIfInBounds_toArray, List.set_cons_zero, List.set_cons_succ]))
            refine wpX_eff _ (by rfl) (by rfl) (by rfl) (fun K hK => ?_)
            go_simp
            refine (num_any _ _).mono ?_
            rintro e w' ⟨rfl, rfl⟩
            dsimp only
            (refine hK _ _ (fun hl => ?_) ?_; (first | (focus (cases hl; done)) | exact hS0); clear hK K; try simp only [Act.put, List.getElem_toArray, List.getElem_cons_zero, List.getElem_cons_succ, List.setIfInBounds_toArray, List.set_cons_zero, List.set_cons_succ])
            (repeat (refine wpX_st (v := ?_) _ (by rfl) (by rfl) (by rfl) (fun W hW => ?_) hS0 ?_; rotate_left; (focus ((try dsimp only at hW); go_simp; (try with_reducible rfl); done)); try simp only [Act.put, List.getElem_toArray, List.getElem_cons_zero, List.getElem_cons_succ, List.setIfInBounds_toArray, List.set_cons_zero, List.set_cons_succ]))
            (simp only [wpX])
            clear T1 T2
            have how5 := own_drop (how4.fr hS0 (by simp)) m hml
            have hch5 := hch4.fr hS0 (by simp)
            go_upto_region 35 with (fail)
            have P3 := len_ok b _ B _ hch5
            have P4 := passed_ok b _ B _ hch5
            have hln : (s.take m).l.length = s.l.length - m := by simp [CS.take]
            rw [hln] at P3
            have hpw : IntKind.u64.wrap ((s.passed : Int) + m) = ((s.take m).passed : Int) := by
              simp [CS.take, IntKind.wrap, IntKind.bits, IntKind.signed]
            rw [hpw]
            obtain ⟨pq, hpq⟩ : ∃ pq : Nat, (s.take m).passed = pq := ⟨_, rfl⟩
            rw [hpq] at P4
            rw [hpq]
            have HPQ := Lib.hid hpq
            have HLN := Lib.hid hln
            clear hpw hpq hln
            generalize (if cap = m then ao else Option.map (fun x => x.add m) ao) = ao2 at *
            go_wp2_with (first
              | (go_at_call 16; refine P3.mono ?_; rintro e w' ⟨rfl, rfl⟩)
              | (go_at_call 17; refine P4.mono ?_; rintro e w' ⟨rfl, rfl⟩))
            go_roundw
            case rel =>
              have z0 := hf.size
              have z1 := hal.size
              refine ⟨k + 1, _, by omega, by go_num, rfl, ⟨s.take m, B, Y, ao2, cap - m, hch5, hroom, hlev, by rw [HLN.out], ?_, by rw [HPQ.out], hYB, hBt, hYt⟩, ?_⟩
              · rw [HLN.out]; exact how5
              · exact ((hf.trans hal (by simp)).trans hf4 (fun k hk => .inr (hBt k hk))).trans hS0 (by simp)
            case measure => simp [intOf]; omega
      · have hb0 := Blk.new wr 39 [.int .i64 K, .slice wo wn wc, .int .i64 N, .int .u8 lev.toNat]
        have hal : Fr [] wr (wr.alloc (.cells [.int .i64 K, .slice wo wn wc, .int .i64 N, .int .u8 lev.toNat].toArray 39)) := (Fr.refl _ _).alloc _
        simp only [List.toArray] at hb0 hal
        have hbx : ∀ o, (wr.alloc o).heap.size = wr.heap.size + 1 := fun o => by simp
        obtain ⟨_, _, lev', Wb, wo', wn', wc', hopv, hrw, hwn⟩ := hop
        simp only [Value.agg.injEq, Array.mk.injEq, List.cons.injEq, Value.int.injEq, Value.slice.injEq, true_and, and_true] at hopv
        obtain ⟨rfl, ⟨rfl, rfl, rfl⟩, rfl, hlv⟩ := hopv
        clear hlv
        obtain ⟨hlW0, hwnc, hwcm⟩ := hrw.bounds
        have hlW : Wb.length = wn := by simpa using hlW0
        unfold maxLen at hwcm
        go_upto_region 13 with (fail)
        have hsz3 := hbx (Obj.cells #[.int .i64 K, .slice wo wn wc, .int .i64 N, .int .u8 lev.toNat] 39)
        generalize wr.alloc (Obj.cells #[.int .i64 K, .slice wo wn wc, .int .i64 N, .int .u8 lev.toNat] 39) = w3 at *
        have HSZ := Lib.hid hsz3
        clear hbx hsz3
        have g1 := hb0.cell 1
        simp at g1
        go_wp2_with (at_make; refine wpList_make_any rfl (.tmp 65) (.tmp 65) 22 (by rfl) 5 i5 (.int .u8 0) 1 1 Try.underlying22 hi hz0 hz1 hz2 .i64 .i64 wn wn (by rfl) (by rfl) (by omega) (by omega) (by omega) (by omega) ?_; intro w4 ho4 hf4 hs4 hh4; simp only [Int.toNat_natCast, Nat.mul_one] at ho4 ⊢)
        have hb4 := hb0.fr hf4 (by simp)
        have hrw4 := (hrw.fr hal (by simp)).fr hf4 (by simp)
        have hsz0 := hf.size
        have hch4 := (hch.fr hal (by simp)).fr hf4 (by simp)
        have how4 := (how.fr hal (by simp)).fr hf4 (by simp)
        obtain ⟨wq, hwq⟩ : ∃ x, x = wr := ⟨_, rfl⟩
        subst hwq
        generalize w3.heap.size = M at *
        have hMb : M ∉ b :: B := fun h => by have := hch.lt M h; have := HSZ.out; omega
        have hMY : M ∉ Y := fun h => by have := how.lt M h; have := HSZ.out; omega
        go_loopw [14] (fun j wr => ∃ (m : Nat) (xs : List Value), m ≤ wn ∧ j = .int .i64 m ∧ Own wr 5 1 (.slice (some ⟨M, 0, none⟩) wn wn) wn xs [M] ∧ (∀ p, p < m → xs[p]? = (ub (Wb.map (· &&& 1)))[p]?) ∧ Fr [M] w4 wr) (fun j _ => wn - (intOf j).toNat)
        case atStart => exact ⟨0, _, by omega, rfl, ho4, fun p hp => by omega, Fr.refl _ _⟩
        case round =>
          obtain ⟨m, xs, hm, rfl, ho5, hxs, hf5⟩ := hrel
          have hb5 := hb4.fr hf5 (by have := HSZ.out; simp; omega)
          have g1 := hb5.cell 1
          simp at g1
          by_cases hlm : m < wn
          · have hmi : (m : Int) < wn := by omega
            have hr5 := hrw4.fr hf5 (by intro k hk hk2; have := hS k hk; have := HSZ.out; simp at hk2; omega)
            obtain ⟨rb, ro, rfl, rfl, hrb, hcs⟩ := hr5.addr (by omega)
            obtain ⟨x, hxk⟩ : ∃ x, Wb[m]? = some x := ⟨_, List.getElem?_eq_getElem (by omega)⟩
            have hck : wr.cell? ⟨rb, ro + m, none⟩ = some (.int .u8 (x.toNat : Int)) := by
              rw [hcs m (by omega), ub_get? hxk]
            obtain ⟨a1, a2, _, _, _, a6⟩ := ho5.at
            have f1 := a2 (0 + m)
            obtain ⟨z, hz⟩ : ∃ z, wr.cell? ⟨M, 0 + m, none⟩ = some z := Option.isSome_iff_exists.1 (a6 m (by omega))
            have HX := Lib.hid hxs
            have HK := Lib.hid hxk
            obtain ⟨y, hy⟩ : ∃ y : UInt8, y = x &&& 1 := ⟨_, rfl⟩
            have hand := and1 x
            rw [← hy] at hand
            have HY := Lib.hid hy
            clear hy
            clear hcs a1 a2 a6 hxs hxk
            simp only [Nat.zero_add] at f1 hz
            go_wp2_with fail
            go_roundw
            case rel =>
              refine ⟨m + 1, _, by omega, by go_num, by simpa using ho5.set m (by omega) _, fun p hp => ?_, hf5.setCell (by simp) _⟩
              by_cases hpm : p = m
              · subst hpm
                rw [List.getElem?_set_self (by have := ho5.rd.bounds.1; omega), ub_get? (x := y) (by rw [List.getElem?_map, HK.out, HY.out]; rfl)]
              · rw [List.getElem?_set_ne (by omega)]
                exact HX.out p (by omega)
            case measure => simp [intOf]; omega
          · obtain rfl : m = wn := by omega
            obtain ⟨bt, hbt⟩ : ∃ bt, bt = Wb.map (· &&& 1) := ⟨_, rfl⟩
            have hbits : ∀ x ∈ bt, x ≤ 1 := by rw [hbt]; exact bits_le Wb
            have hbl : bt.length = m := by rw [hbt]; simpa using hlW
            rw [← hbt] at hxs
            have hxe := ext_lt (n := m) (by simpa using ho5.rd.bounds.1) (by simpa using hbl) hxs
            subst hxe
            have hch5 := hch4.fr hf5 (by intro k hk hk2; simp at hk2; subst hk2; exact hMb hk)
            have how5 := how4.fr hf5 (by intro k hk hk2; simp at hk2; subst hk2; exact hMY hk)
            have P2 := put_ok b s bt B [M] m m (some ⟨M, 0, none⟩) wr hch5 ho5.rd (by simpa using hMb) hbits
            clear hxs
            obtain ⟨f, hfe⟩ : ∃ f : Nat, f = min m (s.room - s.l.length) := ⟨_, rfl⟩
            rw [← hfe] at P2
            obtain ⟨d, hde⟩ : ∃ d : Nat, d = m - f := ⟨_, rfl⟩
            rw [← hde] at P2
            have HFE := Lib.hid hfe
            have HDE := Lib.hid hde
            have hso := hch.2.2
            have hdi : (m : Int) - f = d := by omega
            have hfR : f ≤ R := by omega
            clear hfe hde
            go_upto_region 19 with (go_at_call 12; refine P2.mono ?_; rintro e w6 ⟨rfl, B6, hch6, hf6, hB6⟩)
            clear P2
            obtain ⟨wt, hwt⟩ : ∃ x, x = wr := ⟨_, rfl⟩
            subst hwt
            go_cut [17] (fun v wc => v = .int .i64 f ∧ w6 = wc)
            case first =>
              have hso2 := hso
              unfold CS.ok at hso2
              have hffe := HFE.out
              have e1 : R - s.l.length = s.room - s.l.length := by rw [hroom]
              go_wp2_with fail
              all_goals go_meet
              all_goals exact ⟨by congr 1; omega, rfl⟩
            case rest =>
              obtain ⟨rfl, rfl⟩ := hcut
              have hMY6 : ∀ k, k ∈ Y → k ∉ b :: B := hYB
              have how6 := how5.fr hf6 hMY6
              have hrM := ho5.rd.fr hf6 (by simpa using hMb)
              have hlen : (s.l ++ (bt.take f).map (lv L)).length = s.l.length + f := by simp; have := HFE.out; omega
              have hput : s.put bt = ⟨R, L, s.l ++ (bt.take f).map (lv L), s.passed⟩ := by
                unfold CS.put
                rw [hroom, hlev, HFE.out, hroom]
                congr 1
                have e : bt.take (R - s.l.length) = bt.take (min m (R - s.l.length)) := by rw [List.take_eq_take_min, hbl, Nat.min_comm]
                rw [e]
              have hlR : s.l.length + f ≤ 65536 := by have := hch6.2.2; rw [hput] at this; unfold CS.ok at this; simp only [hlen] at this; omega
              have hfm : f ≤ m := by have := HFE.out; omega
              have hL1' : 2 ≤ L := by omega
              have hL2' : L ≤ 16 := by omega
              have HPUT := Lib.hid hput
              have HLEN := Lib.hid hlen
              clear hput hlen
              go_wp2_with (go_at_call 10; refine (num_any _ _).mono ?_; rintro e w' ⟨rfl, rfl⟩)
              go_loopw [9, 18] (fun wv j wr => ∃ (p : Nat) (ao : Option Addr) (cap : Nat) (Y' : List Nat), p ≤ f ∧ j = .int .i64 p ∧ wv = .slice ao (s.l.length + p) cap ∧ Own wr 5 1 (.slice ao (s.l.length + p) cap) (s.l.length + p) (ub (s.l ++ (bt.take p).map (lv L))) Y' ∧ (∀ k, k ∈ Y' → k ∈ Y ∨ w6.heap.size ≤ k) ∧ Fr Y w6 wr) (fun _ j _ => f - (intOf j).toNat)
              case atStart => exact ⟨0, ao, cap, Y, by omega, rfl, rfl, by simpa using how6, fun _ h => .inl h, Fr.refl _ _⟩
              case round =>
                obtain ⟨p, ao1, cap1, Y1, hp, rfl, rfl, ho7, hY1, hf7⟩ := hrel
                by_cases hlp : p < f
                · have hpi : (p : Int) < f := by omega
                  have hpm : (p : Int) < m := by omega
                  have hrM7 := hrM.fr hf7 (by simpa using hMY)
                  obtain ⟨x, hxk⟩ : ∃ x, bt[p]? = some x := ⟨_, List.getElem?_eq_getElem (by omega)⟩
                  obtain ⟨rb, ro, hsome, hSe, hrb, hcs⟩ := hrM7.addr (by omega)
                  simp only [Option.some.injEq, Addr.mk.injEq, and_true] at hsome
                  obtain ⟨rfl, rfl⟩ := hsome
                  have hck : wr.cell? ⟨M, p, none⟩ = some (.int .u8 (x.toNat : Int)) := by
                    have := hcs p (by omega)
                    rw [Nat.zero_add] at this
                    rw [this, ub_get? hxk]
                  obtain ⟨y, hy⟩ : ∃ y : UInt8, y = lv L x := ⟨_, rfl⟩
                  have hX := lv_wrap3 L x (hbits _ (List.mem_of_getElem? hxk)) hL1' hL2'
                  rw [← hy] at hX
                  have HY := Lib.hid hy
                  clear hy
                  have HK := Lib.hid hxk
                  clear hcs hxk
                  go_wp2_with ((with_reducible refine wpList_plain (o := ⟨some 122, _, _, _, _, _⟩) rfl (fun K hK => ?_)); refine wp_append_one (w := wr) _ _ 22 (by rfl) 5 i5 (.int .u8 0) 1 1 Try.underlying22 hi hz0 hz1 hz2 (by rfl) _ _ _ _ Y1 (by rfl) ho7 [_] (by rfl) ⟨rfl, rfl, rfl, rfl⟩ (by rfl) (by simp [Value.oneCell']) (by unfold maxLen; omega) (by omega) (fun ao3 cap3 w8 Y3 ho8 hf8 hY3 => ?_); refine hK _ _ ?_; clear hK K)
                  go_roundw
                  case rel =>
                    have hs8 := hf7.size
                    refine ⟨p + 1, ao3, cap3, Y3, by omega, by go_num, by rw [Nat.add_assoc], ?_, fun k hk => ?_, hf7.trans hf8 (fun k hk => ?_)⟩
                    · rw [← Nat.add_assoc, List.take_add_one, HK.out, Option.toList_some, List.map_append, List.map_singleton, ← HY.out, ← List.append_assoc, ub_append]
                      simpa [ub] using ho8
                    · rcases hY3 k hk with h | h
                      · exact hY1 k h
                      · exact .inr (by omega)
                    · exact hY1 k hk
                  case measure => simp [intOf]; omega
                · obtain rfl : p = f := by omega
                  go_wp2_with fail
                  go_roundw
                  case rel =>
                    have z0 := hf.size
                    have z1 := hal.size
                    have z2 := hf4.size
                    have z3 := hf5.size
                    have z6 := hf6.size
                    have hM := HSZ.out
                    have hhl : (s.put bt).l.length = s.l.length + p := by rw [HPUT.out]; exact HLEN.out
                    have hbB6 : ∀ k, k ∈ b :: B6 → k ∈ b :: B ∨ wt.heap.size ≤ k := fun k hk => by
                      rcases List.mem_cons.1 hk with rfl | hk
                      · exact .inl (by simp)
                      · rcases hB6 k hk with h | h
                        · exact .inl (by simp [h])
                        · exact .inr h
                    have hdis : ∀ k, k ∈ b :: B6 → k ∉ Y := fun k hk hk2 => by
                      rcases hbB6 k hk with h | h
                      · exact hYB k hk2 h
                      · have := how.lt k hk2; omega
                    refine ⟨k + 1, _, by omega, by go_num, rfl, ⟨s.put bt, B6, Y1, ao1, cap1, hch6.fr hf7 hdis, by rw [HPUT.out], by rw [HPUT.out], by rw [hhl], ?_, by rw [HPUT.out], fun k hk hk2 => ?_, fun k hk => ?_, fun k hk => ?_⟩, ?_⟩
                    · rw [hhl, HPUT.out]; exact ho7
                    · rcases hY1 k hk with h | h
                      · exact hdis k hk2 h
                      · have := hch6.lt k hk2; omega
                    · rcases hbB6 k hk with h | h
                      · exact hBt k h
                      · omega
                    · rcases hY1 k hk with h | h
                      · exact hYt k h
                      · omega
                    · refine ((((hf.trans hal (by simp)).trans hf4 (by simp)).trans hf5 (fun k hk => .inr ?_)).trans hf6 (fun k hk => .inr (hBt k hk))).trans hf7 (fun k hk => .inr (hYt k hk))
                      simp at hk; omega
                  case measure => simp [intOf]; omega
    · obtain rfl : k = n := by omega
      have hle : s.l.length ≤ R := by have := hch.2.2; unfold CS.ok at this; omega
      have hlei : (s.l.length : Int) ≤ R := by omega
      have P5 := len_ok b s B
      have T1 : ∀ W, Fr [] wr W → Sem.run Try.prog (convert 22 9 (.slice ao s.l.length cap)) W = .ok (.string ⟨s.l.toArray⟩) W :=
        fun W hW => run_text Try.underlying22 Try.underlying5 Try.underlying9 (how.rd.fr hW (by simp))
      have hS0 : Fr [] wr wr.drew := (Fr.refl _ _).drew
      go_upto_region 37 with (fail)
      refine wp_region_X (fun W => Fr [] wr W) [0, 3, 4, 5, 6, 7, 9, 10, 11] [12] [0, 3, 4, 1, 2, 5, 6, 7, 9, 8, 10, 11, 12] (by kernel_rfl) (by kernel_rfl) ?_
      (repeat (refine wpX_st (v := ?_) _ (by rfl) (by rfl) (by rfl) (fun W hW => ?_) hS0 ?_; rotate_left; (focus ((try dsimp only at hW); go_simp; (try with_reducible rfl); done)); try simp only [Act.put, List.getElem_toArray, List.getElem_cons_zero, List.getElem_cons_succ, List.setIfInBounds_toArray, List.set_cons_zero, List.set_cons_succ]))
      refine wpX_eff _ (by rfl) (by rfl) (by rfl) (fun K hK => ?_)
      go_simp
      refine (look_ok b s B wr.drew (hch.fr hS0 (by simp))).mono ?_
      rintro e w2 ⟨rfl, ho2, hf2, hs2⟩
      have hf12 : Fr [] wr w2 := hS0.trans hf2 (by simp)
      have hch2 := hch.fr hf12 (by simp)
      have T2 : Sem.run Try.prog (convert 22 9 (.slice (some ⟨wr.heap.size, 0, none⟩) s.l.length s.l.length)) w2 = .ok (.string ⟨s.l.toArray⟩) w2 := run_text Try.underlying22 Try.underlying5 Try.underlying9 ho2.rd
      dsimp only
      (refine hK _ _ (fun hl => ?_) ?_; (first | (focus (cases hl; done)) | exact hf12); clear hK K; try simp only [Act.put, List.getElem_toArray, List.getElem_cons_zero, List.getElem_cons_succ, List.setIfInBounds_toArray, List.set_cons_zero, List.set_cons_succ])
      (refine wpX_eff _ (by rfl) (by rfl) (by rfl) (fun K hK => ?_); go_simp; refine hK _ _ (fun hl => ?_) ?_; (first | (focus (cases hl; done)) | exact hf12); clear hK K; try simp only [Act.put, List.getElem_toArray, List.getElem_cons_zero, List.getElem_cons_succ, List.setIfInBounds_toArray, List.set_cons_zero, List.set_cons_succ])
      (repeat (refine wpX_st (v := ?_) _ (by rfl) (by rfl) (by rfl) (fun W hW => ?_) hf12 ?_; rotate_left; (focus ((try dsimp only at hW); go_simp; (try with_reducible rfl); done)); try simp only [Act.put, List.getElem_toArray, List.getElem_cons_zero, List.getElem_cons_succ, List.setIfInBounds_toArray, List.set_cons_zero, List.set_cons_succ]))
      refine wpX_eff _ (by rfl) (by rfl) (by rfl) (fun K hK => ?_)
      go_simp
      refine (P5 w2 hch2).mono ?_
      rintro e w' ⟨rfl, rfl⟩
      dsimp only
      (refine hK _ _ (fun hl => ?_) ?_; (first | (focus (cases hl; done)) | exact hf12); clear hK K; try simp only [Act.put, List.getElem_toArray, List.getElem_cons_zero, List.getElem_cons_succ, List.setIfInBounds_toArray, List.set_cons_zero, List.set_cons_succ])
      (repeat (refine wpX_st (v := ?_) _ (by rfl) (by rfl) (by rfl) (fun W hW => ?_) hf12 ?_; rotate_left; (focus ((try dsimp only at hW); go_simp; (try with_reducible rfl); done)); try simp only [Act.put, List.getElem_toArray, List.getElem_cons_zero, List.getElem_cons_succ, List.setIfInBounds_toArray, List.set_cons_zero, List.set_cons_succ]))
      (refine wpX_eff _ (by rfl) (by rfl) (by rfl) (fun K hK => ?_); go_simp; refine hK _ _ (fun hl => ?_) ?_; (first | (focus (cases hl; done)) | exact hf12); clear hK K; try simp only [Act.put, List.getElem_toArray, List.getElem_cons_zero, List.getElem_cons_succ, List.setIfInBounds_toArray, List.set_cons_zero, List.set_cons_succ])
      (simp only [wpX])
      clear T1 T2
      go_wp2_with fail
      go_ret
      exact ⟨rfl, hf.trans hf12 (by simp)⟩

end Go.Proofs.Ytlfchokafpodcaa
