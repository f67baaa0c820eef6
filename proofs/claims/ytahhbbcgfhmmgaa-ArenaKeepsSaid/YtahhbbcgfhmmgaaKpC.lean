/- Contracts: freed. -/
import Derived.Test.YtahhbbcgfhmmgaaKpB
open Go.RowKit Go.Own
namespace Go.Proofs.Ytahhbbcgfhmmgaa

theorem info45 : (Try.prog.info? 45).map (fun i => (i.zero, i.size, i.bytes)) = some (some (.agg #[.int .i64 0, .int .u32 0, .int .i64 0, .int .i64 0, .int .i64 0, .int .u8 0, .bool false]), 7, 48) := by kernel_rfl
theorem bflat_take (l : List BE) (k : Nat) (hk : k ≤ l.length) : (bflat l).take (k * 7) = bflat (l.take k) := by
  have e : bflat l = bflat (l.take k) ++ bflat (l.drop k) := by rw [← bflat_append, List.take_append_drop]
  rw [e, List.take_left' (by rw [bflat_length, List.length_take]; congr 1; omega)]
theorem bflat_drop (l : List BE) (k : Nat) (hk : k ≤ l.length) : (bflat l).drop (k * 7) = bflat (l.drop k) := by
  have e : bflat l = bflat (l.take k) ++ bflat (l.drop k) := by rw [← bflat_append, List.take_append_drop]
  rw [e, List.drop_left' (by rw [bflat_length, List.length_take]; congr 1; omega)]

def lenOfK : Value → Nat
  | .slice _ n _ => n
  | _ => 0
def boolN : Value → Nat
  | .bool true => 1
  | _ => 0
def FreRel (R : AR) (L : List Asn) (tv av : Value) (wr : World) : Prop :=
  ∃ (A : AR) (B : List BE) (id : Int) (ao : Option Addr) (cap : Nat) (bv : Bool), tv = .slice ao B.length cap ∧ av = .bool bv ∧ FI R A B id ∧ (bv = false → R = A) ∧ B.length ≤ 65536 ∧ Hold wr (rowA 45 7 ao B.length cap (bflat B) :: L)
def ScanRel (B : List BE) (ao : Option Addr) (cap : Nat) (L : List Asn) (tv av iv : Value) (wr : World) : Prop :=
  ∃ i : Nat, tv = .slice ao B.length cap ∧ av = .bool false ∧ i ≤ B.length ∧ iv = .int .i64 i ∧ (∀ (k : Nat) (e : BE), k < i → B[k]? = some e → needed B e) ∧ Hold wr (rowA 45 7 ao B.length cap (bflat B) :: L)
def NeedRel (B : List BE) (e : BE) (ao : Option Addr) (cap : Nat) (L : List Asn) (nv kv : Value) (wr : World) : Prop :=
  ∃ (k : Nat) (bv : Bool), k ≤ B.length ∧ kv = .int .i64 k ∧ nv = .bool bv ∧ (bv = true ↔ e.c.held = true ∨ ∃ (j : Nat) (f : BE), j < k ∧ B[j]? = some f ∧ f.c.parent = e.id) ∧ Hold wr (rowA 45 7 ao B.length cap (bflat B) :: L)

set_option maxHeartbeats 4000000 in
set_option maxRecDepth 20000 in
theorem freed_ok (R A : AR) (B : List BE) (id : Int) (hF : FI R A B id) (ao : Option Addr) (cap : Nat) (hB : B.length ≤ 65536) (w : World) (L : List Asn) (h : Hold w (rowA 45 7 ao B.length cap (bflat B) :: L)) :
    Calls Try.prog 17 #[.slice ao B.length cap] w fun e w' => ∃ (B2 : List BE) (a2 : Option Addr) (c2 : Nat), e = .returned (.slice a2 B2.length c2) ∧ (∃ id2, FI R R B2 id2) ∧ B2.length ≤ 65536 ∧ Hold w' (rowA 45 7 a2 B2.length c2 (bflat B2) :: L) := by
  obtain ⟨i45, hi45, hz0, hz1, hz2⟩ := info_parts info45
  go_enter Try.func17, Try.ntmps17
  go_wp2
  go_loopw [0, 3] (fun tv av wr => FreRel R L tv av wr) (fun tv av _ => 2 * lenOfK tv + boolN av)
  case atStart => exact ⟨A, B, id, ao, cap, true, rfl, rfl, hF, (fun h => nomatch h), hB, h⟩
  case round =>
    clear h hF hB
    obtain ⟨A1, B1, id1, a1, c1, bv, rfl, rfl, hF, hb, hB, hr⟩ := hrel
    have HF := Lib.hid hF
    cases bv with
    | false =>
      have hRA := hb rfl
      clear hF hb
      go_wp2
      go_ret
      exact ⟨B1, a1, c1, rfl, ⟨id1, by have := HF.out; rw [← hRA] at this; exact this⟩, hB, hr⟩
    | true =>
      clear hF hb
      obtain ⟨N, hN⟩ : ∃ N, B1.length = N := ⟨_, rfl⟩
      have HN := Lib.hid hN
      rw [hN] at hB ⊢
      go_upto_block 2 with (fail)
      go_wp2
      go_loopw [0, 3, 4] (fun tv av iv wr => ScanRel B1 a1 c1 L tv av iv wr) (fun _ _ iv _ => N - (intOf iv).toNat)
      case atStart => exact ⟨0, by rw [HN.out], rfl, Nat.zero_le _, rfl, fun k e hk => by omega, hr⟩
      case round =>
        clear hr
        obtain ⟨i, rfl, rfl, hi, rfl, hal, hr⟩ := hrel
        rw [hN] at hi hr ⊢
        clear hN
        have HAL := Lib.hid hal
        clear hal
        by_cases hlt : i < N
        · have hii : (i : Int) < (N : Int) := by omega
          have hi0 : 0 ≤ (i : Int) := by omega
          have W1 : IntKind.i64.wrap ((i : Int) + 1) = (i : Int) + 1 := IntWalk.i64_in _ (by omega)
          obtain ⟨e, he⟩ : ∃ e, B1[i]? = some e := ⟨B1[i]'(by have := HN.out; omega), List.getElem?_eq_getElem _⟩
          obtain ⟨rb, rp, rfl, G⟩ := be_at he HN.out hr
          obtain ⟨g6', -⟩ := G _ _ hr 6 (by omega)
          have g6 : wr.cell? ⟨rb, rp + i * 7 + 6, none⟩ = some (.bool e.c.held) := g6'
          have HE := Lib.hid he
          have HG := Lib.hid G
          clear G g6' he
          go_upto_region 8 with (fail)
          go_wp2
          go_loopw [5, 6] (fun nv kv wr => NeedRel B1 e (some ⟨rb, rp, none⟩) c1 L nv kv wr) (fun _ kv _ => N - (intOf kv).toNat)
          case atStart => exact ⟨0, e.c.held, Nat.zero_le _, rfl, rfl, by constructor; { intro h; exact .inl h }; { rintro (h | ⟨j, f, h1, -⟩); exact h; omega }, by rw [HN.out]; exact hr⟩
          case round =>
            clear hr g6
            obtain ⟨k, bv, hk, rfl, rfl, hbv, hr⟩ := hrel
            rw [HN.out] at hk hr
            have HBV := Lib.hid hbv
            clear hbv
            by_cases hkl : k < N
            · have hki : (k : Int) < (N : Int) := by omega
              have hk0 : 0 ≤ (k : Int) := by omega
              have W2 : IntKind.i64.wrap ((k : Int) + 1) = (k : Int) + 1 := IntWalk.i64_in _ (by omega)
              obtain ⟨f, hf⟩ : ∃ f, B1[k]? = some f := ⟨B1[k]'(by have := HN.out; omega), List.getElem?_eq_getElem _⟩
              have hX := hr.drew
              obtain ⟨rb', rp', hee, Gf⟩ := be_at hf HN.out hX
              simp only [Option.some.injEq, Addr.mk.injEq, and_true] at hee
              obtain ⟨rfl, rfl⟩ := hee
              obtain ⟨p4', -⟩ := Gf _ _ hX 4 (by omega)
              have p4 : wr.drew.cell? ⟨rb, rp + k * 7 + 4, none⟩ = some (.int .i64 f.c.parent) := p4'
              have p0 : wr.drew.cell? ⟨rb, rp + i * 7, none⟩ = some (.int .i64 e.id) := (HG.out _ _ hX 0 (by omega)).1
              have HFF := Lib.hid hf
              clear Gf p4' hf
              obtain ⟨cb, hcb⟩ : ∃ cb : Bool, (f.c.parent == (e.id : Int)) = cb := ⟨_, rfl⟩
              have hnew : ((bv || cb) = true ↔ e.c.held = true ∨ ∃ (j : Nat) (f : BE), j < k + 1 ∧ B1[j]? = some f ∧ f.c.parent = e.id) := by
                rw [Bool.or_eq_true, HBV.out, ← hcb, beq_iff_eq]
                constructor
                · rintro ((h | ⟨j, g, h1, h2, h3⟩) | h)
                  · exact .inl h
                  · exact .inr ⟨j, g, by omega, h2, h3⟩
                  · exact .inr ⟨k, f, by omega, HFF.out, h⟩
                · rintro (h | ⟨j, g, h1, h2, h3⟩)
                  · exact .inl (.inl h)
                  · by_cases hjk : j = k
                    · subst hjk
                      have h4 := HFF.out
                      rw [h2] at h4; simp at h4; subst h4
                      exact .inr h3
                    · exact .inl (.inr ⟨j, g, by omega, h2, h3⟩)
              have HNEW := Lib.hid hnew
              clear hnew
              go_upto_region 11 with (fail)
              cases bv with
              | true =>
                refine wp_region_Z (fun W => W.cell? ⟨rb, rp + k * 7 + 4, none⟩ = some (.int .i64 f.c.parent) ∧ W.cell? ⟨rb, rp + i * 7, none⟩ = some (.int .i64 e.id)) [6, 11] [] [0, 1, 2, 3, 4, 5, 7, 8, 9, 10, 12, 13, 14] [0, 1, 2, 3, 4, 5, 6, 7, 8, 9, 10, 11, 12, 13, 14] (by kernel_rfl) (by kernel_rfl) ?_
                (repeat (first | (refine wpZ_st (v := ?_) _ (by rfl) (by rfl) (by rfl) (fun W hW => ?_) (by exact ⟨p4, p0⟩) ?_; (rotate_left; (focus ((try dsimp only at hW); go_simp; (try with_reducible rfl); done))); try simp only [Act.put, List.getElem_toArray, List.getElem_cons_zero, List.getElem_cons_succ, List.setIfInBounds_toArray, List.set_cons_zero, List.set_cons_succ]) | (refine wpZ_pu (v := ?_) _ (by rfl) (by rfl) (by rfl) (by rfl) (fun W => ?_) ?_; (rotate_left; (focus ((try dsimp only at hW); go_simp; (try with_reducible rfl); done))); try simp only [Act.put, List.getElem_toArray, List.getElem_cons_zero, List.getElem_cons_succ, List.setIfInBounds_toArray, List.set_cons_zero, List.set_cons_succ]) | (refine wpZ_no _ (by rfl) (by rfl) (by rfl) (by rfl) ?_; try simp only [Act.put, List.getElem_toArray, List.getElem_cons_zero, List.getElem_cons_succ, List.setIfInBounds_toArray, List.set_cons_zero, List.set_cons_succ]) | (refine wpZ_noS _ (by rfl) (by rfl) (by rfl) (by exact ⟨p4, p0⟩) ?_; try simp only [Act.put, List.getElem_toArray, List.getElem_cons_zero, List.getElem_cons_succ, List.setIfInBounds_toArray, List.set_cons_zero, List.set_cons_succ])))
                (simp only [wpZ])
                go_wp2
                go_roundw
                case rel => exact ⟨k + 1, true, by rw [HN.out]; omega, by go_num, rfl, HNEW.out, by rw [HN.out]; exact hX⟩
                case measure => simp [intOf]; omega
              | false =>
                refine wp_region_Z (fun W => W.cell? ⟨rb, rp + k * 7 + 4, none⟩ = some (.int .i64 f.c.parent) ∧ W.cell? ⟨rb, rp + i * 7, none⟩ = some (.int .i64 e.id)) [6, 11] [] [0, 1, 2, 3, 4, 5, 7, 8, 9, 10, 12, 13, 14] [0, 1, 2, 3, 4, 5, 6, 7, 8, 9, 10, 11, 12, 13, 14] (by kernel_rfl) (by kernel_rfl) ?_
                (repeat (first | (refine wpZ_st (v := ?_) _ (by rfl) (by rfl) (by rfl) (fun W hW => ?_) (by exact ⟨p4, p0⟩) ?_; (rotate_left; (focus ((try dsimp only at hW); go_simp; (try with_reducible rfl); done))); try simp only [Act.put, List.getElem_toArray, List.getElem_cons_zero, List.getElem_cons_succ, List.setIfInBounds_toArray, List.set_cons_zero, List.set_cons_succ]) | (refine wpZ_pu (v := ?_) _ (by rfl) (by rfl) (by rfl) (by rfl) (fun W => ?_) ?_; (rotate_left; (focus ((try dsimp only at hW); go_simp; (try with_reducible rfl); done))); try simp only [Act.put, List.getElem_toArray, List.getElem_cons_zero, List.getElem_cons_succ, List.setIfInBounds_toArray, List.set_cons_zero, List.set_cons_succ]) | (refine wpZ_no _ (by rfl) (by rfl) (by rfl) (by rfl) ?_; try simp only [Act.put, List.getElem_toArray, List.getElem_cons_zero, List.getElem_cons_succ, List.setIfInBounds_toArray, List.set_cons_zero, List.set_cons_succ]) | (refine wpZ_noS _ (by rfl) (by rfl) (by rfl) (by exact ⟨p4, p0⟩) ?_; try simp only [Act.put, List.getElem_toArray, List.getElem_cons_zero, List.getElem_cons_succ, List.setIfInBounds_toArray, List.set_cons_zero, List.set_cons_succ])))
                (simp only [wpZ])
                go_wp2
                go_roundw
                case rel => exact ⟨k + 1, cb, by rw [HN.out]; omega, by go_num, rfl, by have := HNEW.out; simpa using this, by rw [HN.out]; exact hX⟩
                case measure => simp [intOf]; omega
            · obtain rfl : k = N := by omega
              have hnd : (bv = true ↔ needed B1 e) := by
                rw [HBV.out]
                unfold needed
                constructor
                · rintro (h | ⟨j, f, -, h⟩)
                  · exact .inl h
                  · exact .inr ⟨j, f, h⟩
                · rintro (h | ⟨j, f, h1, h2⟩)
                  · exact .inl h
                  · exact .inr ⟨j, f, by have := (List.getElem?_eq_some_iff.1 h1).1; have := HN.out; omega, h1, h2⟩
              have HND := Lib.hid hnd
              clear hnd
              cases bv with
              | true =>
                go_wp2
                go_roundw
                case rel =>
                  refine ⟨i + 1, by rw [HN.out], rfl, by rw [HN.out]; omega, by go_num, fun j f hj hf => ?_, by rw [HN.out]; exact hr⟩
                  by_cases hji : j = i
                  · subst hji
                    have h4 := HE.out
                    rw [hf] at h4; simp at h4; subst h4
                    exact HND.out.1 rfl
                  · exact HAL.out j f (by omega) hf
                case measure => simp [intOf]; omega
              | false =>
                have hun : ¬ needed B1 e := fun h => by have := HND.out.2 h; cases this
                obtain ⟨A2, id2, hF2⟩ := HF.out.next HE.out hun
                have HF2 := Lib.hid hF2
                clear hF2 hun HND HBV HAL
                have h6 := hr.drew
                have hq1 : (i : Int) + 1 ≤ (k : Int) := by omega
                have hn1 : ((i : Int) + 1).toNat = i + 1 := by omega
                have hq10 : ¬ ((i : Int) + 1 < 0) := by omega
                have hq11 : 0 ≤ (i : Int) + 1 := by omega
                have hqq : (i : Int) ≤ (i : Int) + 1 := by omega
                have W3 : IntKind.i64.wrap ((i : Int) + 1) = (i : Int) + 1 := IntWalk.i64_in _ (by omega)
                have hn2 : (i + 1 : Nat) ≤ k := by omega
                have hcb := h6.bounds.2.1
                have hc1q : i ≤ c1 := by omega
                have hc1i : (i : Int) ≤ (c1 : Int) := by omega
                have hc1j : (k : Int) ≤ (c1 : Int) := by omega
                have hc1m : (c1 : Int) ≤ 9223372036854775807 := by have := h6.bounds.2.2; unfold maxLen at this; omega
                obtain ⟨S1, r1⟩ := h6.rd
                have r2 := r1.sliced (l := 0) (u := i) (m := c1) (by omega) (by omega) (by omega) (by omega)
                have e1 : sliced (some ⟨rb, rp, none⟩) 0 i c1 7 = .slice (some ⟨rb, rp, none⟩) i c1 := by
                  unfold sliced; rw [if_neg (by omega)]; simp [Addr.add]
                have hNl := HN.out
                have e2 : ((bflat B1).drop (0 * 7)).take ((i - 0) * 7) = bflat (B1.take i) := by rw [Nat.zero_mul, List.drop_zero, Nat.sub_zero, bflat_take _ _ (by omega)]
                rw [e1, e2, Nat.sub_zero] at r2
                have HN1 := Lib.hid (bflat_one (B1.take i))
                have HN2 := Lib.hid (bflat_one (B1.drop (i + 1)))
                have hfin : ∀ (ao2 : Option Addr) (cap2 : Nat) (wz : World), Hold wz (rowA 45 7 ao2 (i + (k - (i + 1))) cap2 (bflat (B1.take i) ++ bflat (B1.drop (i + 1))) :: rowA 45 7 (some ⟨rb, rp, none⟩) k c1 (bflat B1) :: L) → FreRel R L (.slice ao2 (i + (k - (i + 1))) cap2) (.bool true) wz := fun ao2 cap2 wz hW => by
                  have el : (B1.take i ++ B1.drop (i + 1)).length = i + (k - (i + 1)) := by simp; omega
                  have h7 := (hW.mv 1).drop
                  rw [← bflat_append, ← el] at h7
                  exact ⟨A2, _, id2, ao2, cap2, true, by rw [el], rfl, HF2.out, (fun h => nomatch h), by rw [el]; omega, h7⟩
                have HFIN := Lib.hid hfin
                have HX : Hid (i + (k - (i + 1)) < k) := Lib.hid (by omega)
                have r3 := fun (W : World) (hW : ∃ S, Rd W 7 (.slice (some ⟨rb, rp, none⟩) k c1) k (bflat B1) S) => hW.choose_spec.sliced (l := i + 1) (u := k) (m := c1) (by omega) (by omega) (by omega) (by omega)
                have e3 : ((bflat B1).drop ((i + 1) * 7)).take ((k - (i + 1)) * 7) = bflat (B1.drop (i + 1)) := by
                  rw [bflat_drop _ _ (by omega), List.take_of_length_le (by rw [bflat_length, List.length_drop, hNl]; exact Nat.le_refl _)]
                rw [e3] at r3
                clear e1 e2 e3 hfin hr hNl
                obtain ⟨L9, hL9⟩ : ∃ L9, k - (i + 1) = L9 := ⟨_, rfl⟩
                rw [hL9] at r3 HFIN HX
                go_upto_region 13 with (fail)
                by_cases hce : c1 = i + 1
                · subst hce
                  have e4 : sliced (some ⟨rb, rp, none⟩) (i + 1) k (i + 1) 7 = .slice (some ⟨rb, rp, none⟩) L9 0 := by
                    unfold sliced; rw [if_pos rfl, hL9, Nat.sub_self]
                  rw [e4] at r3
                  clear e4
                  refine wp_region_Z (fun W => True) [] [0, 4, 9] [1, 2, 3, 5, 6, 7, 8, 10] [1, 2, 3, 5, 6, 7, 8, 0, 4, 9, 10] (by kernel_rfl) (by kernel_rfl) ?_
                  (repeat (first | (refine wpZ_st (v := ?_) _ (by rfl) (by rfl) (by rfl) (fun W hW => ?_) (by trivial) ?_; (rotate_left; (focus ((try dsimp only at hW); go_simp; (try with_reducible rfl); done))); try simp only [Act.put, List.getElem_toArray, List.getElem_cons_zero, List.getElem_cons_succ, List.setIfInBounds_toArray, List.set_cons_zero, List.set_cons_succ]) | (refine wpZ_pu (v := ?_) _ (by rfl) (by rfl) (by rfl) (by rfl) (fun W => ?_) ?_; (rotate_left; (focus ((try dsimp only at hW); go_simp; (try with_reducible rfl); done))); try simp only [Act.put, List.getElem_toArray, List.getElem_cons_zero, List.getElem_cons_succ, List.setIfInBounds_toArray, List.set_cons_zero, List.set_cons_succ]) | (refine wpZ_no _ (by rfl) (by rfl) (by rfl) (by rfl) ?_; try simp only [Act.put, List.getElem_toArray, List.getElem_cons_zero, List.getElem_cons_succ, List.setIfInBounds_toArray, List.set_cons_zero, List.set_cons_succ]) | (refine wpZ_noS _ (by rfl) (by rfl) (by rfl) (by trivial) ?_; try simp only [Act.put, List.getElem_toArray, List.getElem_cons_zero, List.getElem_cons_succ, List.setIfInBounds_toArray, List.set_cons_zero, List.set_cons_succ])))
                  (refine wpZ_eff _ (by rfl) (by rfl) (by rfl) (by rfl) (fun K hK => ?_); go_simp; refine hK _ _ (fun hl => ?_) ?_; (first | (focus (cases hl; done)) | trivial); clear hK K; try simp only [Act.put, List.getElem_toArray, List.getElem_cons_zero, List.getElem_cons_succ, List.setIfInBounds_toArray, List.set_cons_zero, List.set_cons_succ])
                  refine wpZ_eff _ (by rfl) (by rfl) (by rfl) (by rfl) (fun K hK => ?_)
                  refine wp_append_new_h (w := wr.drew) _ _ 41 (by rfl) 45 i45 (.agg #[.int .i64 0, .int .u32 0, .int .i64 0, .int .i64 0, .int .i64 0, .int .u8 0, .bool false]) 7 48 Try.underlying41 hi45 hz0 hz1 hz2 (by rfl) h6 (by rfl) ⟨rfl, rfl, rfl, rfl⟩ _ (by rfl) i (bflat (B1.take i)) S1 r2 HN1.out (by unfold maxLen; omega) (by omega) (fun a3 c3 w7 h7 hc7 => ?_)
                  have r4 := r3 w7 (h7.mv 1).rd
                  (refine hK _ _ (fun hl => ?_) ?_; (first | (focus (cases hl; done)) | trivial); clear hK K; try simp only [Act.put, List.getElem_toArray, List.getElem_cons_zero, List.getElem_cons_succ, List.setIfInBounds_toArray, List.set_cons_zero, List.set_cons_succ])
                  refine wpZ_eff _ (by rfl) (by rfl) (by rfl) (by rfl) (fun K hK => ?_)
                  refine wp_append_src_h (w := w7) _ _ 41 (by rfl) 45 i45 (.agg #[.int .i64 0, .int .u32 0, .int .i64 0, .int .i64 0, .int .i64 0, .int .u8 0, .bool false]) 7 48 Try.underlying41 hi45 hz0 hz1 hz2 (by rfl) a3 i c3 _ (by rfl) h7 _ (by rfl) L9 (bflat (B1.drop (i + 1))) _ r4 HN2.out (by unfold maxLen; omega) (by omega) (fun a4 c4 w8 h8 hc8 => ?_)
                  (refine hK _ _ (fun hl => ?_) ?_; (first | (focus (cases hl; done)) | trivial); clear hK K; try simp only [Act.put, List.getElem_toArray, List.getElem_cons_zero, List.getElem_cons_succ, List.setIfInBounds_toArray, List.set_cons_zero, List.set_cons_succ])
                  (repeat (first | (refine wpZ_st (v := ?_) _ (by rfl) (by rfl) (by rfl) (fun W hW => ?_) (by trivial) ?_; (rotate_left; (focus ((try dsimp only at hW); go_simp; (try with_reducible rfl); done))); try simp only [Act.put, List.getElem_toArray, List.getElem_cons_zero, List.getElem_cons_succ, List.setIfInBounds_toArray, List.set_cons_zero, List.set_cons_succ]) | (refine wpZ_pu (v := ?_) _ (by rfl) (by rfl) (by rfl) (by rfl) (fun W => ?_) ?_; (rotate_left; (focus ((try dsimp only at hW); go_simp; (try with_reducible rfl); done))); try simp only [Act.put, List.getElem_toArray, List.getElem_cons_zero, List.getElem_cons_succ, List.setIfInBounds_toArray, List.set_cons_zero, List.set_cons_succ]) | (refine wpZ_no _ (by rfl) (by rfl) (by rfl) (by rfl) ?_; try simp only [Act.put, List.getElem_toArray, List.getElem_cons_zero, List.getElem_cons_succ, List.setIfInBounds_toArray, List.set_cons_zero, List.set_cons_succ]) | (refine wpZ_noS _ (by rfl) (by rfl) (by rfl) (by trivial) ?_; try simp only [Act.put, List.getElem_toArray, List.getElem_cons_zero, List.getElem_cons_succ, List.setIfInBounds_toArray, List.set_cons_zero, List.set_cons_succ])))
                  (simp only [wpZ])
                  have HREL := Lib.hid (HFIN.out a4 c4 w8 h8)
                  clear r4 h7 h8 r2 r3 h6
                  go_wp2
                  go_roundw
                  case rel => exact HREL.out
                  case measure => simp [lenOfK, boolN]; have := HX.out; omega
                · have e4 : sliced (some ⟨rb, rp, none⟩) (i + 1) k c1 7 = .slice (some ⟨rb, rp + (i + 1) * 7, none⟩) L9 (c1 - (i + 1)) := by
                    unfold sliced; rw [if_neg hce, hL9]; simp [Addr.add]
                  rw [e4] at r3
                  clear e4
                  refine wp_region_Z (fun W => True) [] [0, 4, 9] [1, 2, 3, 5, 6, 7, 8, 10] [1, 2, 3, 5, 6, 7, 8, 0, 4, 9, 10] (by kernel_rfl) (by kernel_rfl) ?_
                  (repeat (first | (refine wpZ_st (v := ?_) _ (by rfl) (by rfl) (by rfl) (fun W hW => ?_) (by trivial) ?_; (rotate_left; (focus ((try dsimp only at hW); go_simp; (try with_reducible rfl); done))); try simp only [Act.put, List.getElem_toArray, List.getElem_cons_zero, List.getElem_cons_succ, List.setIfInBounds_toArray, List.set_cons_zero, List.set_cons_succ]) | (refine wpZ_pu (v := ?_) _ (by rfl) (by rfl) (by rfl) (by rfl) (fun W => ?_) ?_; (rotate_left; (focus ((try dsimp only at hW); go_simp; (try with_reducible rfl); done))); try simp only [Act.put, List.getElem_toArray, List.getElem_cons_zero, List.getElem_cons_succ, List.setIfInBounds_toArray, List.set_cons_zero, List.set_cons_succ]) | (refine wpZ_no _ (by rfl) (by rfl) (by rfl) (by rfl) ?_; try simp only [Act.put, List.getElem_toArray, List.getElem_cons_zero, List.getElem_cons_succ, List.setIfInBounds_toArray, List.set_cons_zero, List.set_cons_succ]) | (refine wpZ_noS _ (by rfl) (by rfl) (by rfl) (by trivial) ?_; try simp only [Act.put, List.getElem_toArray, List.getElem_cons_zero, List.getElem_cons_succ, List.setIfInBounds_toArray, List.set_cons_zero, List.set_cons_succ])))
                  (refine wpZ_eff _ (by rfl) (by rfl) (by rfl) (by rfl) (fun K hK => ?_); go_simp; refine hK _ _ (fun hl => ?_) ?_; (first | (focus (cases hl; done)) | trivial); clear hK K; try simp only [Act.put, List.getElem_toArray, List.getElem_cons_zero, List.getElem_cons_succ, List.setIfInBounds_toArray, List.set_cons_zero, List.set_cons_succ])
                  refine wpZ_eff _ (by rfl) (by rfl) (by rfl) (by rfl) (fun K hK => ?_)
                  refine wp_append_new_h (w := wr.drew) _ _ 41 (by rfl) 45 i45 (.agg #[.int .i64 0, .int .u32 0, .int .i64 0, .int .i64 0, .int .i64 0, .int .u8 0, .bool false]) 7 48 Try.underlying41 hi45 hz0 hz1 hz2 (by rfl) h6 (by rfl) ⟨rfl, rfl, rfl, rfl⟩ _ (by rfl) i (bflat (B1.take i)) S1 r2 HN1.out (by unfold maxLen; omega) (by omega) (fun a3 c3 w7 h7 hc7 => ?_)
                  have r4 := r3 w7 (h7.mv 1).rd
                  (refine hK _ _ (fun hl => ?_) ?_; (first | (focus (cases hl; done)) | trivial); clear hK K; try simp only [Act.put, List.getElem_toArray, List.getElem_cons_zero, List.getElem_cons_succ, List.setIfInBounds_toArray, List.set_cons_zero, List.set_cons_succ])
                  refine wpZ_eff _ (by rfl) (by rfl) (by rfl) (by rfl) (fun K hK => ?_)
                  refine wp_append_src_h (w := w7) _ _ 41 (by rfl) 45 i45 (.agg #[.int .i64 0, .int .u32 0, .int .i64 0, .int .i64 0, .int .i64 0, .int .u8 0, .bool false]) 7 48 Try.underlying41 hi45 hz0 hz1 hz2 (by rfl) a3 i c3 _ (by rfl) h7 _ (by rfl) L9 (bflat (B1.drop (i + 1))) _ r4 HN2.out (by unfold maxLen; omega) (by omega) (fun a4 c4 w8 h8 hc8 => ?_)
                  (refine hK _ _ (fun hl => ?_) ?_; (first | (focus (cases hl; done)) | trivial); clear hK K; try simp only [Act.put, List.getElem_toArray, List.getElem_cons_zero, List.getElem_cons_succ, List.setIfInBounds_toArray, List.set_cons_zero, List.set_cons_succ])
                  (repeat (first | (refine wpZ_st (v := ?_) _ (by rfl) (by rfl) (by rfl) (fun W hW => ?_) (by trivial) ?_; (rotate_left; (focus ((try dsimp only at hW); go_simp; (try with_reducible rfl); done))); try simp only [Act.put, List.getElem_toArray, List.getElem_cons_zero, List.getElem_cons_succ, List.setIfInBounds_toArray, List.set_cons_zero, List.set_cons_succ]) | (refine wpZ_pu (v := ?_) _ (by rfl) (by rfl) (by rfl) (by rfl) (fun W => ?_) ?_; (rotate_left; (focus ((try dsimp only at hW); go_simp; (try with_reducible rfl); done))); try simp only [Act.put, List.getElem_toArray, List.getElem_cons_zero, List.getElem_cons_succ, List.setIfInBounds_toArray, List.set_cons_zero, List.set_cons_succ]) | (refine wpZ_no _ (by rfl) (by rfl) (by rfl) (by rfl) ?_; try simp only [Act.put, List.getElem_toArray, List.getElem_cons_zero, List.getElem_cons_succ, List.setIfInBounds_toArray, List.set_cons_zero, List.set_cons_succ]) | (refine wpZ_noS _ (by rfl) (by rfl) (by rfl) (by trivial) ?_; try simp only [Act.put, List.getElem_toArray, List.getElem_cons_zero, List.getElem_cons_succ, List.setIfInBounds_toArray, List.set_cons_zero, List.set_cons_succ])))
                  (simp only [wpZ])
                  have HREL := Lib.hid (HFIN.out a4 c4 w8 h8)
                  clear r4 h7 h8 r2 r3 h6
                  go_wp2
                  go_roundw
                  case rel => exact HREL.out
                  case measure => simp [lenOfK, boolN]; have := HX.out; omega
        · obtain rfl : i = N := by omega
          have hlast := HF.out.last (fun k e hk => HAL.out k e (by have := (List.getElem?_eq_some_iff.1 hk).1; have := HN.out; omega) hk)
          go_wp2
          go_roundw
          case rel => exact ⟨A1, B1, id1, a1, c1, false, by rw [HN.out], rfl, HF.out, fun _ => hlast, by rw [HN.out]; exact hB, by rw [HN.out]; exact hr⟩
          case measure => simp [lenOfK, boolN]

end Go.Proofs.Ytahhbbcgfhmmgaa
