/- The walk of BucketsOrder where New makes buckets. -/
import Derived.Test.YtpffofliemooiaaBuO
open Go.RowKit Go.Own
namespace Go.Proofs.Ytpffofliemooiaa

def OrdRel (b q : Nat) (d lo hi cp : Int) (ms : List Int) (n : Nat) (C : Asn) (L : List Asn) (i got : Value) (wr : World) : Prop :=
  ∃ (k g : Nat) (S : BS), k ≤ n ∧ i = .int .i64 k ∧ got = .int .i64 g ∧ Fit d lo hi cp S ∧ Inv ms k S ∧ S.n = g ∧ (g : Int) ≤ cp ∧ Hold wr (bkA b S :: seA q d lo hi cp :: C :: L)
def PopRel (b q : Nat) (d lo hi cp : Int) (ms : List Int) (n g : Nat) (C : Asn) (L : List Asn) (last bucket kv : Value) (wr : World) : Prop :=
  ∃ (k : Nat) (S : BS) (lv bv : Int), k ≤ g ∧ kv = .int .i64 k ∧ last = .int .i64 lv ∧ bucket = .int .i64 bv ∧ Fit d lo hi cp S ∧ Inv ms n S ∧ S.n + k = g ∧ (k = 0 ∨ ∃ kq : Nat, bv = (kq : Int) + S.base ∧ Below S kq lv) ∧ Hold wr (bkA b S :: seA q d lo hi cp :: C :: L)

theorem rIndex_at (m d x : Int) (hm : I64 m) (h1 : 1 ≤ d) (h2 : d ≤ 65536) (hx : m / d = x) (w : World) : Calls Try.prog 14 #[.int .i64 m, .int .i64 d] w fun e w' => e = .returned (.tuple #[.int .i64 x, .int .i64 0]) ∧ w = w' := by
  have := rIndex_ok m d hm w
  unfold idxE idxV at this
  rw [if_neg (by omega), if_neg (by omega), hx] at this
  exact this

set_option maxHeartbeats 2000000 in
set_option maxRecDepth 20000 in
theorem order_good (d lo hi cp : Int) (hd1 : 1 ≤ d) (hd2 : d ≤ 65536) (hlo : I64 lo) (hhi : I64 hi) (hlh : lo ≤ hi) (hc1 : 1 ≤ cp) (hc2 : cp ≤ 65536) (hsz : hi / d - lo / d < 65536) (ms : List Int) (hms : ∀ m ∈ ms, I64 m) (C : Asn) (ao : Option Addr) (n cap : Nat) (hR : Reads C 1 (.slice ao n cap) n (is ms)) (hn9 : n ≤ 140737488351232) (w : World) (L : List Asn) (h : Hold w (C :: L)) :
    Calls Try.prog 3 #[.agg #[.int .i64 d, .int .i64 lo, .int .i64 hi, .int .i64 cp], .slice ao n cap] w fun e w' => e = .returned (.bool true) ∧ Hold w' (C :: L) := by
  have PN := fun w L h => new_good d lo hi cp hd1 hd2 hlo hhi hlh hc1 hc2 hsz w L h
  have F0 := fit_new hd1 hd2 hlh hlo hhi hc1 hc2 hsz
  have I0 := inv_new ms d lo hi cp hlh hd1 hc1 hsz
  have hml : ms.length = n := by
    obtain ⟨S0, r0⟩ := h.reads hR
    have := r0.bounds.1
    simpa using this
  have HML := Lib.hid hml
  have HMS := Lib.hid hms
  have hN : (n : Int) ≤ 9223372036854775807 := by omega
  have HFI := Lib.hid (And.intro F0 I0)
  have HD := Lib.hid (And.intro hd1 hd2)
  have hcb : cp ≤ 9223372036854775806 := by omega
  have hcl : -9223372036854775808 ≤ cp := by omega
  have HC := Lib.hid (And.intro hc1 hc2)
  clear hml hms F0 I0 hd1 hd2 hlo hhi hlh hc1 hc2 hsz hn9
  go_enter Try.func3, Try.ntmps3
  have hb : Hold _ (seA w.heap.size d lo hi cp :: C :: L) := h.box 23 [.int .i64 d, .int .i64 lo, .int .i64 hi, .int .i64 cp]
  go_upto_region 1 with (fail)
  refine gen_world hb (fun w1 hb => ?_)
  generalize w.heap.size = q at *
  obtain ⟨g0, g1, g2, g3⟩ := seM hb
  go_upto_region 2 with (go_at_call 9; refine (PN _ _ hb).mono ?_; rintro e w2 ⟨b, rfl, h2⟩)
  clear PN g0 g1 g2 g3 hb
  go_upto_region 5 with (first
    | (go_at_call 10; refine (num_any _ _).mono ?_; rintro e w2 ⟨rfl, rfl⟩))
  go_wp2
  go_loopw [8, 7] (fun i got wr => OrdRel b q d lo hi cp ms n C L i got wr) (fun i _ _ => n - (intOf i).toNat)
  case atStart => exact ⟨0, 0, newS d lo hi cp, by omega, rfl, rfl, HFI.out.1, HFI.out.2, rfl, by have := HC.out; omega, h2⟩
  case round =>
    clear h2 HFI
    obtain ⟨k, g, S, hk, rfl, rfl, F, I, hSn, hg, hr⟩ := hrel
    by_cases hlt : k < n
    · have hki : (k : Int) < n := by omega
      have hk0 : 0 ≤ (k : Int) := by omega
      have hg0 : 0 ≤ (g : Int) := by omega
      obtain ⟨m, hm⟩ : ∃ m, ms[k]? = some m := ⟨ms[k]'(by rw [HML.out]; exact hlt), List.getElem?_eq_getElem _⟩
      have hm64 : I64 m := HMS.out m (List.mem_of_getElem? hm)
      obtain ⟨rb, ro, rfl, G0⟩ := rowG hR (by omega) (hr.mv 2)
      have G : ∀ W A, Hold W (A :: seA q d lo hi cp :: C :: L) → W.cell? ⟨rb, ro + k, none⟩ = some (.int .i64 m) ∧ W.cell? ⟨q, 1, none⟩ = some (.int .i64 lo) ∧ W.cell? ⟨q, 2, none⟩ = some (.int .i64 hi) := fun W A hW =>
        ⟨by rw [G0 W _ (hW.mv 2) k hlt]; simp [is, hm], (seM (hW.mv 1)).2.1, (seM (hW.mv 1)).2.2.1⟩
      have GC : ∀ W A, Hold W (A :: seA q d lo hi cp :: C :: L) → W.cell? ⟨q, 3, none⟩ = some (.int .i64 cp) := fun W A hW => (seM (hW.mv 1)).2.2.2
      have GO : ∀ W A, Hold W (A :: seA q d lo hi cp :: C :: L) → ∀ o : Nat, o < n → ∀ v, ms[o]? = some v → W.cell? ⟨rb, ro + o, none⟩ = some (.int .i64 v) ∧ W.cell? ⟨q, 0, none⟩ = some (.int .i64 d) := fun W A hW o ho v hv =>
        ⟨by rw [G0 W _ (hW.mv 2) o ho]; simp [is, hv], (seM (hW.mv 1)).1⟩
      have HG := Lib.hid G
      have HGC := Lib.hid GC
      have HGO := Lib.hid GO
      obtain ⟨c0, -, -⟩ := G _ _ hr
      have HF := Lib.hid F
      have HI := Lib.hid I
      have HM := Lib.hid hm
      clear G GC GO G0
      have hcase : m < lo ∨ (lo ≤ m ∧ hi < m) ∨ (lo ≤ m ∧ m ≤ hi ∧ (g : Int) < cp) ∨ (lo ≤ m ∧ m ≤ hi ∧ (g : Int) = cp) := by omega
      rcases hcase with hmlo | ⟨hmlo, hmhi⟩ | ⟨hmlo, hmhi, hgc⟩ | ⟨hmlo, hmhi, hgc⟩
      · have PP := put_far b S (by rw [F.ec]; exact HC.out.1) m k (.inl (by rw [F.el]; exact hmlo)) wr _ hr
        clear F I hm hm64
        go_upto_region 9 with (go_at_call 12; refine PP.mono ?_; rintro e w3 ⟨⟨z, hz, rfl⟩, h3⟩)
        have hz2 : (z == 0) = false := by rw [beq_eq_false_iff_ne]; exact hz
        have hz3 : (z != 0) = true := by simpa using hz
        clear PP c0 hr hz
        have hdec : decide (lo ≤ m) = false := by simp; omega
        have hS := h3.drew
        refine wp_region_Z (fun W => W.cell? ⟨rb, ro + k, none⟩ = some (.int .i64 m) ∧ W.cell? ⟨q, 1, none⟩ = some (.int .i64 lo) ∧ W.cell? ⟨q, 2, none⟩ = some (.int .i64 hi)) [6, 8, 14, 16] [] [0, 2, 3, 4, 5, 7, 9, 10, 11, 12, 13, 15, 17, 18, 19] [0, 3, 4, 5, 6, 7, 8, 9, 1, 2, 10, 11, 12, 13, 14, 15, 16, 17, 18, 19] (by kernel_rfl) (by kernel_rfl) ?_
        (repeat (first | (refine wpZ_st (v := ?_) _ (by rfl) (by rfl) (by rfl) (fun W hW => ?_) (by exact HG.out _ _ hS) ?_; (rotate_left; (focus ((try dsimp only at hW); go_simp; (try with_reducible rfl); done))); try simp only [Act.put, List.getElem_toArray, List.getElem_cons_zero, List.getElem_cons_succ, List.setIfInBounds_toArray, List.set_cons_zero, List.set_cons_succ]) | (refine wpZ_pu (v := ?_) _ (by rfl) (by rfl) (by rfl) (by rfl) (fun W => ?_) ?_; (rotate_left; (focus ((try dsimp only at hW); go_simp; (try with_reducible rfl); done))); try simp only [Act.put, List.getElem_toArray, List.getElem_cons_zero, List.getElem_cons_succ, List.setIfInBounds_toArray, List.set_cons_zero, List.set_cons_succ]) | (refine wpZ_no _ (by rfl) (by rfl) (by rfl) (by rfl) ?_; try simp only [Act.put, List.getElem_toArray, List.getElem_cons_zero, List.getElem_cons_succ, List.setIfInBounds_toArray, List.set_cons_zero, List.set_cons_succ]) | (refine wpZ_noS _ (by rfl) (by rfl) (by rfl) (by exact HG.out _ _ hS) ?_; try simp only [Act.put, List.getElem_toArray, List.getElem_cons_zero, List.getElem_cons_succ, List.setIfInBounds_toArray, List.set_cons_zero, List.set_cons_succ])))
        refine wpZ_eff _ (by rfl) (by rfl) (by rfl) (by rfl) (fun K hK => ?_)
        go_simp
        refine (num_any _ _).mono ?_
        rintro e w4 ⟨rfl, rfl⟩
        dsimp only
        (refine hK _ _ (fun hl => ?_) ?_; (first | (focus (cases hl; done)) | exact HG.out _ _ hS); clear hK K; try simp only [Act.put, List.getElem_toArray, List.getElem_cons_zero, List.getElem_cons_succ, List.setIfInBounds_toArray, List.set_cons_zero, List.set_cons_succ])
        (repeat (first | (refine wpZ_st (v := ?_) _ (by rfl) (by rfl) (by rfl) (fun W hW => ?_) (by exact HG.out _ _ hS) ?_; (rotate_left; (focus ((try dsimp only at hW); go_simp; (try with_reducible rfl); done))); try simp only [Act.put, List.getElem_toArray, List.getElem_cons_zero, List.getElem_cons_succ, List.setIfInBounds_toArray, List.set_cons_zero, List.set_cons_succ]) | (refine wpZ_pu (v := ?_) _ (by rfl) (by rfl) (by rfl) (by rfl) (fun W => ?_) ?_; (rotate_left; (focus ((try dsimp only at hW); go_simp; (try with_reducible rfl); done))); try simp only [Act.put, List.getElem_toArray, List.getElem_cons_zero, List.getElem_cons_succ, List.setIfInBounds_toArray, List.set_cons_zero, List.set_cons_succ]) | (refine wpZ_no _ (by rfl) (by rfl) (by rfl) (by rfl) ?_; try simp only [Act.put, List.getElem_toArray, List.getElem_cons_zero, List.getElem_cons_succ, List.setIfInBounds_toArray, List.set_cons_zero, List.set_cons_succ]) | (refine wpZ_noS _ (by rfl) (by rfl) (by rfl) (by exact HG.out _ _ hS) ?_; try simp only [Act.put, List.getElem_toArray, List.getElem_cons_zero, List.getElem_cons_succ, List.setIfInBounds_toArray, List.set_cons_zero, List.set_cons_succ])))
        (simp only [wpZ])
        go_wp2_with (go_at_call 10; refine (num_any _ _).mono ?_; rintro e w5 ⟨rfl, rfl⟩)
        go_roundw
        case rel => exact ⟨k + 1, g, S, by omega, by go_num, rfl, HF.out, HI.out.more, hSn, hg, hS⟩
        case measure => simp [intOf]; omega
      · have PP := put_far b S (by rw [F.ec]; exact HC.out.1) m k (.inr (by rw [F.eh]; exact hmhi)) wr _ hr
        clear F I hm hm64
        go_upto_region 9 with (go_at_call 12; refine PP.mono ?_; rintro e w3 ⟨⟨z, hz, rfl⟩, h3⟩)
        have hz2 : (z == 0) = false := by rw [beq_eq_false_iff_ne]; exact hz
        have hz3 : (z != 0) = true := by simpa using hz
        clear PP c0 hr hz
        have hdec : decide (lo ≤ m) = true := by simp; omega
        have hdec2 : decide (m ≤ hi) = false := by simp; omega
        have hS := h3.drew
        refine wp_region_Z (fun W => W.cell? ⟨rb, ro + k, none⟩ = some (.int .i64 m) ∧ W.cell? ⟨q, 1, none⟩ = some (.int .i64 lo) ∧ W.cell? ⟨q, 2, none⟩ = some (.int .i64 hi)) [6, 8, 14, 16] [] [0, 2, 3, 4, 5, 7, 9, 10, 11, 12, 13, 15, 17, 18, 19] [0, 3, 4, 5, 6, 7, 8, 9, 1, 2, 10, 11, 12, 13, 14, 15, 16, 17, 18, 19] (by kernel_rfl) (by kernel_rfl) ?_
        (repeat (first | (refine wpZ_st (v := ?_) _ (by rfl) (by rfl) (by rfl) (fun W hW => ?_) (by exact HG.out _ _ hS) ?_; (rotate_left; (focus ((try dsimp only at hW); go_simp; (try with_reducible rfl); done))); try simp only [Act.put, List.getElem_toArray, List.getElem_cons_zero, List.getElem_cons_succ, List.setIfInBounds_toArray, List.set_cons_zero, List.set_cons_succ]) | (refine wpZ_pu (v := ?_) _ (by rfl) (by rfl) (by rfl) (by rfl) (fun W => ?_) ?_; (rotate_left; (focus ((try dsimp only at hW); go_simp; (try with_reducible rfl); done))); try simp only [Act.put, List.getElem_toArray, List.getElem_cons_zero, List.getElem_cons_succ, List.setIfInBounds_toArray, List.set_cons_zero, List.set_cons_succ]) | (refine wpZ_no _ (by rfl) (by rfl) (by rfl) (by rfl) ?_; try simp only [Act.put, List.getElem_toArray, List.getElem_cons_zero, List.getElem_cons_succ, List.setIfInBounds_toArray, List.set_cons_zero, List.set_cons_succ]) | (refine wpZ_noS _ (by rfl) (by rfl) (by rfl) (by exact HG.out _ _ hS) ?_; try simp only [Act.put, List.getElem_toArray, List.getElem_cons_zero, List.getElem_cons_succ, List.setIfInBounds_toArray, List.set_cons_zero, List.set_cons_succ])))
        refine wpZ_eff _ (by rfl) (by rfl) (by rfl) (by rfl) (fun K hK => ?_)
        go_simp
        refine (num_any _ _).mono ?_
        rintro e w4 ⟨rfl, rfl⟩
        dsimp only
        (refine hK _ _ (fun hl => ?_) ?_; (first | (focus (cases hl; done)) | exact HG.out _ _ hS); clear hK K; try simp only [Act.put, List.getElem_toArray, List.getElem_cons_zero, List.getElem_cons_succ, List.setIfInBounds_toArray, List.set_cons_zero, List.set_cons_succ])
        (repeat (first | (refine wpZ_st (v := ?_) _ (by rfl) (by rfl) (by rfl) (fun W hW => ?_) (by exact HG.out _ _ hS) ?_; (rotate_left; (focus ((try dsimp only at hW); go_simp; (try with_reducible rfl); done))); try simp only [Act.put, List.getElem_toArray, List.getElem_cons_zero, List.getElem_cons_succ, List.setIfInBounds_toArray, List.set_cons_zero, List.set_cons_succ]) | (refine wpZ_pu (v := ?_) _ (by rfl) (by rfl) (by rfl) (by rfl) (fun W => ?_) ?_; (rotate_left; (focus ((try dsimp only at hW); go_simp; (try with_reducible rfl); done))); try simp only [Act.put, List.getElem_toArray, List.getElem_cons_zero, List.getElem_cons_succ, List.setIfInBounds_toArray, List.set_cons_zero, List.set_cons_succ]) | (refine wpZ_no _ (by rfl) (by rfl) (by rfl) (by rfl) ?_; try simp only [Act.put, List.getElem_toArray, List.getElem_cons_zero, List.getElem_cons_succ, List.setIfInBounds_toArray, List.set_cons_zero, List.set_cons_succ]) | (refine wpZ_noS _ (by rfl) (by rfl) (by rfl) (by exact HG.out _ _ hS) ?_; try simp only [Act.put, List.getElem_toArray, List.getElem_cons_zero, List.getElem_cons_succ, List.setIfInBounds_toArray, List.set_cons_zero, List.set_cons_succ])))
        (simp only [wpZ])
        go_wp2_with (go_at_call 10; refine (num_any _ _).mono ?_; rintro e w5 ⟨rfl, rfl⟩)
        go_roundw
        case rel => exact ⟨k + 1, g, S, by omega, by go_num, rfl, HF.out, HI.out.more, hSn, hg, hS⟩
        case measure => simp [intOf]; omega
      · have PP := put1 b F I hm hm64 hmlo hmhi (by rw [hSn]; exact hgc) wr _ hr
        clear F I hm hm64
        go_upto_region 9 with (go_at_call 12; refine PP.mono ?_; rintro e w3 ⟨rfl, S2, F2, I2, n2, h3⟩)
        have PL := fun w L h => len_ok b S2 (by rw [F2.ec]; exact HC.out.1) w L h
        rw [show ((S2.n : Nat) : Int) = (g : Int) + 1 by omega] at PL
        have hn2 : S2.n = g + 1 := by omega
        have HS2 := Lib.hid (And.intro F2 (And.intro I2 hn2))
        clear PP c0 hr F2 I2 n2 hn2
        have hdec : decide (lo ≤ m) = true := by simp; omega
        have hdec2 : decide (m ≤ hi) = true := by simp; omega
        have hS := h3.drew
        have c3 := HGC.out _ _ hS
        refine wp_region_Z (fun W => W.cell? ⟨rb, ro + k, none⟩ = some (.int .i64 m) ∧ W.cell? ⟨q, 1, none⟩ = some (.int .i64 lo) ∧ W.cell? ⟨q, 2, none⟩ = some (.int .i64 hi)) [6, 8, 14, 16] [] [0, 2, 3, 4, 5, 7, 9, 10, 11, 12, 13, 15, 17, 18, 19] [0, 3, 4, 5, 6, 7, 8, 9, 1, 2, 10, 11, 12, 13, 14, 15, 16, 17, 18, 19] (by kernel_rfl) (by kernel_rfl) ?_
        (repeat (first | (refine wpZ_st (v := ?_) _ (by rfl) (by rfl) (by rfl) (fun W hW => ?_) (by exact HG.out _ _ hS) ?_; (rotate_left; (focus ((try dsimp only at hW); go_simp; (try with_reducible rfl); done))); try simp only [Act.put, List.getElem_toArray, List.getElem_cons_zero, List.getElem_cons_succ, List.setIfInBounds_toArray, List.set_cons_zero, List.set_cons_succ]) | (refine wpZ_pu (v := ?_) _ (by rfl) (by rfl) (by rfl) (by rfl) (fun W => ?_) ?_; (rotate_left; (focus ((try dsimp only at hW); go_simp; (try with_reducible rfl); done))); try simp only [Act.put, List.getElem_toArray, List.getElem_cons_zero, List.getElem_cons_succ, List.setIfInBounds_toArray, List.set_cons_zero, List.set_cons_succ]) | (refine wpZ_no _ (by rfl) (by rfl) (by rfl) (by rfl) ?_; try simp only [Act.put, List.getElem_toArray, List.getElem_cons_zero, List.getElem_cons_succ, List.setIfInBounds_toArray, List.set_cons_zero, List.set_cons_succ]) | (refine wpZ_noS _ (by rfl) (by rfl) (by rfl) (by exact HG.out _ _ hS) ?_; try simp only [Act.put, List.getElem_toArray, List.getElem_cons_zero, List.getElem_cons_succ, List.setIfInBounds_toArray, List.set_cons_zero, List.set_cons_succ])))
        refine wpZ_eff _ (by rfl) (by rfl) (by rfl) (by rfl) (fun K hK => ?_)
        go_simp
        refine (num_any _ _).mono ?_
        rintro e w4 ⟨rfl, rfl⟩
        dsimp only
        (refine hK _ _ (fun hl => ?_) ?_; (first | (focus (cases hl; done)) | exact HG.out _ _ hS); clear hK K; try simp only [Act.put, List.getElem_toArray, List.getElem_cons_zero, List.getElem_cons_succ, List.setIfInBounds_toArray, List.set_cons_zero, List.set_cons_succ])
        (repeat (first | (refine wpZ_st (v := ?_) _ (by rfl) (by rfl) (by rfl) (fun W hW => ?_) (by exact HG.out _ _ hS) ?_; (rotate_left; (focus ((try dsimp only at hW); go_simp; (try with_reducible rfl); done))); try simp only [Act.put, List.getElem_toArray, List.getElem_cons_zero, List.getElem_cons_succ, List.setIfInBounds_toArray, List.set_cons_zero, List.set_cons_succ]) | (refine wpZ_pu (v := ?_) _ (by rfl) (by rfl) (by rfl) (by rfl) (fun W => ?_) ?_; (rotate_left; (focus ((try dsimp only at hW); go_simp; (try with_reducible rfl); done))); try simp only [Act.put, List.getElem_toArray, List.getElem_cons_zero, List.getElem_cons_succ, List.setIfInBounds_toArray, List.set_cons_zero, List.set_cons_succ]) | (refine wpZ_no _ (by rfl) (by rfl) (by rfl) (by rfl) ?_; try simp only [Act.put, List.getElem_toArray, List.getElem_cons_zero, List.getElem_cons_succ, List.setIfInBounds_toArray, List.set_cons_zero, List.set_cons_succ]) | (refine wpZ_noS _ (by rfl) (by rfl) (by rfl) (by exact HG.out _ _ hS) ?_; try simp only [Act.put, List.getElem_toArray, List.getElem_cons_zero, List.getElem_cons_succ, List.setIfInBounds_toArray, List.set_cons_zero, List.set_cons_succ])))
        (simp only [wpZ])
        go_wp2_with (first
          | (go_at_call 10; refine (num_any _ _).mono ?_; rintro e w5 ⟨rfl, rfl⟩)
          | (go_at_call 15; refine (PL _ _ hS).mono ?_; rintro e w5 ⟨rfl, rfl⟩))
        go_roundw
        case rel => exact ⟨k + 1, g + 1, S2, by omega, by go_num, by go_num, HS2.out.1, HS2.out.2.1, HS2.out.2.2, by push_cast; omega, hS⟩
        case measure => simp [intOf]; omega
      · have PP := put2 b F I hm hm64 hmlo hmhi (by rw [hSn]; exact hgc) wr _ hr
        have HGE := Lib.hid hgc
        clear F I hm hm64 hgc
        go_upto_region 9 with (go_at_call 12; refine PP.mono ?_; rintro e w3 ⟨o, S2, rfl, F2, I2, n2, ho, ⟨mo, hmo, hle⟩, h3⟩)
        obtain ⟨mo9, hmo9⟩ : ∃ mo9, mo9 = mo / d := ⟨_, rfl⟩
        have hcp1 := HC.out.1
        have hgc := HGE.out
        have hg1 : 1 ≤ g := by omega
        have hgm : (g : Int) ≤ 9223372036854775806 := by omega
        clear hcp1 hgc HGE
        have hmo64 : I64 mo := HMS.out mo (List.mem_of_getElem? hmo)
        have PI := fun w => rIndex_at mo d mo9 hmo64 HD.out.1 HD.out.2 hmo9.symm w
        rw [← hmo9] at hle
        obtain ⟨s1, s2, s3⟩ := I2.some (by omega)
        have PW := fun w L h => lowest_ok b S2 (by rw [F2.ec]; exact HC.out.1) (by omega) s1 s2 I2.len F2.t64 w L h
        have PL := fun w L h => len_ok b { S2 with low := loAt S2.rows S2.low } (by show 1 ≤ S2.cp; rw [F2.ec]; exact HC.out.1) w L h
        have eL : (({ S2 with low := loAt S2.rows S2.low } : BS).n : Int) = (g : Int) := by show ((S2.n : Nat) : Int) = g; omega
        rw [eL] at PL
        have F3 : Fit d lo hi cp { S2 with low := loAt S2.rows S2.low } := F2.same rfl rfl rfl rfl rfl rfl
        have I3 := inv_low I2 (by omega)
        have e3 : ({ S2 with low := loAt S2.rows S2.low } : BS).n = g := by show S2.n = g; omega
        generalize ({ S2 with low := loAt S2.rows S2.low } : BS) = S3 at *
        generalize ((loAt S2.rows S2.low : Nat) : Int) + S2.base = lw at *
        have HS2 := Lib.hid (And.intro F3 (And.intro I3 e3))
        have ho0 : 0 ≤ (o : Int) := by omega
        have hoi : (o : Int) ≤ k := by omega
        have hon : (o : Int) < n := by omega
        have HO := fun W A hW => HGO.out W A hW o (by omega) mo hmo
        have HHO := Lib.hid HO
        clear PP c0 hr F2 I2 n2 s1 s2 s3 F3 I3 e3 eL HO hmo hmo64 hmo9 ho
        have hdec : decide (lo ≤ m) = true := by simp; omega
        have hdec2 : decide (m ≤ hi) = true := by simp; omega
        have hS := h3.drew
        refine wp_region_Z (fun W => W.cell? ⟨rb, ro + k, none⟩ = some (.int .i64 m) ∧ W.cell? ⟨q, 1, none⟩ = some (.int .i64 lo) ∧ W.cell? ⟨q, 2, none⟩ = some (.int .i64 hi)) [6, 8, 14, 16] [] [0, 2, 3, 4, 5, 7, 9, 10, 11, 12, 13, 15, 17, 18, 19] [0, 3, 4, 5, 6, 7, 8, 9, 1, 2, 10, 11, 12, 13, 14, 15, 16, 17, 18, 19] (by kernel_rfl) (by kernel_rfl) ?_
        (repeat (first | (refine wpZ_st (v := ?_) _ (by rfl) (by rfl) (by rfl) (fun W hW => ?_) (by exact HG.out _ _ hS) ?_; (rotate_left; (focus ((try dsimp only at hW); go_simp; (try with_reducible rfl); done))); try simp only [Act.put, List.getElem_toArray, List.getElem_cons_zero, List.getElem_cons_succ, List.setIfInBounds_toArray, List.set_cons_zero, List.set_cons_succ]) | (refine wpZ_pu (v := ?_) _ (by rfl) (by rfl) (by rfl) (by rfl) (fun W => ?_) ?_; (rotate_left; (focus ((try dsimp only at hW); go_simp; (try with_reducible rfl); done))); try simp only [Act.put, List.getElem_toArray, List.getElem_cons_zero, List.getElem_cons_succ, List.setIfInBounds_toArray, List.set_cons_zero, List.set_cons_succ]) | (refine wpZ_no _ (by rfl) (by rfl) (by rfl) (by rfl) ?_; try simp only [Act.put, List.getElem_toArray, List.getElem_cons_zero, List.getElem_cons_succ, List.setIfInBounds_toArray, List.set_cons_zero, List.set_cons_succ]) | (refine wpZ_noS _ (by rfl) (by rfl) (by rfl) (by exact HG.out _ _ hS) ?_; try simp only [Act.put, List.getElem_toArray, List.getElem_cons_zero, List.getElem_cons_succ, List.setIfInBounds_toArray, List.set_cons_zero, List.set_cons_succ])))
        refine wpZ_eff _ (by rfl) (by rfl) (by rfl) (by rfl) (fun K hK => ?_)
        go_simp
        refine (num_any _ _).mono ?_
        rintro e w4 ⟨rfl, rfl⟩
        dsimp only
        (refine hK _ _ (fun hl => ?_) ?_; (first | (focus (cases hl; done)) | exact HG.out _ _ hS); clear hK K; try simp only [Act.put, List.getElem_toArray, List.getElem_cons_zero, List.getElem_cons_succ, List.setIfInBounds_toArray, List.set_cons_zero, List.set_cons_succ])
        (repeat (first | (refine wpZ_st (v := ?_) _ (by rfl) (by rfl) (by rfl) (fun W hW => ?_) (by exact HG.out _ _ hS) ?_; (rotate_left; (focus ((try dsimp only at hW); go_simp; (try with_reducible rfl); done))); try simp only [Act.put, List.getElem_toArray, List.getElem_cons_zero, List.getElem_cons_succ, List.setIfInBounds_toArray, List.set_cons_zero, List.set_cons_succ]) | (refine wpZ_pu (v := ?_) _ (by rfl) (by rfl) (by rfl) (by rfl) (fun W => ?_) ?_; (rotate_left; (focus ((try dsimp only at hW); go_simp; (try with_reducible rfl); done))); try simp only [Act.put, List.getElem_toArray, List.getElem_cons_zero, List.getElem_cons_succ, List.setIfInBounds_toArray, List.set_cons_zero, List.set_cons_succ]) | (refine wpZ_no _ (by rfl) (by rfl) (by rfl) (by rfl) ?_; try simp only [Act.put, List.getElem_toArray, List.getElem_cons_zero, List.getElem_cons_succ, List.setIfInBounds_toArray, List.set_cons_zero, List.set_cons_succ]) | (refine wpZ_noS _ (by rfl) (by rfl) (by rfl) (by exact HG.out _ _ hS) ?_; try simp only [Act.put, List.getElem_toArray, List.getElem_cons_zero, List.getElem_cons_succ, List.setIfInBounds_toArray, List.set_cons_zero, List.set_cons_succ])))
        (simp only [wpZ])
        go_upto_region 15 with (first
          | (go_at_call 10; refine (num_any _ _).mono ?_; rintro e w5 ⟨rfl, rfl⟩))
        have W1 : wrap64 ((g : Int) + 1 - 1) = (g : Int) := by rw [show (g : Int) + 1 - 1 = g by omega]; exact IntWalk.wrap64_in _ (by omega)
        go_upto_region 18 with (first
          | (go_at_call 13; refine (PW _ _ hS).mono ?_; rintro e w6 ⟨rfl, h6⟩))
        have hT := h6.drew
        refine wp_region_Z (fun W => W.cell? ⟨rb, ro + o, none⟩ = some (.int .i64 mo) ∧ W.cell? ⟨q, 0, none⟩ = some (.int .i64 d)) [3, 5] [6] [0, 1, 2, 4, 7, 8, 9, 10, 11] [0, 1, 2, 3, 4, 5, 6, 7, 8, 9, 10, 11] (by kernel_rfl) (by kernel_rfl) ?_
        (repeat (first | (refine wpZ_st (v := ?_) _ (by rfl) (by rfl) (by rfl) (fun W hW => ?_) (by exact HHO.out _ _ hT) ?_; (rotate_left; (focus ((try dsimp only at hW); go_simp; (try with_reducible rfl); done))); try simp only [Act.put, List.getElem_toArray, List.getElem_cons_zero, List.getElem_cons_succ, List.setIfInBounds_toArray, List.set_cons_zero, List.set_cons_succ]) | (refine wpZ_pu (v := ?_) _ (by rfl) (by rfl) (by rfl) (by rfl) (fun W => ?_) ?_; (rotate_left; (focus ((try dsimp only at hW); go_simp; (try with_reducible rfl); done))); try simp only [Act.put, List.getElem_toArray, List.getElem_cons_zero, List.getElem_cons_succ, List.setIfInBounds_toArray, List.set_cons_zero, List.set_cons_succ]) | (refine wpZ_no _ (by rfl) (by rfl) (by rfl) (by rfl) ?_; try simp only [Act.put, List.getElem_toArray, List.getElem_cons_zero, List.getElem_cons_succ, List.setIfInBounds_toArray, List.set_cons_zero, List.set_cons_succ]) | (refine wpZ_noS _ (by rfl) (by rfl) (by rfl) (by exact HHO.out _ _ hT) ?_; try simp only [Act.put, List.getElem_toArray, List.getElem_cons_zero, List.getElem_cons_succ, List.setIfInBounds_toArray, List.set_cons_zero, List.set_cons_succ])))
        refine wpZ_eff _ (by rfl) (by rfl) (by rfl) (by rfl) (fun K hK => ?_)
        go_simp
        refine (PI _).mono ?_
        rintro e w7 ⟨rfl, rfl⟩
        dsimp only
        (refine hK _ _ (fun hl => ?_) ?_; (first | (focus (cases hl; done)) | exact HHO.out _ _ hT); clear hK K; try simp only [Act.put, List.getElem_toArray, List.getElem_cons_zero, List.getElem_cons_succ, List.setIfInBounds_toArray, List.set_cons_zero, List.set_cons_succ])
        (repeat (first | (refine wpZ_st (v := ?_) _ (by rfl) (by rfl) (by rfl) (fun W hW => ?_) (by exact HHO.out _ _ hT) ?_; (rotate_left; (focus ((try dsimp only at hW); go_simp; (try with_reducible rfl); done))); try simp only [Act.put, List.getElem_toArray, List.getElem_cons_zero, List.getElem_cons_succ, List.setIfInBounds_toArray, List.set_cons_zero, List.set_cons_succ]) | (refine wpZ_pu (v := ?_) _ (by rfl) (by rfl) (by rfl) (by rfl) (fun W => ?_) ?_; (rotate_left; (focus ((try dsimp only at hW); go_simp; (try with_reducible rfl); done))); try simp only [Act.put, List.getElem_toArray, List.getElem_cons_zero, List.getElem_cons_succ, List.setIfInBounds_toArray, List.set_cons_zero, List.set_cons_succ]) | (refine wpZ_no _ (by rfl) (by rfl) (by rfl) (by rfl) ?_; try simp only [Act.put, List.getElem_toArray, List.getElem_cons_zero, List.getElem_cons_succ, List.setIfInBounds_toArray, List.set_cons_zero, List.set_cons_succ]) | (refine wpZ_noS _ (by rfl) (by rfl) (by rfl) (by exact HHO.out _ _ hT) ?_; try simp only [Act.put, List.getElem_toArray, List.getElem_cons_zero, List.getElem_cons_succ, List.setIfInBounds_toArray, List.set_cons_zero, List.set_cons_succ])))
        (simp only [wpZ])
        have c3 := HGC.out _ _ hT
        go_wp2_with (first
          | (go_at_call 15; refine (PL _ _ hT).mono ?_; rintro e w8 ⟨rfl, rfl⟩))
        go_roundw
        case rel => exact ⟨k + 1, g, S3, by omega, by go_num, by go_num, HS2.out.1, HS2.out.2.1, HS2.out.2.2, hg, hT⟩
        case measure => simp [intOf]; omega
    · obtain rfl : k = n := by omega
      have hg0 : 0 ≤ (g : Int) := by omega
      have HF := Lib.hid F
      have HI := Lib.hid I
      clear F I
      go_wp2
      go_loopw [16, 17, 18] (fun lv bv kv wr => PopRel b q d lo hi cp ms k g C L lv bv kv wr) (fun _ _ kv _ => g - (intOf kv).toNat)
      case atStart => exact ⟨0, S, -1, 0, by omega, rfl, rfl, rfl, HF.out, HI.out, hSn, .inl rfl, hr⟩
      case round =>
        clear hr HF HI hSn
        obtain ⟨p, S1, lv, bv, hp, rfl, rfl, rfl, F, I, hSn, hbel, hr⟩ := hrel
        by_cases hpg : p < g
        · have hpi : (p : Int) < g := by omega
          have hp0 : 0 ≤ (p : Int) := by omega
          have PP := pop1 b F I (by omega) (by omega) wr _ hr
          clear F I
          go_upto_region 30 with (go_at_call 16; refine PP.mono ?_; rintro e w3 ⟨o, kq, S2, rfl, F2, I2, n2, eb, ho, ⟨mo, hmo, hle⟩, hb2, hB, h3⟩)
          have hmo64 : I64 mo := HMS.out mo (List.mem_of_getElem? hmo)
          have hord : p = 0 ∨ (1 ≤ (p : Int) ∧ (kq : Int) + S1.base < bv) ∨ (1 ≤ (p : Int) ∧ (kq : Int) + S1.base = bv ∧ (o : Int) < lv) := by
            rcases hbel with h0 | ⟨kq', e1, hb1⟩
            · exact .inl h0
            · obtain ⟨a1, a2⟩ := hB kq' lv hb1
              by_cases h0 : p = 0
              · exact .inl h0
              · by_cases hq : kq = kq'
                · exact .inr (.inr ⟨by omega, by rw [hq]; omega, a2 hq⟩)
                · exact .inr (.inl ⟨by omega, by omega⟩)
          have e2 : S2.n + (p + 1) = g := by omega
          have e3 : (kq : Int) + S1.base = (kq : Int) + S2.base := by rw [eb]
          generalize (kq : Int) + S1.base = at9 at *
          have PI := fun w => rIndex_at mo d at9 hmo64 HD.out.1 HD.out.2 hle w
          have HS2 := Lib.hid (And.intro F2 (And.intro I2 (And.intro e2 (And.intro e3 hb2))))
          have ho0 : 0 ≤ (o : Int) := by omega
          have hon : (o : Int) < k := by omega
          obtain ⟨rb, ro, rfl, G0⟩ := rowG hR (by omega) (h3.mv 2)
          have HO : ∀ W A, Hold W (A :: seA q d lo hi cp :: C :: L) → W.cell? ⟨rb, ro + o, none⟩ = some (.int .i64 mo) ∧ W.cell? ⟨q, 0, none⟩ = some (.int .i64 d) := fun W A hW =>
            ⟨by rw [G0 W _ (hW.mv 2) o ho]; simp [is, hmo], (seM (hW.mv 1)).1⟩
          have HHO := Lib.hid HO
          have hT := h3.drew
          clear PP hr F2 I2 n2 eb ho hmo hle hb2 hB hbel hmo64 e2 e3 HO G0 hSn
          rcases hord with rfl | ⟨hp1, hlt9⟩ | ⟨hp1, rfl, hlt9⟩
          · refine wp_region_Z (fun W => W.cell? ⟨rb, ro + o, none⟩ = some (.int .i64 mo) ∧ W.cell? ⟨q, 0, none⟩ = some (.int .i64 d)) [3, 5] [6] [0, 1, 2, 4, 7, 8, 9, 10, 11] [0, 1, 2, 3, 4, 5, 6, 7, 8, 9, 10, 11] (by kernel_rfl) (by kernel_rfl) ?_
            (repeat (first | (refine wpZ_st (v := ?_) _ (by rfl) (by rfl) (by rfl) (fun W hW => ?_) (by exact HHO.out _ _ hT) ?_; (rotate_left; (focus ((try dsimp only at hW); go_simp; (try with_reducible rfl); done))); try simp only [Act.put, List.getElem_toArray, List.getElem_cons_zero, List.getElem_cons_succ, List.setIfInBounds_toArray, List.set_cons_zero, List.set_cons_succ]) | (refine wpZ_pu (v := ?_) _ (by rfl) (by rfl) (by rfl) (by rfl) (fun W => ?_) ?_; (rotate_left; (focus ((try dsimp only at hW); go_simp; (try with_reducible rfl); done))); try simp only [Act.put, List.getElem_toArray, List.getElem_cons_zero, List.getElem_cons_succ, List.setIfInBounds_toArray, List.set_cons_zero, List.set_cons_succ]) | (refine wpZ_no _ (by rfl) (by rfl) (by rfl) (by rfl) ?_; try simp only [Act.put, List.getElem_toArray, List.getElem_cons_zero, List.getElem_cons_succ, List.setIfInBounds_toArray, List.set_cons_zero, List.set_cons_succ]) | (refine wpZ_noS _ (by rfl) (by rfl) (by rfl) (by exact HHO.out _ _ hT) ?_; try simp only [Act.put, List.getElem_toArray, List.getElem_cons_zero, List.getElem_cons_succ, List.setIfInBounds_toArray, List.set_cons_zero, List.set_cons_succ])))
            refine wpZ_eff _ (by rfl) (by rfl) (by rfl) (by rfl) (fun K hK => ?_)
            go_simp
            refine (PI _).mono ?_
            rintro e w7 ⟨rfl, rfl⟩
            dsimp only
            (refine hK _ _ (fun hl => ?_) ?_; (first | (focus (cases hl; done)) | exact HHO.out _ _ hT); clear hK K; try simp only [Act.put, List.getElem_toArray, List.getElem_cons_zero, List.getElem_cons_succ, List.setIfInBounds_toArray, List.set_cons_zero, List.set_cons_succ])
            (repeat (first | (refine wpZ_st (v := ?_) _ (by rfl) (by rfl) (by rfl) (fun W hW => ?_) (by exact HHO.out _ _ hT) ?_; (rotate_left; (focus ((try dsimp only at hW); go_simp; (try with_reducible rfl); done))); try simp only [Act.put, List.getElem_toArray, List.getElem_cons_zero, List.getElem_cons_succ, List.setIfInBounds_toArray, List.set_cons_zero, List.set_cons_succ]) | (refine wpZ_pu (v := ?_) _ (by rfl) (by rfl) (by rfl) (by rfl) (fun W => ?_) ?_; (rotate_left; (focus ((try dsimp only at hW); go_simp; (try with_reducible rfl); done))); try simp only [Act.put, List.getElem_toArray, List.getElem_cons_zero, List.getElem_cons_succ, List.setIfInBounds_toArray, List.set_cons_zero, List.set_cons_succ]) | (refine wpZ_no _ (by rfl) (by rfl) (by rfl) (by rfl) ?_; try simp only [Act.put, List.getElem_toArray, List.getElem_cons_zero, List.getElem_cons_succ, List.setIfInBounds_toArray, List.set_cons_zero, List.set_cons_succ]) | (refine wpZ_noS _ (by rfl) (by rfl) (by rfl) (by exact HHO.out _ _ hT) ?_; try simp only [Act.put, List.getElem_toArray, List.getElem_cons_zero, List.getElem_cons_succ, List.setIfInBounds_toArray, List.set_cons_zero, List.set_cons_succ])))
            (simp only [wpZ])
            go_wp2
            go_roundw
            case rel => exact ⟨0 + 1, S2, o, at9, by omega, by go_num, rfl, rfl, HS2.out.1, HS2.out.2.1, HS2.out.2.2.1, .inr ⟨kq, HS2.out.2.2.2.1, HS2.out.2.2.2.2⟩, hT⟩
            case measure => simp [intOf]; omega
          · refine wp_region_Z (fun W => W.cell? ⟨rb, ro + o, none⟩ = some (.int .i64 mo) ∧ W.cell? ⟨q, 0, none⟩ = some (.int .i64 d)) [3, 5] [6] [0, 1, 2, 4, 7, 8, 9, 10, 11] [0, 1, 2, 3, 4, 5, 6, 7, 8, 9, 10, 11] (by kernel_rfl) (by kernel_rfl) ?_
            (repeat (first | (refine wpZ_st (v := ?_) _ (by rfl) (by rfl) (by rfl) (fun W hW => ?_) (by exact HHO.out _ _ hT) ?_; (rotate_left; (focus ((try dsimp only at hW); go_simp; (try with_reducible rfl); done))); try simp only [Act.put, List.getElem_toArray, List.getElem_cons_zero, List.getElem_cons_succ, List.setIfInBounds_toArray, List.set_cons_zero, List.set_cons_succ]) | (refine wpZ_pu (v := ?_) _ (by rfl) (by rfl) (by rfl) (by rfl) (fun W => ?_) ?_; (rotate_left; (focus ((try dsimp only at hW); go_simp; (try with_reducible rfl); done))); try simp only [Act.put, List.getElem_toArray, List.getElem_cons_zero, List.getElem_cons_succ, List.setIfInBounds_toArray, List.set_cons_zero, List.set_cons_succ]) | (refine wpZ_no _ (by rfl) (by rfl) (by rfl) (by rfl) ?_; try simp only [Act.put, List.getElem_toArray, List.getElem_cons_zero, List.getElem_cons_succ, List.setIfInBounds_toArray, List.set_cons_zero, List.set_cons_succ]) | (refine wpZ_noS _ (by rfl) (by rfl) (by rfl) (by exact HHO.out _ _ hT) ?_; try simp only [Act.put, List.getElem_toArray, List.getElem_cons_zero, List.getElem_cons_succ, List.setIfInBounds_toArray, List.set_cons_zero, List.set_cons_succ])))
            refine wpZ_eff _ (by rfl) (by rfl) (by rfl) (by rfl) (fun K hK => ?_)
            go_simp
            refine (PI _).mono ?_
            rintro e w7 ⟨rfl, rfl⟩
            dsimp only
            (refine hK _ _ (fun hl => ?_) ?_; (first | (focus (cases hl; done)) | exact HHO.out _ _ hT); clear hK K; try simp only [Act.put, List.getElem_toArray, List.getElem_cons_zero, List.getElem_cons_succ, List.setIfInBounds_toArray, List.set_cons_zero, List.set_cons_succ])
            (repeat (first | (refine wpZ_st (v := ?_) _ (by rfl) (by rfl) (by rfl) (fun W hW => ?_) (by exact HHO.out _ _ hT) ?_; (rotate_left; (focus ((try dsimp only at hW); go_simp; (try with_reducible rfl); done))); try simp only [Act.put, List.getElem_toArray, List.getElem_cons_zero, List.getElem_cons_succ, List.setIfInBounds_toArray, List.set_cons_zero, List.set_cons_succ]) | (refine wpZ_pu (v := ?_) _ (by rfl) (by rfl) (by rfl) (by rfl) (fun W => ?_) ?_; (rotate_left; (focus ((try dsimp only at hW); go_simp; (try with_reducible rfl); done))); try simp only [Act.put, List.getElem_toArray, List.getElem_cons_zero, List.getElem_cons_succ, List.setIfInBounds_toArray, List.set_cons_zero, List.set_cons_succ]) | (refine wpZ_no _ (by rfl) (by rfl) (by rfl) (by rfl) ?_; try simp only [Act.put, List.getElem_toArray, List.getElem_cons_zero, List.getElem_cons_succ, List.setIfInBounds_toArray, List.set_cons_zero, List.set_cons_succ]) | (refine wpZ_noS _ (by rfl) (by rfl) (by rfl) (by exact HHO.out _ _ hT) ?_; try simp only [Act.put, List.getElem_toArray, List.getElem_cons_zero, List.getElem_cons_succ, List.setIfInBounds_toArray, List.set_cons_zero, List.set_cons_succ])))
            (simp only [wpZ])
            go_wp2
            go_roundw
            case rel => exact ⟨p + 1, S2, o, at9, by omega, by go_num, rfl, rfl, HS2.out.1, HS2.out.2.1, HS2.out.2.2.1, .inr ⟨kq, HS2.out.2.2.2.1, HS2.out.2.2.2.2⟩, hT⟩
            case measure => simp [intOf]; omega
          · refine wp_region_Z (fun W => W.cell? ⟨rb, ro + o, none⟩ = some (.int .i64 mo) ∧ W.cell? ⟨q, 0, none⟩ = some (.int .i64 d)) [3, 5] [6] [0, 1, 2, 4, 7, 8, 9, 10, 11] [0, 1, 2, 3, 4, 5, 6, 7, 8, 9, 10, 11] (by kernel_rfl) (by kernel_rfl) ?_
            (repeat (first | (refine wpZ_st (v := ?_) _ (by rfl) (by rfl) (by rfl) (fun W hW => ?_) (by exact HHO.out _ _ hT) ?_; (rotate_left; (focus ((try dsimp only at hW); go_simp; (try with_reducible rfl); done))); try simp only [Act.put, List.getElem_toArray, List.getElem_cons_zero, List.getElem_cons_succ, List.setIfInBounds_toArray, List.set_cons_zero, List.set_cons_succ]) | (refine wpZ_pu (v := ?_) _ (by rfl) (by rfl) (by rfl) (by rfl) (fun W => ?_) ?_; (rotate_left; (focus ((try dsimp only at hW); go_simp; (try with_reducible rfl); done))); try simp only [Act.put, List.getElem_toArray, List.getElem_cons_zero, List.getElem_cons_succ, List.setIfInBounds_toArray, List.set_cons_zero, List.set_cons_succ]) | (refine wpZ_no _ (by rfl) (by rfl) (by rfl) (by rfl) ?_; try simp only [Act.put, List.getElem_toArray, List.getElem_cons_zero, List.getElem_cons_succ, List.setIfInBounds_toArray, List.set_cons_zero, List.set_cons_succ]) | (refine wpZ_noS _ (by rfl) (by rfl) (by rfl) (by exact HHO.out _ _ hT) ?_; try simp only [Act.put, List.getElem_toArray, List.getElem_cons_zero, List.getElem_cons_succ, List.setIfInBounds_toArray, List.set_cons_zero, List.set_cons_succ])))
            refine wpZ_eff _ (by rfl) (by rfl) (by rfl) (by rfl) (fun K hK => ?_)
            go_simp
            refine (PI _).mono ?_
            rintro e w7 ⟨rfl, rfl⟩
            dsimp only
            (refine hK _ _ (fun hl => ?_) ?_; (first | (focus (cases hl; done)) | exact HHO.out _ _ hT); clear hK K; try simp only [Act.put, List.getElem_toArray, List.getElem_cons_zero, List.getElem_cons_succ, List.setIfInBounds_toArray, List.set_cons_zero, List.set_cons_succ])
            (repeat (first | (refine wpZ_st (v := ?_) _ (by rfl) (by rfl) (by rfl) (fun W hW => ?_) (by exact HHO.out _ _ hT) ?_; (rotate_left; (focus ((try dsimp only at hW); go_simp; (try with_reducible rfl); done))); try simp only [Act.put, List.getElem_toArray, List.getElem_cons_zero, List.getElem_cons_succ, List.setIfInBounds_toArray, List.set_cons_zero, List.set_cons_succ]) | (refine wpZ_pu (v := ?_) _ (by rfl) (by rfl) (by rfl) (by rfl) (fun W => ?_) ?_; (rotate_left; (focus ((try dsimp only at hW); go_simp; (try with_reducible rfl); done))); try simp only [Act.put, List.getElem_toArray, List.getElem_cons_zero, List.getElem_cons_succ, List.setIfInBounds_toArray, List.set_cons_zero, List.set_cons_succ]) | (refine wpZ_no _ (by rfl) (by rfl) (by rfl) (by rfl) ?_; try simp only [Act.put, List.getElem_toArray, List.getElem_cons_zero, List.getElem_cons_succ, List.setIfInBounds_toArray, List.set_cons_zero, List.set_cons_succ]) | (refine wpZ_noS _ (by rfl) (by rfl) (by rfl) (by exact HHO.out _ _ hT) ?_; try simp only [Act.put, List.getElem_toArray, List.getElem_cons_zero, List.getElem_cons_succ, List.setIfInBounds_toArray, List.set_cons_zero, List.set_cons_succ])))
            (simp only [wpZ])
            go_wp2
            go_roundw
            case rel => exact ⟨p + 1, S2, o, at9, by omega, by go_num, rfl, rfl, HS2.out.1, HS2.out.2.1, HS2.out.2.2.1, .inr ⟨kq, HS2.out.2.2.2.1, HS2.out.2.2.2.2⟩, hT⟩
            case measure => simp [intOf]; omega
        · obtain rfl : p = g := by omega
          have hn0 : S1.n = 0 := by omega
          have hc1 : 1 ≤ S1.cp := by rw [F.ec]; exact HC.out.1
          have PP := pop0 b S1 hc1 hn0 wr _ hr
          have PL := fun w L h => len_ok b S1 hc1 w L h
          rw [show ((S1.n : Nat) : Int) = 0 by omega] at PL
          have hp0 : 0 ≤ (p : Int) := by omega
          clear F I hn0 hc1 hSn hbel hp hpg
          go_upto_region 35 with (first
            | (go_at_call 16; with_reducible refine PP.mono ?_; rintro e w3 ⟨rfl, rfl⟩))
          go_wp2_with (first
            | (go_at_call 15; with_reducible refine (PL _ _ hr).mono ?_; rintro e w3 ⟨rfl, rfl⟩)
            | (go_at_call 11; refine (live_ok _ _ hr).mono ?_; rintro e w4 ⟨rfl, h4⟩))
          go_ret
          exact ⟨rfl, h4.drop.drop⟩

end Go.Proofs.Ytpffofliemooiaa
