/- Contracts: Drop. -/
import Derived.Test.YtahhbbcgfhmmgaaArJ
open Go.RowKit Go.Own
namespace Go.Proofs.Ytahhbbcgfhmmgaa

def DropRel (b : Nat) (T : Nat) (R : AR × Nat) (born : Nat → Nat) (L : List Asn) (iv nv : Value) (wr : World) : Prop :=
  ∃ (A : AR) (n : Nat) (id : Int), iv = .int .i64 id ∧ nv = .int .i64 n ∧ AI A born ∧ (id = -1 ∨ ∃ (i : Nat) (p : PL), id = i ∧ A.all[i]? = some p ∧ p.taken = true) ∧ A.taken + n = T ∧ R = ((goA A.taken A id).1, (goA A.taken A id).2 + n) ∧ Hold wr (arA b A :: L)

set_option maxHeartbeats 4000000 in
set_option maxRecDepth 20000 in
theorem drop_ok (b : Nat) (A : AR) (born : Nat → Nat) (hI : AI A born) (id : Int) (w : World) (L : List Asn) (h : Hold w (arA b A :: L)) :
    Calls Try.prog 12 #[.pointer (some ⟨b, 0, none⟩), .int .i64 id] w fun e w' => e = .returned (.tuple #[.int .i64 (dropA A id).1, .int .i64 (dropA A id).2.1]) ∧ Hold w' (arA b (dropA A id).2.2 :: L) := by
  obtain ⟨i3, hi3, hz0, hz1, hz2⟩ := info_parts info3
  have hc1 := hI.cap1
  have P2 := has_ok b A hc1 id w L h
  obtain ⟨ao, ac, fo, fc, h1⟩ := ar_open h
  have g0 : w.cell? ⟨b, 0, none⟩ = some (.int .i64 A.cap) := h1.cell 0
  have g1 : w.cell? ⟨b, 1, none⟩ = some (.slice ao A.all.length ac) := h1.cell 1
  have P1 := none_ok b A.cap (by omega) w g0
  rcases has_view A id with hv | ⟨i, p, rfl, hp, htk, hv, he⟩
  · have e : dropA A id = (0, 120, A) := by unfold dropA; rw [if_pos (.inl hv)]
    rw [e]
    rw [hv] at P2
    clear hI hc1 g0 g1 h1 e
    go_enter Try.func12, Try.ntmps12
    go_wp2_with (first
      | (go_at_call 24; refine P1.mono ?_; rintro e w2 ⟨rfl, rfl⟩)
      | (go_at_call 26; refine P2.mono ?_; rintro e w3 ⟨rfl, rfl⟩))
    go_ret2
    exact ⟨rfl, h⟩
  · rw [hv] at P2
    have hil : i < A.all.length := (List.getElem?_eq_some_iff.1 hp).1
    have hii : (i : Int) < (A.all.length : Int) := by omega
    obtain ⟨rb, rp, rfl, G⟩ := pl_at cells8 hp rfl (h1.mv 1)
    obtain ⟨g6', f6⟩ := G _ _ (h1.mv 1) 6 (by omega)
    have g6 : w.cell? ⟨rb, rp + i * 8 + 6, none⟩ = some (.bool p.held) := g6'
    clear g6' G
    by_cases hh : p.held = false
    · have e : dropA A (i : Int) = (0, 120, A) := by unfold dropA; rw [if_pos (.inr (by rw [he]; exact hh))]
      rw [e]
      rw [hh] at g6
      have H := Lib.hid h
      clear hI hc1 g0 h1 e hp htk hv he hh h
      generalize A.all.length = n at *
      go_enter Try.func12, Try.ntmps12
      go_wp2_with (first
        | (go_at_call 24; refine P1.mono ?_; rintro e w2 ⟨rfl, rfl⟩)
        | (go_at_call 26; refine P2.mono ?_; rintro e w3 ⟨rfl, rfl⟩))
      go_ret2
      exact ⟨rfl, H.out⟩
    · have hht : p.held = true := by simpa using hh
      have e : dropA A (i : Int) = ((goA A.taken (unA A i) i).2, 0, (goA A.taken (unA A i) i).1) := by unfold dropA; rw [if_neg (by rw [hv, he, hht]; simp)]
      have HE := Lib.hid e
      have hIu := hI.flag hp htk
      have hpu : (unA A i).all[i]? = some { p with held := false } := by
        show (A.all.set i { plA A i with held := false })[i]? = _
        rw [plA_in hp, List.getElem?_set_self hil]
      have e3 := kid_cells cells8 hp 6 (by omega) { p with held := false } (.bool false) rfl
      have h6 := (h1.mv 1).put (i * 8 + 6) (by omega) (.bool false)
      rw [← Nat.add_assoc] at h6
      rw [← e3] at h6
      (try dsimp only [Go.Own.front, Go.Own.arrA, Go.Own.atA, Go.Own.dropA, List.length_cons, List.length_nil, Nat.zero_add, Nat.reduceAdd] at h6)
      have h7 := h6.arr [1, 0, 2]
      (try dsimp only [Go.Own.front, Go.Own.arrA, Go.Own.atA, Go.Own.dropA, List.length_cons, List.length_nil, Nat.zero_add, Nat.reduceAdd] at h7)
      have h8 : Hold (w.setCell ⟨rb, rp + i * 8 + 6, none⟩ (.bool false)) (arA b (unA A i) :: L) := by
        refine ar_close (A := unA A i) (ao := some ⟨rb, rp, none⟩) (ac := ac) (fo := fo) (fc := fc) ?_
        unfold unA
        rw [plA_in hp]
        simp only [List.length_set, Int.toNat_natCast]
        exact h7.as (by simp only [AR.cells, List.length_set])
      rw [hht] at g6
      have HU := Lib.hid (And.intro hIu hpu)
      have HT9 : Hid (A.taken ≤ 65536) := Lib.hid (by have := hI.count; have := hI.len; have := hI.cap2; omega)
      have HT : Hid (p.taken = true ∧ (unA A i).taken = A.taken) := Lib.hid ⟨htk, rfl⟩
      clear hI hc1 g0 h1 e hp htk hv he hh h h6 h7 e3 hIu hpu
      generalize hA2 : unA A i = A2 at *
      generalize hRR : goA A.taken A2 (i : Int) = R at *
      have hRR2 := Lib.hid hRR
      clear hRR hA2
      generalize A.all.length = n0 at *
      go_enter Try.func12, Try.ntmps12
      go_upto_region 6 with (first
        | (go_at_call 24; refine P1.mono ?_; rintro e w2 ⟨rfl, rfl⟩)
        | (go_at_call 26; refine P2.mono ?_; rintro e w3 ⟨rfl, rfl⟩))
      refine gen_world h8 (fun w1 h8 => ?_)
      clear P1 P2 g1 g6 f6 hii hil hht
      go_wp2
      go_loopw [1, 6] (fun iv nv wr => DropRel b A.taken R born L iv nv wr) (fun _ nv _ => A.taken - (intOf nv).toNat)
      case atStart => exact ⟨A2, 0, i, rfl, rfl, HU.out.1, .inr ⟨i, _, rfl, HU.out.2, HT.out.1⟩, by rw [HT.out.2]; rfl, by rw [HT.out.2, hRR2.out]; rfl, h8⟩
      case round =>
        clear h8 HU HT hRR2
        obtain ⟨A1, n, id1, rfl, rfl, hI, hid, hTn, hR, hr⟩ := hrel
        rcases hid with rfl | ⟨i1, p1, rfl, hp, ht⟩
        · have hno : ¬ loose A1 (-1) := fun h => absurd h.1 (by omega)
          rw [goA_no hno] at hR
          have HR := Lib.hid hR
          clear hR hno hI hTn
          go_wp2
          go_ret2
          rw [HE.out, HR.out]
          exact ⟨by simp, hr⟩
        · obtain ⟨ao, ac, fo, fc, h1⟩ := ar_open hr
          have hil : i1 < A1.all.length := (List.getElem?_eq_some_iff.1 hp).1
          have hii : (i1 : Int) < (A1.all.length : Int) := by omega
          have hi0 : 0 ≤ (i1 : Int) := by omega
          obtain ⟨rb, rp, rfl, G⟩ := pl_at cells8 hp rfl (h1.mv 1)
          obtain ⟨g6', -⟩ := G _ _ (h1.mv 1) 6 (by omega)
          obtain ⟨g5', -⟩ := G _ _ (h1.mv 1) 5 (by omega)
          obtain ⟨g3', -⟩ := G _ _ (h1.mv 1) 3 (by omega)
          have g6 : wr.cell? ⟨rb, rp + i1 * 8 + 6, none⟩ = some (.bool p1.held) := g6'
          have g5 : wr.cell? ⟨rb, rp + i1 * 8 + 5, none⟩ = some (.int .i64 p1.kids) := g5'
          have g3 : wr.cell? ⟨rb, rp + i1 * 8 + 3, none⟩ = some (.int .i64 p1.parent) := g3'
          have g1 : wr.cell? ⟨b, 1, none⟩ = some (.slice (some ⟨rb, rp, none⟩) A1.all.length ac) := h1.cell 1
          clear g6' g5' g3' G
          have epl : plA A1 (i1 : Int) = p1 := plA_in hp
          by_cases hh : p1.held = true
          · have hno : ¬ loose A1 i1 := fun h => by have := h.2.1; rw [epl, hh] at this; exact absurd this (by simp)
            rw [goA_no hno] at hR
            rw [hh] at g6
            have HR := Lib.hid hR
            have H := Lib.hid hr
            clear hR hno hI hTn hp ht epl h1 hr
            generalize A1.all.length = n1 at *
            as_aux_lemma =>
              go_wp2
              go_ret2
              rw [HE.out, HR.out]
              exact ⟨by simp, H.out⟩
          · have hh : p1.held = false := by simpa using hh
            rw [hh] at g6
            by_cases hk : p1.kids = 0
            · have hyes : loose A1 i1 := ⟨hi0, by rw [epl]; exact hh, by rw [epl]; exact hk⟩
              have ht1 := hI.lt hp ht
              have hfl := hI.count
              have hc2 := hI.cap2
              have hln := hI.len
              obtain ⟨T1, hT1⟩ : ∃ T1, A1.taken = T1 + 1 := ⟨A1.taken - 1, by omega⟩
              rw [hT1, goA_yes hyes, epl, Int.toNat_natCast] at hR
              rw [hk] at g5
              have g5 : wr.cell? ⟨rb, rp + i1 * 8 + 5, none⟩ = some (.int .i64 0) := g5
              have hT1i : (A1.taken : Int) = (T1 : Int) + 1 := by omega
              have W1 : IntKind.i64.wrap ((A1.taken : Int) - 1) = (T1 : Int) := by rw [hT1i, Int.add_sub_cancel]; exact IntWalk.i64_in _ (by omega)
              have W1' : IntKind.i64.wrap (T1 : Int) = (T1 : Int) := IntWalk.i64_in _ (by have := HT9.out; omega)
              have hn6 : n ≤ 65536 := by have := HT9.out; omega
              have W2 : IntKind.i64.wrap ((n : Int) + 1) = (n : Int) + 1 := IntWalk.i64_in _ (by omega)
              have hf6 : A1.free.length ≤ 65536 := by omega
              have HC := Lib.hid (hI.cut hp ht hk)
              have HUP := Lib.hid (hI.up i1 p1 hp ht)
              have HKS := Lib.hid (fun u => hI.kids u)
              have HKH := Lib.hid (kidsOf_has hp ht)
              have HN : Hid (A1.all.length ≤ 65536 ∧ T1 + (n + 1) = A.taken) := Lib.hid ⟨by omega, by omega⟩
              have HR := Lib.hid hR
              have HP := Lib.hid hp
              have e1 := flat_set PL.cells cells8 A1.all i1 PL.zero hil
              have HE1 := Lib.hid e1
              have HE4 := Lib.hid hT1
              have HZ := Lib.hid (pl_one PL.zero)
              clear hI hp ht hk hyes ht1 hfl hc2 hln hR epl hTn e1 hT1 hn6
              generalize hm : A1.all.length = n1 at *
              generalize hmf : A1.free.length = f1 at *
              go_upto_region 9 with (fail)
              have h2 := h1.mv 1
              (try dsimp only [Go.Own.front, Go.Own.arrA, Go.Own.atA, Go.Own.dropA, List.length_cons, List.length_nil, Nat.zero_add, Nat.reduceAdd] at h2)
              clear h1 hr
              go_upto_region 10 with ((with_reducible refine wpList_plain (o := ⟨none, .store 64 _ _, _, _, _, _⟩) rfl (fun K hK => ?_)); refine wp_storeRow_h 64 _ _ (by rfl) rb rp (i1 * 8) (by rfl) PL.zero.cells (by rfl) h2 (by rw [cells8]; omega) (by rw [i64s, cells8]) HZ.out (by rw [cells8]; omega) (fun w2 h3 => ?_); refine hK _ _ ?_; clear hK K)
              rw [cells8, ← HE1.out] at h3
              clear h2 g1 g3 g5 g6
              have h4 := h3.arr [2, 1, 0]
              (try dsimp only [Go.Own.front, Go.Own.arrA, Go.Own.atA, Go.Own.dropA, List.length_cons, List.length_nil, Nat.zero_add, Nat.reduceAdd] at h4)
              have k2 : w2.cell? ⟨b, 2, none⟩ = some (.slice fo f1 fc) := (h4.mv 1).cell 2
              go_upto_region 11 with ((with_reducible refine wpList_plain (o := ⟨some 78, _, _, _, _, _⟩) rfl (fun K hK => ?_)); refine wp_append_one_h (w := w2) _ _ 23 (by rfl) 3 i3 (.int .i64 0) 1 8 Try.underlying23 hi3 hz0 hz1 hz2 (by rfl) fo f1 fc _ (by rfl) h4 [.int .i64 i1] (by rfl) ⟨rfl, rfl, rfl, rfl⟩ (by rfl) (by simp [Value.oneCell']) (by unfold maxLen; omega) (by omega) (fun fo2 fc2 w3 h5 hc5 => ?_); refine hK _ _ ?_; clear hK K; have k2' : w3.cell? ⟨b, 2, none⟩ = some (.slice fo f1 fc) := (h5.mv 1).cell 2; have f2' := (h5.mv 1).frozen 2)
              have h6 := (h5.mv 1).st 2 (.slice fo2 (f1 + 1) fc2)
              (try dsimp only [Go.Own.front, Go.Own.arrA, Go.Own.atA, Go.Own.dropA, List.length_cons, List.length_nil, Nat.zero_add, Nat.reduceAdd] at h6)
              refine gen_world h6 (fun w4 h6 => ?_)
              clear k2 k2' f2' h5 h4 h3
              have k3 : w4.cell? ⟨b, 3, none⟩ = some (.int .i64 A1.taken) := h6.cell 3
              have f3 := h6.frozen 3
              have h7 := (h6.st 3 (.int .i64 T1)).arr [0, 2, 1]
              (try dsimp only [Go.Own.front, Go.Own.arrA, Go.Own.atA, Go.Own.dropA, List.length_cons, List.length_nil, Nat.zero_add, Nat.reduceAdd] at h7)
              go_upto_region 13 with (fail)
              refine gen_world h7 (fun w5 h7 => ?_)
              clear k3 f3 h6
              have e2 : nums A1.free ++ [.int .i64 (i1 : Int)] = nums (A1.free ++ [i1]) := by simp [nums]
              rw [e2] at h7
              obtain ⟨hI2, htk2, c1, c2, c3⟩ := HC.out
              have h7 : Hold w5 (cellsA b 56 [.int .i64 A1.cap, .slice (some ⟨rb, rp, none⟩) n1 ac, .slice fo2 (f1 + 1) fc2, .int .i64 T1] :: rowA 64 8 (some ⟨rb, rp, none⟩) n1 ac (flat PL.cells (A1.all.set i1 PL.zero)) :: rowA 3 1 fo2 (f1 + 1) fc2 (nums (A1.free ++ [i1])) :: L) := h7
              rcases HUP.out with hpar | ⟨u, q, hpar, hq, hqt, hbn⟩
              · have hle : p1.parent < 0 := by omega
                have el : lessA (cutA A1 i1) p1.parent = cutA A1 i1 := by unfold lessA; rw [if_pos hle]
                have HEL := Lib.hid el
                have HC2 := Lib.hid (And.intro hI2 htk2)
                have hge : ¬ 0 ≤ p1.parent := by omega
                have HPA := Lib.hid hpar
                clear el hle hI2 htk2 c1 c2 c3 HC hpar
                go_wp2
                go_roundw
                case rel =>
                  refine ⟨cutA A1 i1, n + 1, p1.parent, rfl, by go_num, by rw [← HEL.out]; exact HC2.out.1, .inl HPA.out, ?_, ?_, ?_⟩
                  · have h1 := HC2.out.2; rw [HEL.out] at h1; rw [h1, HE4.out]; exact HN.out.2
                  · have h1 := HC2.out.2; rw [HEL.out] at h1
                    rw [HR.out, HEL.out, h1, HE4.out, Nat.add_sub_cancel]
                    simp only [Prod.mk.injEq, true_and]; omega
                  · refine ar_close (A := cutA A1 i1) (ao := some ⟨rb, rp, none⟩) (ac := ac) (fo := fo2) (fc := fc2) ?_
                    unfold cutA
                    simp only [List.length_set, List.length_append, List.length_cons, List.length_nil, hm, hmf]
                    exact h7.as (by simp only [AR.cells, List.length_set, List.length_append, List.length_cons, List.length_nil, hm, hmf, HE4.out, Nat.add_sub_cancel])
                case measure => simp [intOf]; have := HN.out.2; omega
              · have hge : 0 ≤ p1.parent := by omega
                have hqa : (A1.all.set i1 PL.zero)[u]? = some q := by
                  rw [List.getElem?_set_ne (by rintro rfl; omega)]; exact hq
                have hkq := HKS.out u q hq hqt
                have hkh := HKH.out
                rw [hpar, ← hkq] at hkh
                have hkl := kids_le A1.all u
                rw [← hkq] at hkl
                have hn6' := HN.out.1
                have hul : u < n1 := by rw [← hm]; exact (List.getElem?_eq_some_iff.1 hq).1
                have hui : (u : Int) < (n1 : Int) := by omega
                have hu0 : 0 ≤ (u : Int) := by omega
                have W3 : IntKind.i64.wrap ((q.kids : Int) - 1) = (q.kids : Int) - 1 := IntWalk.i64_in _ (by omega)
                have hlz : (A1.all.set i1 PL.zero).length = n1 := by rw [List.length_set]; exact hm
                obtain ⟨rb', rp', he', G⟩ := pl_at cells8 hqa hlz (h7.mv 1)
                simp only [Option.some.injEq, Addr.mk.injEq, and_true] at he'
                obtain ⟨rfl, rfl⟩ := he'
                obtain ⟨g5', f5⟩ := G _ _ (h7.mv 1) 5 (by omega)
                have g5 : w5.cell? ⟨rb, rp + u * 8 + 5, none⟩ = some (.int .i64 q.kids) := g5'
                have g1 : w5.cell? ⟨b, 1, none⟩ = some (.slice (some ⟨rb, rp, none⟩) n1 ac) := h7.cell 1
                have h8 := (h7.mv 1).put (u * 8 + 5) (by omega) (.int .i64 ((q.kids : Int) - 1))
                rw [← Nat.add_assoc] at h8
                have e5 := kid_cells (A := cutA A1 i1) cells8 hqa 5 (by omega) { q with kids := q.kids - 1 } (.int .i64 ((q.kids : Int) - 1)) (by simp only [PL.cells, List.set_cons_succ, List.set_cons_zero]; rw [show ((q.kids - 1 : Nat) : Int) = (q.kids : Int) - 1 by omega])
                rw [← (show (cutA A1 i1).all = A1.all.set i1 PL.zero from rfl), ← e5] at h8
                have h9 := h8.arr [1, 0, 2]
                (try dsimp only [Go.Own.front, Go.Own.arrA, Go.Own.atA, Go.Own.dropA, List.length_cons, List.length_nil, Nat.zero_add, Nat.reduceAdd] at h9)
                have el : lessA (cutA A1 i1) p1.parent = { cutA A1 i1 with all := (A1.all.set i1 PL.zero).set u { q with kids := q.kids - 1 } } := by
                  have epl : plA (cutA A1 i1) (u : Int) = q := plA_in hqa
                  unfold lessA; rw [if_neg (by omega), hpar, epl]; rfl
                have HEL := Lib.hid el
                have HC2 := Lib.hid (And.intro hI2 htk2)
                have HC3 := Lib.hid (c3 u hpar.symm)
                have HPA := Lib.hid hpar
                clear el hI2 htk2 c1 c2 c3 HC g5' G hqa hkq hkh hkl hn6' h8 h7 e5 hq hqt hlz
                go_wp2
                go_roundw
                case rel =>
                  obtain ⟨q0, x1, x2, x3⟩ := HC3.out
                  refine ⟨lessA (cutA A1 i1) p1.parent, n + 1, p1.parent, rfl, by go_num, HC2.out.1, .inr ⟨u, _, HPA.out, x3, x2⟩, ?_, ?_, ?_⟩
                  · rw [HC2.out.2, HE4.out]; exact HN.out.2
                  · rw [HR.out, HC2.out.2, HE4.out, Nat.add_sub_cancel]
                    simp only [Prod.mk.injEq, true_and]; omega
                  · rw [HEL.out]
                    refine ar_close (ao := some ⟨rb, rp, none⟩) (ac := ac) (fo := fo2) (fc := fc2) ?_
                    unfold cutA
                    simp only [List.length_set, List.length_append, List.length_cons, List.length_nil, hm, hmf]
                    exact h9.as (by simp only [AR.cells, List.length_set, List.length_append, List.length_cons, List.length_nil, hm, hmf, HE4.out, Nat.add_sub_cancel])
                case measure => simp [intOf]; have := HN.out.2; omega
            · have hkf : ((p1.kids : Int) == 0) = false := by rw [beq_eq_false_iff_ne]; omega
              have hno : ¬ loose A1 i1 := fun h => hk (by have := h.2.2; rwa [epl] at this)
              rw [goA_no hno] at hR
              have HR := Lib.hid hR
              have H := Lib.hid hr
              clear hR hno hI hTn hp ht epl h1 hr
              generalize A1.all.length = n1 at *
              as_aux_lemma =>
                go_wp2
                go_ret2
                rw [HE.out, HR.out]
                exact ⟨by simp, H.out⟩

end Go.Proofs.Ytahhbbcgfhmmgaa
