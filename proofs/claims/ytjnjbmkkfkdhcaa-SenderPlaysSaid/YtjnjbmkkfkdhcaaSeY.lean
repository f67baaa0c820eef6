/- Contracts: the reference's Held. -/
import Derived.Test.YtjnjbmkkfkdhcaaSeX
open Go.RowKit Go.Own
namespace Go.Proofs.Ytjnjbmkkfkdhcaa

def RHeldRel (b : Nat) (S : SS) (F : Nat) (G : List (List UInt8)) (lc : Nat) (lo : Option Addr) (vs0 : List (Option Addr × Nat)) (L : List Asn) (i out : Value) (wr : World) : Prop :=
  ∃ (k : Nat) (ho : Option Addr) (hc : Nat) (vs : List (Option Addr × Nat)), k ≤ S.L.length ∧ i = .int .u64 ((S.base : Int) + k) ∧ out = .slice ho k hc ∧ vs.length = k ∧
    Hold wr (rowA 32 1 ho k hc (sl (S.L.take k) vs) :: starL (rws (S.L.take k) vs) :: cellsA b 65 (rcells S F (.slice lo G.length lc)) :: rowA 32 1 lo G.length lc (sl G vs0) :: starL (rws G vs0) :: L)

set_option maxHeartbeats 2000000 in
set_option maxRecDepth 20000 in
theorem rheld_ok (b : Nat) (S : SS) (F : Nat) (G : List (List UInt8)) (hK : KI F S G) (w : World) (L : List Asn) (h : Hold w (rfA b S F G :: L)) :
    Calls Try.prog 34 #[.pointer (some ⟨b, 0, none⟩)] w fun e w' => ∃ ao cap, e = .returned (.slice ao S.L.length cap) ∧ Hold w' (rowsA ao cap S.L :: rfA b S F G :: L) := by
  obtain ⟨i5, hi, hz0, hz1, hz2⟩ := info_parts info5
  obtain ⟨i32, hi', hy0, hy1, hy2⟩ := info_parts info32
  obtain ⟨lo, lc, h0⟩ := rf_open h
  obtain ⟨vs0, hvl0, h1⟩ := rows_open (h0.mv 1)
  have h1 := h1.arr [2, 0, 1]
  (try dsimp only [Go.Own.front, Go.Own.arrA, Go.Own.atA, Go.Own.dropA, List.length_cons, List.length_nil, Nat.zero_add, Nat.reduceAdd] at h1)
  obtain ⟨-, -, -, -, -, g5, -, -, -⟩ := rfM h1
  have HK := Lib.hid hK
  have HV0 := Lib.hid hvl0
  have HM := Lib.hid (And.intro hK.si.fin (And.intro hK.si.max (And.intro hK.si.ll hK.si.s256)))
  clear hK hvl0 h h0
  have h2 := (h1.nilL).nilRow 32 1
  go_enter Try.func34, Try.ntmps34
  go_wp2
  go_loopw [4, 3] (fun i out wr => RHeldRel b S F G lc lo vs0 L i out wr) (fun i _ _ => S.fin - (intOf i).toNat)
  case atStart => exact ⟨0, none, 0, [], by omega, by simp, rfl, rfl, by simpa [sl, rws] using h2⟩
  case round =>
    clear h1 h2 g5
    obtain ⟨k, ho, hc, vs, hk, rfl, rfl, hvl, hr⟩ := hrel
    have PR := fun w L h => rend_cells b S F G HK.out lo lc w L h
    have hr3 := hr.arr [2, 3, 4, 0, 1]
    (try dsimp only [Go.Own.front, Go.Own.arrA, Go.Own.atA, Go.Own.dropA, List.length_cons, List.length_nil, Nat.zero_add, Nat.reduceAdd] at hr3)
    obtain ⟨m1, m2, m3, m4⟩ := HM.out
    by_cases hlt : k < S.L.length
    · have hd1 : decide (S.base + k < S.fin) = true := by simp; omega
      have hd2 : decide ((S.base : Int) + k < S.fin) = true := by simp; omega
      have K := HK.out
      have hle := K.le
      have hfb := K.fb
      obtain ⟨x, hx⟩ : ∃ x, S.L[k]? = some x := ⟨S.L[k], List.getElem?_eq_getElem hlt⟩
      obtain ⟨d, hd⟩ : ∃ d, S.base - F + k = d := ⟨_, rfl⟩
      have hGx : G[d]? = some x := by rw [← hd]; exact K.at hx
      have hdG : d < G.length := by
        rcases Nat.lt_or_ge d G.length with h | h
        · exact h
        · rw [List.getElem?_eq_none h] at hGx; cases hGx
      obtain ⟨gb, gp, rfl, xs, u, hxs, -, hrw, FG⟩ := row_at HV0.out rfl hdG (hr3.mv 1)
      obtain rfl : x = xs := by rw [hGx] at hxs; simpa using hxs
      have hx64 : x.length ≤ 64 := K.si.short x (List.mem_of_getElem? hx)
      have W3 : IntKind.u64.wrap ((S.base : Int) + k - F) = d := by rw [show (S.base : Int) + k - F = d by omega]; exact IntWalk.u64_in _ (by omega)
      have W4 : IntKind.u64.wrap ((S.base : Int) + k + 1) = (S.base : Int) + k + 1 := IntWalk.u64_in _ (by omega)
      have hdi : (d : Int) < G.length := by omega
      have hd0 : 0 ≤ (d : Int) := by omega
      have hk9 : k ≤ 256 := by omega
      have HK9 := Lib.hid (And.intro hk9 (And.intro hlt hx64))
      have HT := Lib.hid (take_snoc hx)
      have HU := Lib.hid (ub_one x)
      have HRW := Lib.hid hrw
      have HVL := Lib.hid hvl
      have FS : ∀ W R, Hold W (cellsA b 65 (rcells S F (.slice (some ⟨gb, gp, none⟩) G.length lc)) :: rowA 32 1 (some ⟨gb, gp, none⟩) G.length lc (sl G vs0) :: R) → W.cell? ⟨b, 4, none⟩ = some (.slice (some ⟨gb, gp, none⟩) G.length lc) ∧ W.cell? ⟨b, 3, none⟩ = some (.int .u64 F) ∧ W.cell? ⟨gb, gp + d, none⟩ = some (.slice u.1 x.length u.2) := fun W R hW =>
        ⟨hW.cell 4, hW.cell 3, (FG _ _ (hW.mv 1)).1⟩
      have HFS := Lib.hid FS
      clear K hle hfb hx hd hGx hdG hxs hrw FG FS hx64 hk9 m1 m2 m3 m4 hr hlt hvl
      go_upto_region 5 with (go_at_call 33; refine (PR _ _ hr3).mono ?_; rintro e w1 ⟨rfl, rfl⟩)
      refine gen_world hr3.drew (fun w1 h3 => ?_)
      clear hr3 PR hd1 hd2
      have h4 := h3.drew
      refine wp_region_Z (fun W => W.cell? ⟨b, 4, none⟩ = some (.slice (some ⟨gb, gp, none⟩) G.length lc) ∧ W.cell? ⟨b, 3, none⟩ = some (.int .u64 F) ∧ W.cell? ⟨gb, gp + d, none⟩ = some (.slice u.1 x.length u.2)) [5, 10, 13] [] [0, 2, 3, 4, 6, 7, 8, 9, 11, 12, 17] [0, 2, 3, 4, 5, 6, 7, 8, 9, 10, 11, 12, 13, 1, 14, 15, 16, 17] (by kernel_rfl) (by kernel_rfl) ?_
      generalize w1.drew = w2 at *
      (repeat (first | (refine wpZ_st (v := ?_) _ (by rfl) (by rfl) (by rfl) (fun W hW => ?_) (by exact HFS.out _ _ h4) ?_; (rotate_left; (focus ((try dsimp only at hW); go_simp; (try with_reducible rfl); done))); try simp only [Act.put, List.getElem_toArray, List.getElem_cons_zero, List.getElem_cons_succ, List.setIfInBounds_toArray, List.set_cons_zero, List.set_cons_succ]) | (refine wpZ_pu (v := ?_) _ (by rfl) (by rfl) (by rfl) (by rfl) (fun W => ?_) ?_; (rotate_left; (focus ((try dsimp only at hW); go_simp; (try with_reducible rfl); done))); try simp only [Act.put, List.getElem_toArray, List.getElem_cons_zero, List.getElem_cons_succ, List.setIfInBounds_toArray, List.set_cons_zero, List.set_cons_succ]) | (refine wpZ_no _ (by rfl) (by rfl) (by rfl) (by rfl) ?_; try simp only [Act.put, List.getElem_toArray, List.getElem_cons_zero, List.getElem_cons_succ, List.setIfInBounds_toArray, List.set_cons_zero, List.set_cons_succ]) | (refine wpZ_noS _ (by rfl) (by rfl) (by rfl) (by exact HFS.out _ _ h4) ?_; try simp only [Act.put, List.getElem_toArray, List.getElem_cons_zero, List.getElem_cons_succ, List.setIfInBounds_toArray, List.set_cons_zero, List.set_cons_succ])))
      obtain ⟨n2, hn2⟩ : ∃ n, w2.heap.size = n := ⟨_, rfl⟩
      have h5 := emptyRow h4 5
      simp only [hn2] at h5
      obtain ⟨SR, r0⟩ := (h5.mv 3).reads (Reads.ofL HRW.out (Reads.row 5 1 u.1 x.length u.2 (ub x)))
      (refine wpZ_eff _ (by rfl) (by rfl) (by rfl) (by rfl) (fun K hK => ?_); go_simp; refine hK _ _ (fun hl => ?_) ?_; (first | (focus (cases hl; done)) | exact HFS.out _ _ (h5.arr [1, 2, 0])); clear hK K; try simp only [Act.put, List.getElem_toArray, List.getElem_cons_zero, List.getElem_cons_succ, List.setIfInBounds_toArray, List.set_cons_zero, List.set_cons_succ])
      refine wpZ_eff _ (by rfl) (by rfl) (by rfl) (by rfl) (fun K hK => ?_)
      refine wp_append_empty_h _ _ 32 (by rfl) 5 i5 (.int .u8 0) 1 1 Try.underlying32 hi hz0 hz1 hz2 (by rfl) _ (by rfl) h5 _ (by rfl) x.length (ub x) SR r0 HU.out (by unfold maxLen; have := HK9.out.2.2; omega) (by have := HK9.out.2.2; omega) (fun ao1 cap1 w6 h6 hc1 => ?_)
      (refine hK _ _ (fun hl => ?_) ?_; (first | (focus (cases hl; done)) | exact HFS.out _ _ (h6.arr [1, 2, 0])); clear hK K; try simp only [Act.put, List.getElem_toArray, List.getElem_cons_zero, List.getElem_cons_succ, List.setIfInBounds_toArray, List.set_cons_zero, List.set_cons_succ])
      clear hn2
      (refine wpZ_eff _ (by rfl) (by rfl) (by rfl) (by rfl) (fun K hK => ?_); go_simp; refine hK _ _ (fun hl => ?_) ?_; (first | (focus (cases hl; done)) | exact HFS.out _ _ ((h6.junk (.cells #[.slice ao1 x.length cap1] 32)).arr [1, 2, 0])); clear hK K; try simp only [Act.put, List.getElem_toArray, List.getElem_cons_zero, List.getElem_cons_succ, List.setIfInBounds_toArray, List.set_cons_zero, List.set_cons_succ])
      have h7 := h6.mv 4
      (try dsimp only [Go.Own.front, Go.Own.arrA, Go.Own.atA, Go.Own.dropA, List.length_cons, List.length_nil, Nat.zero_add, Nat.reduceAdd] at h7)
      refine wpZ_eff _ (by rfl) (by rfl) (by rfl) (by rfl) (fun K hK => ?_)
      refine wp_append_one_h (w := w6) _ _ 47 (by rfl) 32 i32 (.slice none 0 0) 1 24 Try.underlying47 hi' hy0 hy1 hy2 (by rfl) _ k _ _ (by rfl) h7 [.slice ao1 x.length cap1] (by rfl) ⟨rfl, rfl, rfl, rfl⟩ (by rfl) (by simp [Value.oneCell']) (by unfold maxLen; have := HK9.out.1; omega) (by have := HK9.out.1; omega) (fun go2 gc2 w9 h9 hc9 => ?_)
      (refine hK _ _ (fun hl => ?_) ?_; (first | (focus (cases hl; done)) | exact HFS.out _ _ (h9.arr [2, 3, 0, 1])); clear hK K; try simp only [Act.put, List.getElem_toArray, List.getElem_cons_zero, List.getElem_cons_succ, List.setIfInBounds_toArray, List.set_cons_zero, List.set_cons_succ])
      (repeat (first | (refine wpZ_st (v := ?_) _ (by rfl) (by rfl) (by rfl) (fun W hW => ?_) (by exact HFS.out _ _ (h9.arr [2, 3, 0, 1])) ?_; (rotate_left; (focus ((try dsimp only at hW); go_simp; (try with_reducible rfl); done))); try simp only [Act.put, List.getElem_toArray, List.getElem_cons_zero, List.getElem_cons_succ, List.setIfInBounds_toArray, List.set_cons_zero, List.set_cons_succ]) | (refine wpZ_pu (v := ?_) _ (by rfl) (by rfl) (by rfl) (by rfl) (fun W => ?_) ?_; (rotate_left; (focus ((try dsimp only at hW); go_simp; (try with_reducible rfl); done))); try simp only [Act.put, List.getElem_toArray, List.getElem_cons_zero, List.getElem_cons_succ, List.setIfInBounds_toArray, List.set_cons_zero, List.set_cons_succ]) | (refine wpZ_no _ (by rfl) (by rfl) (by rfl) (by rfl) ?_; try simp only [Act.put, List.getElem_toArray, List.getElem_cons_zero, List.getElem_cons_succ, List.setIfInBounds_toArray, List.set_cons_zero, List.set_cons_succ]) | (refine wpZ_noS _ (by rfl) (by rfl) (by rfl) (by exact HFS.out _ _ (h9.arr [2, 3, 0, 1])) ?_; try simp only [Act.put, List.getElem_toArray, List.getElem_cons_zero, List.getElem_cons_succ, List.setIfInBounds_toArray, List.set_cons_zero, List.set_cons_succ])))
      (simp only [wpZ])
      have ha := h9.arr [1, 5, 0, 2, 3, 4]
      (try dsimp only [Go.Own.front, Go.Own.arrA, Go.Own.atA, Go.Own.dropA, List.length_cons, List.length_nil, Nat.zero_add, Nat.reduceAdd] at ha)
      have hb := ha.addL.arr [1, 0, 2, 3, 4]
      (try dsimp only [Go.Own.front, Go.Own.arrA, Go.Own.atA, Go.Own.dropA, List.length_cons, List.length_nil, Nat.zero_add, Nat.reduceAdd] at hb)
      have htl : (S.L.take k).length = k := by have := HK9.out.2.1; simp; omega
      have e1 := sl_append (S.L.take k) [x] vs [(ao1, cap1)] (by rw [HVL.out, htl])
      have e2 := rws_append (S.L.take k) [x] vs [(ao1, cap1)] (by rw [HVL.out, htl])
      rw [← HT.out] at e1 e2
      have e3 : sl [x] [(ao1, cap1)] = [.slice ao1 x.length cap1] := rfl
      have e4 : rws [x] [(ao1, cap1)] = [rowA 5 1 ao1 x.length cap1 (ub x)] := rfl
      rw [e3] at e1
      rw [e4] at e2
      rw [← e1, ← e2] at hb
      have HB := Lib.hid hb
      clear ha h9 hb e1 e2 e3 e4 htl h7 h6 h5 h4 h3 r0
      go_wp2
      go_roundw
      case rel => exact ⟨k + 1, go2, gc2, vs ++ [(ao1, cap1)], HK9.out.2.1, by go_num, rfl, by simp [HVL.out], HB.out⟩
      case measure => have := HK9.out.2.1; have := HM.out.1; simp [intOf]; omega
    · obtain rfl : k = S.L.length := by omega
      have hd1 : decide (S.base + S.L.length < S.fin) = false := by simp; omega
      have hd2 : decide ((S.base : Int) + S.L.length < S.fin) = false := by simp; omega
      have hd3 : (S.fin : Int) ≤ (S.base : Int) + S.L.length := by omega
      have HB := Lib.hid hr.drew
      have HVL := Lib.hid hvl
      clear hr hvl m1 m2 m3 m4
      go_wp2_with (go_at_call 33; refine (PR _ _ hr3).mono ?_; rintro e w1 ⟨rfl, rfl⟩)
      go_ret
      refine ⟨ho, hc, rfl, ?_⟩
      have h9 := HB.out
      rw [List.take_length] at h9
      have h10 := (rows_close HVL.out h9).arr [2, 3, 1, 0]
      (try dsimp only [Go.Own.front, Go.Own.arrA, Go.Own.atA, Go.Own.dropA, List.length_cons, List.length_nil, Nat.zero_add, Nat.reduceAdd] at h10)
      have h11 := (rows_close HV0.out h10).arr [1, 0, 2]
      (try dsimp only [Go.Own.front, Go.Own.arrA, Go.Own.atA, Go.Own.dropA, List.length_cons, List.length_nil, Nat.zero_add, Nat.reduceAdd] at h11)
      exact (rf_close h11).swap

end Go.Proofs.Ytjnjbmkkfkdhcaa
