/- Contracts: the messages that are kept (Held). -/
import Derived.Test.YtjnjbmkkfkdhcaaSeM
open Go.RowKit Go.Own
namespace Go.Proofs.Ytjnjbmkkfkdhcaa

theorem sl_append : ∀ (X Y : List (List UInt8)) (vs us : List (Option Addr × Nat)), vs.length = X.length → sl (X ++ Y) (vs ++ us) = sl X vs ++ sl Y us
  | [], Y, [], us, _ => rfl
  | x :: X, Y, v :: vs, us, h => by
    simp only [List.cons_append, sl]
    rw [sl_append X Y vs us (by simpa using h)]
theorem rws_append : ∀ (X Y : List (List UInt8)) (vs us : List (Option Addr × Nat)), vs.length = X.length → rws (X ++ Y) (vs ++ us) = rws X vs ++ rws Y us
  | [], Y, [], us, _ => rfl
  | x :: X, Y, v :: vs, us, h => by
    simp only [List.cons_append, rws]
    rw [rws_append X Y vs us (by simpa using h)]
theorem take_snoc {X : List (List UInt8)} {i : Nat} {x : List UInt8} (h : X[i]? = some x) : X.take (i + 1) = X.take i ++ [x] := by
  rw [List.take_add_one, h]; rfl

/-- Rows of one's own. -/
def rowsA (ao : Option Addr) (cap : Nat) (X : List (List UInt8)) : Asn := exA fun vs : List (Option Addr × Nat) => starA (pureA (vs.length = X.length)) (starA (rowA 32 1 ao X.length cap (sl X vs)) (starL (rws X vs)))
theorem rows_open {w : World} {ao : Option Addr} {cap : Nat} {X : List (List UInt8)} {L : List Asn} (h : Hold w (rowsA ao cap X :: L)) : ∃ vs, vs.length = X.length ∧ Hold w (rowA 32 1 ao X.length cap (sl X vs) :: starL (rws X vs) :: L) := by
  obtain ⟨vs, h1⟩ := Hold.ex.1 h
  obtain ⟨h2, h3⟩ := Hold.pure.1 (Hold.star.1 h1)
  exact ⟨vs, h2, Hold.star.1 h3⟩
theorem rows_close {w : World} {ao : Option Addr} {cap : Nat} {X : List (List UInt8)} {vs : List (Option Addr × Nat)} {L : List Asn} (hl : vs.length = X.length) (h : Hold w (rowA 32 1 ao X.length cap (sl X vs) :: starL (rws X vs) :: L)) : Hold w (rowsA ao cap X :: L) :=
  Hold.ex.2 ⟨vs, Hold.star.2 (Hold.pure.2 ⟨hl, Hold.star.2 h⟩)⟩

def HeldRel (b : Nat) (S : SS) (f rc : Nat) (ro : Option Addr) (rows : List (List UInt8)) (vs0 : List (Option Addr × Nat)) (L : List Asn) (i out : Value) (wr : World) : Prop :=
  ∃ (k : Nat) (ho : Option Addr) (hc : Nat) (vs : List (Option Addr × Nat)), k ≤ S.L.length ∧ i = .int .i64 k ∧ out = .slice ho k hc ∧ vs.length = k ∧
    Hold wr (rowA 32 1 ho k hc (sl (S.L.take k) vs) :: starL (rws (S.L.take k) vs) :: cellsA b 60 (S.cells (.slice ro S.store rc) f S.L.length) :: rowA 32 1 ro S.store rc (sl rows vs0) :: starL (rws rows vs0) :: L)

set_option maxHeartbeats 2000000 in
set_option maxRecDepth 20000 in
theorem held_ok (b : Nat) (S : SS) (hSI : SI S) (w : World) (L : List Asn) (h : Hold w (snA b S :: L)) :
    Calls Try.prog 18 #[.pointer (some ⟨b, 0, none⟩)] w fun e w' => ∃ ao cap, e = .returned (.slice ao S.L.length cap) ∧ Hold w' (rowsA ao cap S.L :: snA b S :: L) := by
  obtain ⟨i5, hi, hz0, hz1, hz2⟩ := info_parts info5
  obtain ⟨i32, hi', hy0, hy1, hy2⟩ := info_parts info32
  obtain ⟨f, rows, ro, rc, vs0, hRg, hm, hl, h1⟩ := sn_open h
  have P := none_h b S hSI _ _ _ _ _ h1
  obtain ⟨-, -, g2, -⟩ := snM h1
  have hn256 : S.L.length ≤ 256 := by have := hSI.ll; have := hSI.s256; omega
  have hni : (S.L.length : Int) ≤ 9223372036854775807 := by omega
  have HSI := Lib.hid hSI
  have HN := Lib.hid hn256
  have H0 := Lib.hid (And.intro hRg (And.intro hm hl))
  clear hRg hm hl h hSI hn256
  go_enter Try.func18, Try.ntmps18
  go_upto_block 0 with (go_at_call 25; refine P.mono ?_; rintro e w1 ⟨rfl, rfl⟩)
  clear P g2
  have h2 := (h1.nilL).nilRow 32 1
  go_wp2
  go_loopw [13, 3] (fun i out wr => HeldRel b S f rc ro rows vs0 L i out wr) (fun i _ _ => S.L.length - (intOf i).toNat)
  case atStart => exact ⟨0, none, 0, [], by omega, rfl, rfl, rfl, by simpa [sl, rws] using h2⟩
  case round =>
    clear h1 h2
    obtain ⟨k, ho, hc, vs, hk, rfl, rfl, hvl, hr⟩ := hrel
    by_cases hlt : k < S.L.length
    · have hki : (k : Int) < S.L.length := by omega
      have hk0 : 0 ≤ (k : Int) := by omega
      obtain ⟨hRg, hm, hl⟩ := H0.out
      obtain ⟨j, hj⟩ : ∃ j, (f + k) % S.store = j := ⟨_, rfl⟩
      have hst := HSI.out.s256
      have hSl := hRg.ll
      have hjm : j < S.store := by rw [← hj]; exact Nat.mod_lt _ (by omega)
      have hr2 := hr.mv 3
      (try dsimp only [Go.Own.front, Go.Own.arrA, Go.Own.atA, Go.Own.dropA, List.length_cons, List.length_nil, Nat.zero_add, Nat.reduceAdd] at hr2)
      obtain ⟨rb, rp, rfl, xs, v, hxs, -, hrw, G⟩ := row_at hl hm hjm hr2
      have hLx : S.L[k]? = some xs := by rw [← hRg.at_ _ hlt, hm, hj]; exact hxs
      have hx64 : xs.length ≤ 64 := HSI.out.short xs (List.mem_of_getElem? hLx)
      have PA : ∀ W R, Hold W (cellsA b 60 (S.cells (.slice (some ⟨rb, rp, none⟩) S.store rc) f S.L.length) :: rowA 32 1 (some ⟨rb, rp, none⟩) S.store rc (sl rows vs0) :: R) → Calls Try.prog 28 #[.pointer (some ⟨b, 0, none⟩), .int .i64 k] W fun e w' => e = .returned (.slice v.1 xs.length v.2) ∧ w' = W.drew := fun W R hW =>
        at_ok b f S.store rc k j rb rp _ hst (by have := hRg.fl; omega) (by omega) hj hjm W (hW.drew.cell 0) (hW.drew.cell 1) (G _ _ (hW.drew.mv 1)).1
      have HT := Lib.hid (take_snoc hLx)
      have HRW := Lib.hid hrw
      have HLX := Lib.hid (And.intro hLx hx64)
      have HVL := Lib.hid hvl
      have HLT := Lib.hid hlt
      have HU := Lib.hid (ub_one xs)
      have HXL : Hid ((ub xs).length = xs.length) := Lib.hid (by simp)
      have hn9 : (xs.length : Int) ≤ 9223372036854775807 := by omega
      clear hRg hm hl hj hst hSl hjm hxs hrw G hLx hx64 hr2 hvl hlt
      have h3 := hr.arr [2, 3, 0, 1, 4]
      (try dsimp only [Go.Own.front, Go.Own.arrA, Go.Own.atA, Go.Own.dropA, List.length_cons, List.length_nil, Nat.zero_add, Nat.reduceAdd] at h3)
      clear hr
      go_upto_region 9 with (first
        | (go_at_call 28; refine (PA _ _ h3).mono ?_; rintro e w3 ⟨rfl, rfl⟩)
        | ((with_reducible refine wpList_plain (o := ⟨some 22, _, _, _, _, _⟩) rfl (fun K hK => ?_)); refine wp_make_h _ _ 32 (by rfl) 5 i5 (.int .u8 0) 1 1 Try.underlying32 hi hz0 hz1 hz2 .i64 .i64 xs.length xs.length (by rfl) (by rfl) (by omega) (by omega) (by omega) (by have := HLX.out.2; omega) h3.drew (fun a2 w5 h4 => ?_); refine hK _ _ ?_; clear hK K; rw [Int.toNat_natCast] at h4; have h5 := h4.arr [1, 2, 0, 3, 4, 5])
        | (go_at_call 28; refine (PA _ _ h5).mono ?_; rintro e w6 ⟨rfl, rfl⟩; have h6 := h5.drew.mv 2; have hzl := h6.bounds.1; obtain ⟨S1, r1⟩ := (h6.mv 5).reads (Reads.ofL HRW.out (Reads.row 5 1 v.1 xs.length v.2 (ub xs))))
        | ((with_reducible refine wpList_plain (o := ⟨some 29, _, _, _, _, _⟩) rfl (fun K hK => ?_)); refine wp_copy_h _ _ 32 32 (by rfl) 5 Try.underlying32 size5 _ xs.length xs.length _ h6 0 _ xs.length xs.length (by rfl) (.inr (by cases a2 <;> rfl)) (by omega) _ xs.length (ub xs) S1 (by rfl) r1 HU.out (fun w7 h7 => ?_); refine hK _ _ ?_; clear hK K; rw [copied (by omega) HXL.out] at h7))
      try simp only [Act.put, List.getElem_toArray, List.getElem_cons_zero, List.getElem_cons_succ, List.setIfInBounds_toArray, List.set_cons_zero, List.set_cons_succ]
      clear h3 h4 h5 h6 r1 hzl PA
      have h8 := h7.mv 3
      (try dsimp only [Go.Own.front, Go.Own.arrA, Go.Own.atA, Go.Own.dropA, List.length_cons, List.length_nil, Nat.zero_add, Nat.reduceAdd] at h8)
      clear h7
      have hk256 : k ≤ 256 := by have := HN.out; omega
      go_upto_region 10 with ((with_reducible refine wpList_plain (o := ⟨some 33, _, _, _, _, _⟩) rfl (fun K hK => ?_)); refine wp_append_one_h (w := w7) _ _ 47 (by rfl) 32 i32 (.slice none 0 0) 1 24 Try.underlying47 hi' hy0 hy1 hy2 (by rfl) _ k _ _ (by rfl) h8 [.slice a2 xs.length xs.length] (by rfl) ⟨rfl, rfl, rfl, rfl⟩ (by rfl) (by simp [Value.oneCell']) (by unfold maxLen; omega) (by omega) (fun ho2 hc2 w9 h9 hc9 => ?_); refine hK _ _ ?_; clear hK K)
      try simp only [Act.put, List.getElem_toArray, List.getElem_cons_zero, List.getElem_cons_succ, List.setIfInBounds_toArray, List.set_cons_zero, List.set_cons_succ]
      clear h8
      have ha := h9.arr [1, 4, 0, 2, 3, 5]
      (try dsimp only [Go.Own.front, Go.Own.arrA, Go.Own.atA, Go.Own.dropA, List.length_cons, List.length_nil, Nat.zero_add, Nat.reduceAdd] at ha)
      have hb := ha.addL.arr [1, 0, 2, 3, 4]
      (try dsimp only [Go.Own.front, Go.Own.arrA, Go.Own.atA, Go.Own.dropA, List.length_cons, List.length_nil, Nat.zero_add, Nat.reduceAdd] at hb)
      have htl : (S.L.take k).length = k := by simp; omega
      have e1 := sl_append (S.L.take k) [xs] vs [(a2, xs.length)] (by rw [HVL.out, htl])
      have e2 := rws_append (S.L.take k) [xs] vs [(a2, xs.length)] (by rw [HVL.out, htl])
      rw [← HT.out] at e1 e2
      have e3 : sl [xs] [(a2, xs.length)] = [.slice a2 xs.length xs.length] := rfl
      have e4 : rws [xs] [(a2, xs.length)] = [rowA 5 1 a2 xs.length xs.length (ub xs)] := rfl
      rw [e3] at e1
      rw [e4] at e2
      rw [← e1, ← e2] at hb
      have HB := Lib.hid hb
      clear ha h9 hb e1 e2 e3 e4 htl
      go_wp2
      go_roundw
      case rel => exact ⟨k + 1, ho2, hc2, vs ++ [(a2, xs.length)], HLT.out, by go_num, rfl, by simp [HVL.out], HB.out⟩
      case measure => have := HLT.out; simp [intOf]; omega
    · obtain rfl : k = S.L.length := by omega
      have HB := Lib.hid hr
      have HVL := Lib.hid hvl
      clear hr hvl
      go_wp2
      go_ret
      refine ⟨ho, hc, rfl, ?_⟩
      have h9 := HB.out
      rw [List.take_length] at h9
      have h10 := (rows_close HVL.out h9).arr [1, 2, 3, 0]
      (try dsimp only [Go.Own.front, Go.Own.arrA, Go.Own.atA, Go.Own.dropA, List.length_cons, List.length_nil, Nat.zero_add, Nat.reduceAdd] at h10)
      exact (sn_close H0.out.1 H0.out.2.1 H0.out.2.2 h10).swap

end Go.Proofs.Ytjnjbmkkfkdhcaa
