/- The reference's All; the law's entries; Size. -/
import Derived.Test.YtpffofliemooiaaBuW
import Derived.Test.YtpffofliemooiaaBuN
open Go.RowKit Go.Own
namespace Go.Proofs.Ytpffofliemooiaa

def lenOf : Value → Nat
  | .slice _ n _ => n
  | _ => 0
def AllRel (r q : Nat) (T : RS) (L : List Asn) (ov : Value) (wr : World) : Prop :=
  ∃ (pre Lc : List (Int × Int)) (ao : Option Addr) (cap : Nat), ov = .slice ao pre.length cap ∧ (∀ out, AllOf Lc out → AllOf T.L (pre ++ out)) ∧ pre.length + Lc.length = T.L.length ∧
    Hold wr (rowA 59 2 ao pre.length cap (ents pre) :: rfA q { T with L := Lc } :: rfA r T :: L)

set_option maxHeartbeats 2000000 in
set_option maxRecDepth 20000 in
theorem rall_ok (r : Nat) (T : RS) (hl : T.L.length ≤ 65537) (w : World) (L : List Asn) (h : Hold w (rfA r T :: L)) :
    Calls Try.prog 20 #[.pointer (some ⟨r, 0, none⟩)] w fun e w' => ∃ out ao cap, AllOf T.L out ∧ e = .returned (.slice ao out.length cap) ∧ Hold w' (rowA 59 2 ao out.length cap (ents out) :: rfA r T :: L) := by
  obtain ⟨i59, hi, hz0, hz1, hz2⟩ := info_parts info59
  obtain ⟨ao, cap, h1⟩ := rf_open h
  have h2 := h1.box 73 (T.cells (.slice ao T.L.length cap))
  obtain ⟨q, hq⟩ : ∃ q, w.heap.size = q := ⟨_, rfl⟩
  simp only [hq] at h2
  have c0 : w.cell? ⟨r, 0, none⟩ = some (.int .i64 T.d) := h1.cell 0
  have c1 : w.cell? ⟨r, 1, none⟩ = some (.int .i64 T.lo) := h1.cell 1
  have c2 : w.cell? ⟨r, 2, none⟩ = some (.int .i64 T.hi) := h1.cell 2
  have c3 : w.cell? ⟨r, 3, none⟩ = some (.int .i64 T.cp) := h1.cell 3
  have c4 : w.cell? ⟨r, 4, none⟩ = some (.slice ao T.L.length cap) := h1.cell 4
  have c5 : w.cell? ⟨r, 5, none⟩ = some (.bool T.marked) := h1.cell 5
  have c6 : w.cell? ⟨r, 6, none⟩ = some (.int .i64 T.high) := h1.cell 6
  clear h
  go_enter Try.func20, Try.ntmps20
  go_upto_region 2 with (fail)
  refine gen_world h2 (fun w2 h2 => ?_)
  clear hq c0 c1 c2 c3 c4 c5 c6 h1
  have d4 : (w2.alloc (.cells #[] 59)).cell? ⟨r, 4, none⟩ = some (.slice ao T.L.length cap) := ((h2.junk (.cells #[] 59)).mv 1).cell 4
  obtain ⟨S1, r1⟩ := (h2.mv 2).rd
  have H18 := Lib.hid (ents_one T.L)
  have hl2 : (T.L.length : Int) ≤ 65537 := by omega
  have f4 := h2.frozen 4
  have k4 : w2.cell? ⟨q, 4, none⟩ = some (.slice ao T.L.length cap) := h2.cell 4
  go_upto_block 0 with ((with_reducible refine wpList_plain (o := ⟨some 13, _, _, _, _, _⟩) rfl (fun K hK => ?_)); refine wp_append_new_h (w := w2) _ _ 53 (by rfl) 59 i59 (.agg #[.int .i64 0, .int .i64 0]) 2 16 Try.underlying53 hi hz0 hz1 hz2 (by rfl) h2 (by rfl) ⟨rfl, rfl, rfl, rfl⟩ _ (by rfl) T.L.length (ents T.L) S1 r1 H18.out (by unfold maxLen; omega) (by omega) (fun a3 c3 w3 h3 hc3 => ?_); refine hK _ _ ?_; clear hK K; have kk4 : w3.cell? ⟨q, 4, none⟩ = some (.slice ao T.L.length cap) := (h3.mv 1).cell 4; have ff4 := (h3.mv 1).frozen 4)
  have h4 : Hold (w3.setCell ⟨q, 4, none⟩ (.slice a3 T.L.length c3)) (rowA 59 2 none 0 0 [] :: rfA q T :: rfA r T :: L) := by
    have h5 := ((h3.mv 1).st 4 (.slice a3 T.L.length c3)).arr [2, 3, 0, 1]
    (try dsimp only [Go.Own.front, Go.Own.arrA, Go.Own.atA, Go.Own.dropA, List.length_cons, List.length_nil, Nat.zero_add, Nat.reduceAdd] at h5)
    have h6 : Hold (w3.setCell ⟨q, 4, none⟩ (.slice a3 T.L.length c3)) (rfA r T :: cellsA q 73 (T.cells (.slice a3 T.L.length c3)) :: rowA 59 2 a3 T.L.length c3 (ents T.L) :: L) := rf_close h5
    have h7 := h6.arr [1, 2, 0]
    exact (rf_close h7).nilRow 59 2
  refine gen_world h4 (fun w4 h4 => ?_)
  have HLL := Lib.hid hl
  clear h3 h2 kk4 ff4 f4 k4 d4 r1 hl
  go_wp2
  go_loopw [4] (fun ov wr => AllRel r q T L ov wr) (fun ov _ => T.L.length - lenOf ov)
  case atStart => exact ⟨[], T.L, none, 0, rfl, fun out ho => ho, by simp, h4⟩
  case round =>
    clear h4
    obtain ⟨pre, Lc, a5, c5, rfl, hall, hlen, hr⟩ := hrel
    obtain ⟨a6, c6, h7⟩ := rf_open (hr.mv 1)
    have k4 : wr.cell? ⟨q, 4, none⟩ = some (.slice a6 Lc.length c6) := h7.cell 4
    have HA := Lib.hid hall
    clear hall h7
    rcases Lc with _ | ⟨x0, Lt⟩
    · have hA := HA.out [] .nil
      rw [List.append_nil] at hA
      have HA2 := Lib.hid hA
      clear hA
      go_wp2
      go_ret
      refine ⟨pre, a5, c5, HA2.out, rfl, ?_⟩
      exact (hr.mv 1).drop
    · obtain ⟨B, hB⟩ : ∃ B, B = x0 :: Lt := ⟨_, rfl⟩
      rw [← hB] at hr HA hlen k4
      have hBl : 0 < B.length := by rw [hB]; simp
      have hBi : 0 < (B.length : Int) := by omega
      clear hB
      have PB := best_ok q { T with L := B } hBl (by show B.length ≤ 65537; have := HLL.out; omega) wr _ (hr.mv 1)
      have HB9 := Lib.hid hBl
      have hpl : pre.length + 1 ≤ 65537 := by have := HLL.out; omega
      clear hBl
      have hb2 : B.length ≤ 65537 := by have := HLL.out; omega
      go_wp2_with (first
        | (go_at_call 32; refine PB.mono ?_; clear PB; rintro e w5 ⟨k, rfl, hb, h5⟩; obtain ⟨x, hx⟩ : ∃ x, B[k]? = some x := ⟨_, List.getElem?_eq_getElem hb.1⟩; have PW := without_ok q { T with L := B } k x hx hb2 w5 _ h5; have HBX := Lib.hid (And.intro hb hx); clear hb hx h5)
        | (go_at_call 31; refine PW.mono ?_; clear PW; rintro e w6 ⟨rfl, h6⟩)
        | ((with_reducible refine wpList_plain (o := ⟨some 23, _, _, _, _, _⟩) rfl (fun K hK => ?_)); refine wp_append_one_h (w := w6) _ _ 53 (by rfl) 59 i59 (.agg #[.int .i64 0, .int .i64 0]) 2 16 Try.underlying53 hi hz0 hz1 hz2 (by rfl) a5 pre.length c5 _ (by rfl) (h6.mv 1) [.int .i64 x.1, .int .i64 x.2] (by rfl) ⟨rfl, rfl, rfl, rfl⟩ (by rfl) (by simp [Value.oneCell']) (by unfold maxLen; omega) (by omega) (fun a8 c8 w8 h8 hc8 => ?_); refine hK _ _ ?_; clear hK K))
      go_roundw
      case rel =>
        have el : (pre ++ [x]).length = pre.length + 1 := by simp
        refine ⟨pre ++ [x], B.eraseIdx k, a8, c8, by rw [el], fun out ho => ?_, ?_, ?_⟩
        · have := HA.out (x :: out) (.cons HBX.out.1 HBX.out.2 ho)
          simpa using this
        · rw [el, List.length_eraseIdx_of_lt HBX.out.1.1]
          have h1 : 0 < B.length := HB9.out
          show pre.length + 1 + (B.length - 1) = _
          omega
        · rw [el, ents_append]; exact h8
      case measure => (simp [lenOf]; have := HB9.out; omega)

/-! ### entries. -/
def EntRel (A C : List (Int × Int)) (n : Nat) (T : List Asn) (iv : Value) (wr : World) : Prop := ∃ i : Nat, i ≤ n ∧ iv = .int .i64 i ∧ Hold wr T
set_option maxRecDepth 20000 in
theorem entries_ok (A : List (Int × Int)) (ao bo : Option Addr) (ac bc : Nat) (hl : A.length ≤ 65537) (w : World) (L : List Asn) (h : Hold w (rowA 59 2 ao A.length ac (ents A) :: rowA 59 2 bo A.length bc (ents A) :: L)) :
    Calls Try.prog 23 #[.slice ao A.length ac, .slice bo A.length bc] w fun e w' => e = .returned (.bool true) ∧ Hold w' (rowA 59 2 ao A.length ac (ents A) :: rowA 59 2 bo A.length bc (ents A) :: L) := by
  have G : ∀ W, Hold W (rowA 59 2 ao A.length ac (ents A) :: rowA 59 2 bo A.length bc (ents A) :: L) → ∀ j, j < A.length → ∃ ab ap bb bp, ao = some ⟨ab, ap, none⟩ ∧ bo = some ⟨bb, bp, none⟩ ∧ W.cell? ⟨ab, ap + j * 2, none⟩ = some (.int .i64 (bk A j)) ∧ W.cell? ⟨ab, ap + j * 2 + 1, none⟩ = some (.int .i64 (A.getD j (0, 0)).2) ∧ W.cell? ⟨bb, bp + j * 2, none⟩ = some (.int .i64 (bk A j)) ∧ W.cell? ⟨bb, bp + j * 2 + 1, none⟩ = some (.int .i64 (A.getD j (0, 0)).2) := fun W hW j hj => by
    obtain ⟨ab, ap, ha, hca, -⟩ := hW.at (by omega)
    obtain ⟨bb, bp, hb, hcb, -⟩ := (hW.mv 1).at (by omega)
    obtain ⟨e1, e2⟩ := ents_at hj
    refine ⟨ab, ap, bb, bp, ha, hb, ?_, ?_, ?_, ?_⟩
    · rw [hca (j * 2) (by omega), Nat.mul_comm]; exact e1
    · rw [Nat.add_assoc, hca (j * 2 + 1) (by omega), Nat.mul_comm]; exact e2
    · rw [hcb (j * 2) (by omega), Nat.mul_comm]; exact e1
    · rw [Nat.add_assoc, hcb (j * 2 + 1) (by omega), Nat.mul_comm]; exact e2
  obtain ⟨n, hn⟩ : ∃ n, A.length = n := ⟨_, rfl⟩
  have hn9 : (n : Int) ≤ 65537 := by omega
  rw [hn] at h G ⊢
  have HG := Lib.hid G
  clear G hn hl
  go_enter Try.func23, Try.ntmps23
  go_upto_block 0 with (fail)
  go_wp2
  go_loopw [5] (fun iv wr => EntRel A A n (rowA 59 2 ao n ac (ents A) :: rowA 59 2 bo n bc (ents A) :: L) iv wr) (fun iv _ => n - (intOf iv).toNat)
  case atStart => exact ⟨0, Nat.zero_le _, rfl, h⟩
  case round =>
    clear h
    obtain ⟨i, hi, rfl, hr⟩ := hrel
    by_cases hlt : i < n
    · have hin : (i : Int) < n := by omega
      have hi0 : 0 ≤ (i : Int) := by omega
      have hS := hr.drew
      obtain ⟨ab, ap, bb, bp, rfl, rfl, c1, c2, d1, d2⟩ := HG.out _ hS i hlt
      generalize bk A i = u at c1 d1
      generalize (A.getD i (0, 0)).2 = v at c2 d2
      go_upto_region 6 with (fail)
      refine wp_region_Z (fun W => W.cell? ⟨ab, ap + i * 2, none⟩ = some (.int .i64 u) ∧ W.cell? ⟨ab, ap + i * 2 + 1, none⟩ = some (.int .i64 v) ∧ W.cell? ⟨bb, bp + i * 2, none⟩ = some (.int .i64 u) ∧ W.cell? ⟨bb, bp + i * 2 + 1, none⟩ = some (.int .i64 v)) [3, 7] [] [0, 1, 2, 4, 5, 6, 8] [0, 1, 2, 3, 4, 5, 6, 7, 8] (by kernel_rfl) (by kernel_rfl) ?_
      (repeat (first | (refine wpZ_st (v := ?_) _ (by rfl) (by rfl) (by rfl) (fun W hW => ?_) (by exact ⟨c1, c2, d1, d2⟩) ?_; (rotate_left; (focus ((try dsimp only at hW); go_simp; (try with_reducible rfl); done))); try simp only [Act.put, List.getElem_toArray, List.getElem_cons_zero, List.getElem_cons_succ, List.setIfInBounds_toArray, List.set_cons_zero, List.set_cons_succ]) | (refine wpZ_pu (v := ?_) _ (by rfl) (by rfl) (by rfl) (by rfl) (fun W => ?_) ?_; (rotate_left; (focus ((try dsimp only at hW); go_simp; (try with_reducible rfl); done))); try simp only [Act.put, List.getElem_toArray, List.getElem_cons_zero, List.getElem_cons_succ, List.setIfInBounds_toArray, List.set_cons_zero, List.set_cons_succ]) | (refine wpZ_no _ (by rfl) (by rfl) (by rfl) (by rfl) ?_; try simp only [Act.put, List.getElem_toArray, List.getElem_cons_zero, List.getElem_cons_succ, List.setIfInBounds_toArray, List.set_cons_zero, List.set_cons_succ]) | (refine wpZ_noS _ (by rfl) (by rfl) (by rfl) (by exact ⟨c1, c2, d1, d2⟩) ?_; try simp only [Act.put, List.getElem_toArray, List.getElem_cons_zero, List.getElem_cons_succ, List.setIfInBounds_toArray, List.set_cons_zero, List.set_cons_succ])))
      (simp only [wpZ])
      go_wp2
      go_roundw
      case rel => exact ⟨i + 1, by omega, by go_num, hS⟩
      case measure => (simp [intOf] <;> omega)
    · obtain rfl : i = n := by omega
      go_wp2
      go_ret
      exact ⟨rfl, hr⟩

theorem lowest0 (b : Nat) (S : BS) (hc : 1 ≤ S.cp) (hn : S.n = 0) (w : World) (L : List Asn) (h : Hold w (bkA b S :: L)) :
    Calls Try.prog 13 #[.pointer (some ⟨b, 0, none⟩)] w fun e w' => e = .returned (.tuple #[.int .i64 0, .bool false]) ∧ w = w' := by
  obtain ⟨ro, rc, vs, hl, h1⟩ := bk_open h
  have PN := none_any b S hc w _ _ h1
  obtain ⟨g0, g1, g2, g3, g4, g5, g6, g7, g8, g9, g10⟩ := bkM h1
  rw [hn] at g6
  clear h h1 hl
  go_enter Try.func13, Try.ntmps13
  go_wp2_with (first
    | (go_at_call 29; with_reducible refine PN.mono ?_; rintro e w1 ⟨rfl, rfl⟩))
  go_ret2
  exact ⟨rfl, rfl⟩

end Go.Proofs.Ytpffofliemooiaa
