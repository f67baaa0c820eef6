/- The reference's contracts: New, Pop, Put, All. -/
import Derived.Test.YtpffofliemooiaaBuV
open Go.RowKit Go.Own
namespace Go.Proofs.Ytpffofliemooiaa

set_option maxRecDepth 20000 in
theorem rnew_good (d lo hi cp : Int) (hd1 : 1 ≤ d) (hd2 : d ≤ 65536) (hlo : I64 lo) (hhi : I64 hi) (hlh : lo ≤ hi) (hc1 : 1 ≤ cp) (hc2 : cp ≤ 65536) (hsz : hi / d - lo / d < 65536) (w : World) (L : List Asn) (h : Hold w L) :
    Calls Try.prog 18 #[.int .i64 d, .int .i64 lo, .int .i64 hi, .int .i64 cp] w fun e w' => ∃ r, e = .returned (.tuple #[.pointer (some ⟨r, 0, none⟩), .int .i64 0]) ∧ Hold w' (rfA r ⟨d, lo, hi, cp, [], false, 0⟩ :: L) := by
  obtain ⟨x, hx⟩ : ∃ x, x = lo / d := ⟨_, rfl⟩
  obtain ⟨y, hy⟩ : ∃ y, y = hi / d := ⟨_, rfl⟩
  have P1 := fun w => rIndex_ok lo d hlo w
  have P2 := fun w => rIndex_ok hi d hhi w
  unfold idxE idxV at P1 P2
  simp only [if_neg (show ¬ (d < 1 ∨ 65536 < d) by omega)] at P1 P2
  rw [← hx] at P1 hsz
  rw [← hy] at P2 hsz
  have hm : x ≤ y := by rw [hx, hy]; exact idx_mono lo hi d hd1 hlh
  obtain ⟨a1, a2⟩ := idx_I64 hlo hd1
  obtain ⟨b1, b2⟩ := idx_I64 hhi hd1
  rw [← hx] at a1 a2
  rw [← hy] at b1 b2
  clear hx hy
  go_enter Try.func18, Try.ntmps18
  go_upto_if 48 with (first
    | (go_at_call 14; with_reducible refine (P1 _).mono ?_; rintro e w1 ⟨rfl, rfl⟩)
    | (go_at_call 14; with_reducible refine (P2 _).mono ?_; rintro e w1 ⟨rfl, rfl⟩))
  rw [u64_sub (by omega)]
  have hdec : decide (65536 ≤ y - x) = false := by simp; omega
  have h5 := (h.nilRow 59 2).box 73 [.int .i64 d, .int .i64 lo, .int .i64 hi, .int .i64 cp, .slice none 0 0, .bool false, .int .i64 0]
  go_wp2
  go_ret2
  exact ⟨_, rfl, rf_close (T := ⟨d, lo, hi, cp, [], false, 0⟩) (ao := none) (cap := 0) h5⟩
set_option maxRecDepth 20000 in
theorem rnew_bad (d lo hi cp : Int) (hlo : I64 lo) (hhi : I64 hi) (hbad : newE d lo hi cp ≠ 0) (w : World) :
    Calls Try.prog 18 #[.int .i64 d, .int .i64 lo, .int .i64 hi, .int .i64 cp] w fun e w' => e = .returned (.tuple #[.pointer none, .int .i64 (newE d lo hi cp)]) ∧ w = w' := by
  by_cases h1 : d < 1
  · rw [newE, if_pos (.inl h1)]
    go_enter Try.func18, Try.ntmps18
    go_wp2
    go_ret2
    exact ⟨rfl, rfl⟩
  by_cases h2 : 65536 < d
  · rw [newE, if_pos (.inr h2)]
    go_enter Try.func18, Try.ntmps18
    go_wp2
    go_ret2
    exact ⟨rfl, rfl⟩
  rw [newE, if_neg (by omega)] at hbad ⊢
  by_cases h3 : hi < lo
  · rw [if_pos (.inl h3)]
    clear hbad
    go_enter Try.func18, Try.ntmps18
    go_wp2
    go_ret2
    exact ⟨rfl, rfl⟩
  by_cases h4 : cp < 1
  · rw [if_pos (.inr (.inl h4))]
    clear hbad
    go_enter Try.func18, Try.ntmps18
    go_wp2
    go_ret2
    exact ⟨rfl, rfl⟩
  by_cases h5 : 65536 < cp
  · rw [if_pos (.inr (.inr h5))]
    clear hbad
    go_enter Try.func18, Try.ntmps18
    go_wp2
    go_ret2
    exact ⟨rfl, rfl⟩
  rw [if_neg (by omega)] at hbad ⊢
  by_cases h6 : 65536 ≤ hi / d - lo / d
  · rw [if_pos h6]
    have hd1 : 1 ≤ d := by omega
    obtain ⟨x, hx⟩ : ∃ x, x = lo / d := ⟨_, rfl⟩
    obtain ⟨y, hy⟩ : ∃ y, y = hi / d := ⟨_, rfl⟩
    have P1 := fun w => rIndex_ok lo d hlo w
    have P2 := fun w => rIndex_ok hi d hhi w
    unfold idxE idxV at P1 P2
    simp only [if_neg (show ¬ (d < 1 ∨ 65536 < d) by omega)] at P1 P2
    obtain ⟨a1, a2⟩ := idx_I64 hlo hd1
    obtain ⟨b1, b2⟩ := idx_I64 hhi hd1
    rw [← hx] at P1 a1 a2 h6
    rw [← hy] at P2 b1 b2 h6
    clear hx hy hbad
    go_enter Try.func18, Try.ntmps18
    go_upto_if 48 with (first
      | (go_at_call 14; with_reducible refine (P1 _).mono ?_; rintro e w1 ⟨rfl, rfl⟩)
      | (go_at_call 14; with_reducible refine (P2 _).mono ?_; rintro e w1 ⟨rfl, rfl⟩))
    rw [u64_sub (by omega)]
    have hdec : decide (65536 ≤ y - x) = true := by simp; omega
    go_wp2
    go_ret2
    exact ⟨rfl, rfl⟩
  · rw [if_neg h6] at hbad
    exact absurd rfl hbad

set_option maxRecDepth 20000 in
theorem rpop_ok (r : Nat) (T : RS) (hn : 0 < T.L.length) (hl : T.L.length ≤ 65537) (w : World) (L : List Asn) (h : Hold w (rfA r T :: L)) :
    Calls Try.prog 22 #[.pointer (some ⟨r, 0, none⟩)] w fun e w' => ∃ k x, IsBest T.L k ∧ T.L[k]? = some x ∧ e = .returned (.tuple #[.int .i64 x.2, .int .i64 x.1, .bool true]) ∧ Hold w' (rfA r { T with L := T.L.eraseIdx k } :: L) := by
  have P := best_ok r T hn hl w L h
  clear h
  go_enter Try.func22, Try.ntmps22
  go_upto_region 2 with (go_at_call 32; refine P.mono ?_; rintro e w1 ⟨k, rfl, hb, h1⟩)
  obtain ⟨x, hx⟩ : ∃ x, T.L[k]? = some x := ⟨_, List.getElem?_eq_getElem hb.1⟩
  have PW := without_ok r T k x hx hl w1 L h1
  have HB := Lib.hid hb
  have HX := Lib.hid hx
  have hk0 : 0 ≤ (k : Int) := by omega
  clear hb hx P h1
  go_upto_region 5 with (go_at_call 31; refine PW.mono ?_; rintro e w2 ⟨rfl, h2⟩)
  have h3 := h2.box 59 [.int .i64 x.1, .int .i64 x.2]
  obtain ⟨p, hp⟩ : ∃ p, w2.heap.size = p := ⟨_, rfl⟩
  simp only [hp] at h3 ⊢
  refine gen_world h3 (fun w3 h3 => ?_)
  have c0 : w3.drew.cell? ⟨p, 0, none⟩ = some (.int .i64 x.1) := h3.drew.cell 0
  have c1 : w3.drew.cell? ⟨p, 1, none⟩ = some (.int .i64 x.2) := h3.drew.cell 1
  clear hp PW h2
  refine wp_region_Z (fun W => W.cell? ⟨p, 0, none⟩ = some (.int .i64 x.1) ∧ W.cell? ⟨p, 1, none⟩ = some (.int .i64 x.2)) [1, 3] [] [0, 2, 4, 5, 6] [0, 1, 2, 3, 4, 5, 6] (by kernel_rfl) (by kernel_rfl) ?_
  (repeat (first | (refine wpZ_st (v := ?_) _ (by rfl) (by rfl) (by rfl) (fun W hW => ?_) (by exact ⟨c0, c1⟩) ?_; (rotate_left; (focus ((try dsimp only at hW); go_simp; (try with_reducible rfl); done))); try simp only [Act.put, List.getElem_toArray, List.getElem_cons_zero, List.getElem_cons_succ, List.setIfInBounds_toArray, List.set_cons_zero, List.set_cons_succ]) | (refine wpZ_pu (v := ?_) _ (by rfl) (by rfl) (by rfl) (by rfl) (fun W => ?_) ?_; (rotate_left; (focus ((try dsimp only at hW); go_simp; (try with_reducible rfl); done))); try simp only [Act.put, List.getElem_toArray, List.getElem_cons_zero, List.getElem_cons_succ, List.setIfInBounds_toArray, List.set_cons_zero, List.set_cons_succ]) | (refine wpZ_no _ (by rfl) (by rfl) (by rfl) (by rfl) ?_; try simp only [Act.put, List.getElem_toArray, List.getElem_cons_zero, List.getElem_cons_succ, List.setIfInBounds_toArray, List.set_cons_zero, List.set_cons_succ]) | (refine wpZ_noS _ (by rfl) (by rfl) (by rfl) (by exact ⟨c0, c1⟩) ?_; try simp only [Act.put, List.getElem_toArray, List.getElem_cons_zero, List.getElem_cons_succ, List.setIfInBounds_toArray, List.set_cons_zero, List.set_cons_succ])))
  (simp only [wpZ])
  go_wp2
  go_ret3
  exact ⟨k, x, HB.out, HX.out, rfl, h3.drop.drew⟩

theorem rput_far (r : Nat) (T : RS) (m id : Int) (hf : m < T.lo ∨ T.hi < m) (w : World) (L : List Asn) (h : Hold w (rfA r T :: L)) :
    Calls Try.prog 19 #[.pointer (some ⟨r, 0, none⟩), .int .i64 m, .int .i64 id] w fun e w' => e = .returned (.tuple #[.int .i64 0, .bool false, .int .i64 11]) ∧ Hold w' (rfA r T :: L) := by
  obtain ⟨ao, cap, h2⟩ := rf_open h
  have c1 : w.cell? ⟨r, 1, none⟩ = some (.int .i64 T.lo) := h2.cell 1
  have c2 : w.cell? ⟨r, 2, none⟩ = some (.int .i64 T.hi) := h2.cell 2
  clear h2
  by_cases hlo : m < T.lo
  · clear hf
    go_enter Try.func19, Try.ntmps19
    go_wp2
    go_ret3
    exact ⟨rfl, h⟩
  · have hhi : T.hi < m := by omega
    clear hf
    go_enter Try.func19, Try.ntmps19
    go_wp2
    go_ret3
    exact ⟨rfl, h⟩

/-- k is lowest among the first i. -/
def PartLow (L : List (Int × Int)) (i k : Nat) : Prop := k < L.length ∧ (k < i ∨ i = 0 ∧ k = 0) ∧ ∀ j, j < i → bk L k ≤ bk L j ∧ (j < k → bk L k < bk L j)
def PutRel (L : List (Int × Int)) (T : List Asn) (kv iv : Value) (wr : World) : Prop := ∃ i k : Nat, i ≤ L.length ∧ kv = .int .i64 k ∧ iv = .int .i64 i ∧ PartLow L i k ∧ Hold wr T

def PutDrop (r : Nat) (T : RS) (B : List (Int × Int)) (L : List Asn) (e : Ending) (w' : World) : Prop :=
  ∃ k x, IsLow B k ∧ B[k]? = some x ∧ e = .returned (.tuple #[.int .i64 x.2, .bool true, .int .i64 0]) ∧
    Hold w' (rfA r { T with L := B.eraseIdx k, marked := true, high := if T.marked = false ∨ T.high < x.1 then x.1 else T.high } :: L)

set_option maxHeartbeats 2000000 in
set_option maxRecDepth 20000 in
theorem rput_ok (r : Nat) (T : RS) (m id : Int) (hm : I64 m) (hd1 : 1 ≤ T.d) (hd2 : T.d ≤ 65536) (h1 : T.lo ≤ m) (h2 : m ≤ T.hi) (hc : (T.L.length : Int) ≤ T.cp) (hcp : T.cp ≤ 65536) (w : World) (L : List Asn) (h : Hold w (rfA r T :: L)) :
    Calls Try.prog 19 #[.pointer (some ⟨r, 0, none⟩), .int .i64 m, .int .i64 id] w fun e w' =>
      ((T.L.length : Int) < T.cp ∧ e = .returned (.tuple #[.int .i64 0, .bool false, .int .i64 0]) ∧ Hold w' (rfA r { T with L := T.L ++ [(m / T.d, id)] } :: L)) ∨
      ((T.L.length : Int) = T.cp ∧ PutDrop r T (T.L ++ [(m / T.d, id)]) L e w') := by
  obtain ⟨i59, hi, hz0, hz1, hz2⟩ := info_parts info59
  obtain ⟨ao, cap, h3⟩ := rf_open h
  have P1 := fun w => rIndex_ok m T.d hm w
  unfold idxE idxV at P1
  simp only [if_neg (show ¬ (T.d < 1 ∨ 65536 < T.d) by omega)] at P1
  obtain ⟨v, hv⟩ : ∃ v, v = m / T.d := ⟨_, rfl⟩
  rw [← hv] at P1
  obtain ⟨n, hn⟩ : ∃ n, n = T.L.length := ⟨_, rfl⟩
  have c0 : w.cell? ⟨r, 0, none⟩ = some (.int .i64 T.d) := h3.cell 0
  have c1 : w.cell? ⟨r, 1, none⟩ = some (.int .i64 T.lo) := h3.cell 1
  have c2 : w.cell? ⟨r, 2, none⟩ = some (.int .i64 T.hi) := h3.cell 2
  have c4 : w.cell? ⟨r, 4, none⟩ = some (.slice ao n cap) := by rw [hn]; exact h3.cell 4
  have f4 := h3.frozen 4
  have h4 := h3.mv 1
  (try dsimp only [Go.Own.front, Go.Own.arrA, Go.Own.atA, Go.Own.dropA, List.length_cons, List.length_nil, Nat.zero_add, Nat.reduceAdd] at h4)
  have hn9 : (n : Int) ≤ 65536 := by omega
  have hcn : (n : Int) ≤ T.cp := by omega
  have HN := Lib.hid hn
  have HV := Lib.hid hv
  have hn65 : n ≤ 65536 := by omega
  rw [← hn] at h4
  rw [← hv, ← hn]
  clear h h3 hn hv hc
  go_enter Try.func19, Try.ntmps19
  go_upto_region 5 with (first
    | (go_at_call 14; with_reducible refine (P1 _).mono ?_; rintro e w1 ⟨rfl, rfl⟩)
    | ((with_reducible refine wpList_plain (o := ⟨some 46, _, _, _, _, _⟩) rfl (fun K hK => ?_)); refine wp_append_one_h (w := w) _ _ 53 (by rfl) 59 i59 (.agg #[.int .i64 0, .int .i64 0]) 2 16 Try.underlying53 hi hz0 hz1 hz2 (by rfl) ao n cap _ (by rfl) h4 [.int .i64 v, .int .i64 id] (by rfl) ⟨rfl, rfl, rfl, rfl⟩ (by rfl) (by simp [Value.oneCell']) (by unfold maxLen; omega) (by omega) (fun a3 c3 w3 h5 hc5 => ?_); refine hK _ _ ?_; clear hK K; have k4 : w3.cell? ⟨r, 4, none⟩ = some (.slice ao n cap) := (h5.mv 1).cell 4; have f4' := (h5.mv 1).frozen 4))
  have h6 : Hold (w3.setCell ⟨r, 4, none⟩ (.slice a3 (n + 1) c3)) (rfA r { T with L := T.L ++ [(v, id)] } :: L) := by
    refine rf_close (ao := a3) (cap := c3) ?_
    have el : ({ T with L := T.L ++ [(v, id)] } : RS).L.length = n + 1 := by simp [HN.out]
    rw [el, show ({ T with L := T.L ++ [(v, id)] } : RS).L = T.L ++ [(v, id)] from rfl, ents_append]
    exact (h5.mv 1).st 4 (.slice a3 (n + 1) c3)
  refine gen_world h6 (fun w4 h6 => ?_)
  clear h4 h5 k4 f4' c0 c1 c2 c4 f4
  obtain ⟨B, hB⟩ : ∃ B, B = T.L ++ [(v, id)] := ⟨_, rfl⟩
  have hBl : B.length = n + 1 := by rw [hB, HN.out]; simp
  rw [← hB] at h6
  obtain ⟨a5, c5, h7⟩ := rf_open h6
  have h7 : Hold w4 (cellsA r 73 ({ T with L := B }.cells (.slice a5 (n + 1) c5)) :: rowA 59 2 a5 (n + 1) c5 (ents B) :: L) := by rw [← hBl]; exact h7
  obtain ⟨rb, ro, rfl, -, -⟩ := (h7.mv 1).at (by omega)
  have G : ∀ W, Hold W (cellsA r 73 ({ T with L := B }.cells (.slice (some ⟨rb, ro, none⟩) (n + 1) c5)) :: rowA 59 2 (some ⟨rb, ro, none⟩) (n + 1) c5 (ents B) :: L) → W.cell? ⟨r, 4, none⟩ = some (.slice (some ⟨rb, ro, none⟩) (n + 1) c5) ∧ W.cell? ⟨r, 3, none⟩ = some (.int .i64 T.cp) ∧ ∀ j, j < n + 1 → W.cell? ⟨rb, ro + j * 2, none⟩ = some (.int .i64 (bk B j)) := fun W hW =>
    ⟨hW.cell 4, hW.cell 3, fun j hj => by rw [(row_at (hW.mv 1) (by omega)).1 (j * 2) (by omega), Nat.mul_comm]; exact (ents_at (by omega)).1⟩
  have HG := Lib.hid G
  have h8 := h7.drew
  obtain ⟨k4, k3, -⟩ := G _ h8
  have HB := Lib.hid hB
  have HBL := Lib.hid hBl
  clear h6 h7 G hB hBl
  refine wp_region_Z (fun W => W.cell? ⟨r, 4, none⟩ = some (.slice (some ⟨rb, ro, none⟩) (n + 1) c5) ∧ W.cell? ⟨r, 3, none⟩ = some (.int .i64 T.cp)) [3, 8] [] [0, 1, 2, 4, 5, 6, 7, 9] [0, 1, 2, 3, 4, 5, 6, 7, 8, 9] (by kernel_rfl) (by kernel_rfl) ?_
  (repeat (first | (refine wpZ_st (v := ?_) _ (by rfl) (by rfl) (by rfl) (fun W hW => ?_) (by exact ⟨k4, k3⟩) ?_; (rotate_left; (focus ((try dsimp only at hW); go_simp; (try with_reducible rfl); done))); try simp only [Act.put, List.getElem_toArray, List.getElem_cons_zero, List.getElem_cons_succ, List.setIfInBounds_toArray, List.set_cons_zero, List.set_cons_succ]) | (refine wpZ_pu (v := ?_) _ (by rfl) (by rfl) (by rfl) (by rfl) (fun W => ?_) ?_; (rotate_left; (focus ((try dsimp only at hW); go_simp; (try with_reducible rfl); done))); try simp only [Act.put, List.getElem_toArray, List.getElem_cons_zero, List.getElem_cons_succ, List.setIfInBounds_toArray, List.set_cons_zero, List.set_cons_succ]) | (refine wpZ_no _ (by rfl) (by rfl) (by rfl) (by rfl) ?_; try simp only [Act.put, List.getElem_toArray, List.getElem_cons_zero, List.getElem_cons_succ, List.setIfInBounds_toArray, List.set_cons_zero, List.set_cons_succ]) | (refine wpZ_noS _ (by rfl) (by rfl) (by rfl) (by exact ⟨k4, k3⟩) ?_; try simp only [Act.put, List.getElem_toArray, List.getElem_cons_zero, List.getElem_cons_succ, List.setIfInBounds_toArray, List.set_cons_zero, List.set_cons_succ])))
  (simp only [wpZ])
  have hcl : ∀ W, Hold W (cellsA r 73 ({ T with L := B }.cells (.slice (some ⟨rb, ro, none⟩) (n + 1) c5)) :: rowA 59 2 (some ⟨rb, ro, none⟩) (n + 1) c5 (ents B) :: L) → Hold W (rfA r { T with L := B } :: L) := fun W hW => by
    refine rf_close (ao := some ⟨rb, ro, none⟩) (cap := c5) ?_
    rw [show ({ T with L := B } : RS).L.length = n + 1 from HBL.out]
    exact hW
  have HCL := Lib.hid hcl
  clear hcl k4 k3
  by_cases hlt : (n : Int) < T.cp
  · have hle : (n : Int) + 1 ≤ T.cp := by omega
    go_wp2
    go_ret3
    refine .inl ⟨rfl, ?_⟩
    rw [← HB.out]
    exact HCL.out _ h8
  · have HEQ : Hid ((n : Int) = T.cp) := Lib.hid (by omega)
    have hle : ¬ (n : Int) + 1 ≤ T.cp := by omega
    clear hlt
    go_upto_block 0 with (fail)
    go_wp2
    go_loopw [11, 12] (fun kv iv wr => PutRel B (cellsA r 73 ({ T with L := B }.cells (.slice (some ⟨rb, ro, none⟩) (n + 1) c5)) :: rowA 59 2 (some ⟨rb, ro, none⟩) (n + 1) c5 (ents B) :: L) kv iv wr) (fun _ iv _ => n + 1 - (intOf iv).toNat)
    case atStart => exact ⟨0, 0, Nat.zero_le _, rfl, rfl, ⟨by rw [HBL.out]; omega, .inr ⟨rfl, rfl⟩, fun j h => by omega⟩, h8⟩
    case round =>
      clear h8
      obtain ⟨i, k, hi, rfl, rfl, ⟨hk, hki, hpl⟩, hr⟩ := hrel
      rw [HBL.out] at hi hk
      have HPL := Lib.hid hpl
      have HKI := Lib.hid hki
      clear hpl hki
      by_cases hlt : i < n + 1
      · have hin : (i : Int) < (n : Int) + 1 := by omega
        have hi0 : 0 ≤ (i : Int) := by omega
        have hk0 : 0 ≤ (k : Int) := by omega
        have hkn : (k : Int) < (n : Int) + 1 := by omega
        obtain ⟨q4, -, -⟩ := HG.out _ hr
        have h9 := hr.drew
        obtain ⟨k4, -, cj⟩ := HG.out _ h9
        have ci := cj i hlt
        have ck := cj k hk
        clear cj
        go_upto_region 11 with (fail)
        refine wp_region_Z (fun W => W.cell? ⟨r, 4, none⟩ = some (.slice (some ⟨rb, ro, none⟩) (n + 1) c5) ∧ W.cell? ⟨rb, ro + i * 2, none⟩ = some (.int .i64 (bk B i)) ∧ W.cell? ⟨rb, ro + k * 2, none⟩ = some (.int .i64 (bk B k))) [3, 7, 11, 15] [] [0, 1, 2, 4, 5, 6, 8, 9, 10, 12, 13, 14, 16] [0, 1, 2, 3, 4, 5, 6, 7, 8, 9, 10, 11, 12, 13, 14, 15, 16] (by kernel_rfl) (by kernel_rfl) ?_
        (repeat (first | (refine wpZ_st (v := ?_) _ (by rfl) (by rfl) (by rfl) (fun W hW => ?_) (by exact ⟨k4, ci, ck⟩) ?_; (rotate_left; (focus ((try dsimp only at hW); go_simp; (try with_reducible rfl); done))); try simp only [Act.put, List.getElem_toArray, List.getElem_cons_zero, List.getElem_cons_succ, List.setIfInBounds_toArray, List.set_cons_zero, List.set_cons_succ]) | (refine wpZ_pu (v := ?_) _ (by rfl) (by rfl) (by rfl) (by rfl) (fun W => ?_) ?_; (rotate_left; (focus ((try dsimp only at hW); go_simp; (try with_reducible rfl); done))); try simp only [Act.put, List.getElem_toArray, List.getElem_cons_zero, List.getElem_cons_succ, List.setIfInBounds_toArray, List.set_cons_zero, List.set_cons_succ]) | (refine wpZ_no _ (by rfl) (by rfl) (by rfl) (by rfl) ?_; try simp only [Act.put, List.getElem_toArray, List.getElem_cons_zero, List.getElem_cons_succ, List.setIfInBounds_toArray, List.set_cons_zero, List.set_cons_succ]) | (refine wpZ_noS _ (by rfl) (by rfl) (by rfl) (by exact ⟨k4, ci, ck⟩) ?_; try simp only [Act.put, List.getElem_toArray, List.getElem_cons_zero, List.getElem_cons_succ, List.setIfInBounds_toArray, List.set_cons_zero, List.set_cons_succ])))
        (simp only [wpZ])
        by_cases hb : bk B i < bk B k
        · go_wp2
          go_roundw
          case rel =>
            refine ⟨i + 1, i, by rw [HBL.out]; omega, rfl, by go_num, ⟨by rw [HBL.out]; exact hlt, .inl (Nat.lt_succ_self i), fun j hj => ?_⟩, h9⟩
            by_cases e : j = i
            · rw [e]; exact ⟨Int.le_refl _, fun h => absurd h (Nat.lt_irrefl _)⟩
            · have := (HPL.out j (by omega)).1
              exact ⟨by omega, fun _ => by omega⟩
          case measure => (simp [intOf] <;> omega)
        · have hb2 : bk B k ≤ bk B i := by omega
          go_wp2
          go_roundw
          case rel =>
            refine ⟨i + 1, k, by rw [HBL.out]; omega, rfl, by go_num, ⟨by rw [HBL.out]; exact hk, .inl ?_, fun j hj => ?_⟩, h9⟩
            · rcases HKI.out with h | ⟨rfl, rfl⟩ <;> omega
            · by_cases e : j = i
              · rw [e]; exact ⟨hb2, fun h => by rcases HKI.out with h2 | ⟨h3, h2⟩ <;> omega⟩
              · exact HPL.out j (by omega)
          case measure => (simp [intOf] <;> omega)
      · obtain rfl : i = n + 1 := by omega
        obtain ⟨k4, -, -⟩ := HG.out _ hr
        have hk0 : 0 ≤ (k : Int) := by omega
        have hkB : k < B.length := by rw [HBL.out]; exact hk
        obtain ⟨x, hx⟩ : ∃ x, B[k]? = some x := ⟨_, List.getElem?_eq_getElem hkB⟩
        have PW := without_ok r { T with L := B } k x hx (by show B.length ≤ 65537; rw [HBL.out]; omega) wr L (HCL.out _ hr)
        have HX := Lib.hid hx
        clear hx hkB
        go_upto_region 14 with (go_at_call 31; refine PW.mono ?_; rintro e w2 ⟨rfl, h2⟩)
        have h3 := h2.box 59 [.int .i64 x.1, .int .i64 x.2]
        obtain ⟨p, hp⟩ : ∃ p, w2.heap.size = p := ⟨_, rfl⟩
        simp only [hp] at h3 ⊢
        refine gen_world h3 (fun w3 h3 => ?_)
        clear hp PW h2 k4 hr
        obtain ⟨ao7, cap7, h4⟩ := rf_open (h3.mv 1)
        have c0 : w3.drew.cell? ⟨p, 0, none⟩ = some (.int .i64 x.1) := h3.drew.cell 0
        have c1 : w3.drew.cell? ⟨p, 1, none⟩ = some (.int .i64 x.2) := h3.drew.cell 1
        have c5 : w3.drew.cell? ⟨r, 5, none⟩ = some (.bool T.marked) := h4.drew.cell 5
        have c6 : w3.drew.cell? ⟨r, 6, none⟩ = some (.int .i64 T.high) := h4.drew.cell 6
        have f6 : w3.frozen? ⟨r, 6, none⟩ = false := h4.frozen 6
        have f5 : w3.frozen? ⟨r, 5, none⟩ = false := h4.frozen 5
        have k5 : w3.cell? ⟨r, 5, none⟩ = some (.bool T.marked) := h4.cell 5
        have k6 : w3.cell? ⟨r, 6, none⟩ = some (.int .i64 T.high) := h4.cell 6
        have k1 : w3.cell? ⟨p, 1, none⟩ = some (.int .i64 x.2) := h3.cell 1
        have k0 : w3.cell? ⟨p, 0, none⟩ = some (.int .i64 x.1) := h3.cell 0
        have hne : r ≠ p := (h4.arr [0, 2, 1]).ne
        have hne2 : p ≠ r := hne.symm
        have h5 := h4.drew
        have hfin : ∀ W hh, Hold W (cellsA r 73 [.int .i64 T.d, .int .i64 T.lo, .int .i64 T.hi, .int .i64 T.cp, .slice ao7 (B.eraseIdx k).length cap7, .bool true, .int .i64 hh] :: rowA 59 2 ao7 (B.eraseIdx k).length cap7 (ents (B.eraseIdx k)) :: cellsA p 59 [.int .i64 x.1, .int .i64 x.2] :: L) → hh = (if T.marked = false ∨ T.high < x.1 then x.1 else T.high) → Hold W (rfA r { T with L := B.eraseIdx k, marked := true, high := if T.marked = false ∨ T.high < x.1 then x.1 else T.high } :: L) := fun W hh hW he => by
          subst he
          exact rf_close (T := { T with L := B.eraseIdx k, marked := true, high := if T.marked = false ∨ T.high < x.1 then x.1 else T.high }) ((hW.mv 2).drop)
        have HFIN := Lib.hid hfin
        have H5 := Lib.hid h5
        obtain ⟨mk, hmk⟩ : ∃ mk, T.marked = mk := ⟨_, rfl⟩
        have HMK := Lib.hid hmk
        rw [hmk] at c5 k5
        clear hfin hmk h3 h4 h5
        have hgt : mk = false ∨ mk = true ∧ T.high < x.1 ∨ mk = true ∧ x.1 ≤ T.high := by cases mk <;> simp <;> omega
        rcases hgt with rfl | ⟨rfl, hgt⟩ | ⟨rfl, hgt⟩
        · have hx9 := HX.out; clear hx9
          refine wp_region_Z (fun W => W.cell? ⟨p, 0, none⟩ = some (.int .i64 x.1) ∧ W.cell? ⟨r, 5, none⟩ = some (.bool false) ∧ W.cell? ⟨r, 6, none⟩ = some (.int .i64 T.high)) [3, 7, 11] [] [0, 1, 2, 4, 5, 6, 8, 9, 10, 12, 13] [0, 1, 2, 3, 4, 5, 6, 7, 8, 9, 10, 11, 12, 13] (by kernel_rfl) (by kernel_rfl) ?_
          (repeat (first | (refine wpZ_st (v := ?_) _ (by rfl) (by rfl) (by rfl) (fun W hW => ?_) (by exact ⟨c0, c5, c6⟩) ?_; (rotate_left; (focus ((try dsimp only at hW); go_simp; (try with_reducible rfl); done))); try simp only [Act.put, List.getElem_toArray, List.getElem_cons_zero, List.getElem_cons_succ, List.setIfInBounds_toArray, List.set_cons_zero, List.set_cons_succ]) | (refine wpZ_pu (v := ?_) _ (by rfl) (by rfl) (by rfl) (by rfl) (fun W => ?_) ?_; (rotate_left; (focus ((try dsimp only at hW); go_simp; (try with_reducible rfl); done))); try simp only [Act.put, List.getElem_toArray, List.getElem_cons_zero, List.getElem_cons_succ, List.setIfInBounds_toArray, List.set_cons_zero, List.set_cons_succ]) | (refine wpZ_no _ (by rfl) (by rfl) (by rfl) (by rfl) ?_; try simp only [Act.put, List.getElem_toArray, List.getElem_cons_zero, List.getElem_cons_succ, List.setIfInBounds_toArray, List.set_cons_zero, List.set_cons_succ]) | (refine wpZ_noS _ (by rfl) (by rfl) (by rfl) (by exact ⟨c0, c5, c6⟩) ?_; try simp only [Act.put, List.getElem_toArray, List.getElem_cons_zero, List.getElem_cons_succ, List.setIfInBounds_toArray, List.set_cons_zero, List.set_cons_succ])))
          (simp only [wpZ])
          go_wp2
          go_ret3
          exact .inr ⟨HEQ.out, k, x, ⟨by rw [← HB.out, HBL.out]; exact hk, fun j hj => by rw [← HB.out] at hj ⊢; rw [HBL.out] at hj; exact HPL.out j hj⟩, by rw [← HB.out]; exact HX.out, rfl, by rw [← HB.out]; exact HFIN.out _ x.1 ((H5.out.st 6 (.int .i64 x.1)).st 5 (.bool true)) (by rw [if_pos (.inl HMK.out)])⟩
        · have HGT := Lib.hid hgt
          refine wp_region_Z (fun W => W.cell? ⟨p, 0, none⟩ = some (.int .i64 x.1) ∧ W.cell? ⟨r, 5, none⟩ = some (.bool true) ∧ W.cell? ⟨r, 6, none⟩ = some (.int .i64 T.high)) [3, 7, 11] [] [0, 1, 2, 4, 5, 6, 8, 9, 10, 12, 13] [0, 1, 2, 3, 4, 5, 6, 7, 8, 9, 10, 11, 12, 13] (by kernel_rfl) (by kernel_rfl) ?_
          (repeat (first | (refine wpZ_st (v := ?_) _ (by rfl) (by rfl) (by rfl) (fun W hW => ?_) (by exact ⟨c0, c5, c6⟩) ?_; (rotate_left; (focus ((try dsimp only at hW); go_simp; (try with_reducible rfl); done))); try simp only [Act.put, List.getElem_toArray, List.getElem_cons_zero, List.getElem_cons_succ, List.setIfInBounds_toArray, List.set_cons_zero, List.set_cons_succ]) | (refine wpZ_pu (v := ?_) _ (by rfl) (by rfl) (by rfl) (by rfl) (fun W => ?_) ?_; (rotate_left; (focus ((try dsimp only at hW); go_simp; (try with_reducible rfl); done))); try simp only [Act.put, List.getElem_toArray, List.getElem_cons_zero, List.getElem_cons_succ, List.setIfInBounds_toArray, List.set_cons_zero, List.set_cons_succ]) | (refine wpZ_no _ (by rfl) (by rfl) (by rfl) (by rfl) ?_; try simp only [Act.put, List.getElem_toArray, List.getElem_cons_zero, List.getElem_cons_succ, List.setIfInBounds_toArray, List.set_cons_zero, List.set_cons_succ]) | (refine wpZ_noS _ (by rfl) (by rfl) (by rfl) (by exact ⟨c0, c5, c6⟩) ?_; try simp only [Act.put, List.getElem_toArray, List.getElem_cons_zero, List.getElem_cons_succ, List.setIfInBounds_toArray, List.set_cons_zero, List.set_cons_succ])))
          (simp only [wpZ])
          go_wp2
          go_ret3
          exact .inr ⟨HEQ.out, k, x, ⟨by rw [← HB.out, HBL.out]; exact hk, fun j hj => by rw [← HB.out] at hj ⊢; rw [HBL.out] at hj; exact HPL.out j hj⟩, by rw [← HB.out]; exact HX.out, rfl, by rw [← HB.out]; exact HFIN.out _ x.1 ((H5.out.st 6 (.int .i64 x.1)).st 5 (.bool true)) (by rw [if_pos (.inr HGT.out)])⟩
        · have HNO : Hid (¬ (T.marked = false ∨ T.high < x.1)) := Lib.hid (by rw [HMK.out]; rintro (h | h); exact Bool.noConfusion h; omega)
          refine wp_region_Z (fun W => W.cell? ⟨p, 0, none⟩ = some (.int .i64 x.1) ∧ W.cell? ⟨r, 5, none⟩ = some (.bool true) ∧ W.cell? ⟨r, 6, none⟩ = some (.int .i64 T.high)) [3, 7, 11] [] [0, 1, 2, 4, 5, 6, 8, 9, 10, 12, 13] [0, 1, 2, 3, 4, 5, 6, 7, 8, 9, 10, 11, 12, 13] (by kernel_rfl) (by kernel_rfl) ?_
          (repeat (first | (refine wpZ_st (v := ?_) _ (by rfl) (by rfl) (by rfl) (fun W hW => ?_) (by exact ⟨c0, c5, c6⟩) ?_; (rotate_left; (focus ((try dsimp only at hW); go_simp; (try with_reducible rfl); done))); try simp only [Act.put, List.getElem_toArray, List.getElem_cons_zero, List.getElem_cons_succ, List.setIfInBounds_toArray, List.set_cons_zero, List.set_cons_succ]) | (refine wpZ_pu (v := ?_) _ (by rfl) (by rfl) (by rfl) (by rfl) (fun W => ?_) ?_; (rotate_left; (focus ((try dsimp only at hW); go_simp; (try with_reducible rfl); done))); try simp only [Act.put, List.getElem_toArray, List.getElem_cons_zero, List.getElem_cons_succ, List.setIfInBounds_toArray, List.set_cons_zero, List.set_cons_succ]) | (refine wpZ_no _ (by rfl) (by rfl) (by rfl) (by rfl) ?_; try simp only [Act.put, List.getElem_toArray, List.getElem_cons_zero, List.getElem_cons_succ, List.setIfInBounds_toArray, List.set_cons_zero, List.set_cons_succ]) | (refine wpZ_noS _ (by rfl) (by rfl) (by rfl) (by exact ⟨c0, c5, c6⟩) ?_; try simp only [Act.put, List.getElem_toArray, List.getElem_cons_zero, List.getElem_cons_succ, List.setIfInBounds_toArray, List.set_cons_zero, List.set_cons_succ])))
          (simp only [wpZ])
          go_wp2
          go_ret3
          exact .inr ⟨HEQ.out, k, x, ⟨by rw [← HB.out, HBL.out]; exact hk, fun j hj => by rw [← HB.out] at hj ⊢; rw [HBL.out] at hj; exact HPL.out j hj⟩, by rw [← HB.out]; exact HX.out, rfl, by rw [← HB.out]; exact HFIN.out _ T.high (H5.out.st 5 (.bool true)) (by rw [if_neg HNO.out])⟩

end Go.Proofs.Ytpffofliemooiaa
