/- What All gives: the iterator's contract. -/
import Derived.Test.YtpffofliemooiaaBuT
open Go.RowKit Go.Own
namespace Go.Proofs.Ytpffofliemooiaa
attribute [local go_sem] Oper.semAt_some

theorem sl_take : ∀ (rows : List (List Int)) (vs : List (Option Addr × Nat)) (k : Nat), sl (rows.take k) (vs.take k) = (sl rows vs).take k
  | [], vs, k => by cases vs <;> simp [sl]
  | _ :: _, [], k => by cases k <;> simp [sl]
  | x :: rows, v :: vs, 0 => rfl
  | x :: rows, v :: vs, k + 1 => by simp [sl, sl_take rows vs k]
theorem sl_snoc : ∀ {rows : List (List Int)} {vs : List (Option Addr × Nat)} (xs : List Int) (v : Option Addr × Nat), vs.length = rows.length → sl (rows ++ [xs]) (vs ++ [v]) = sl rows vs ++ [.slice v.1 xs.length v.2]
  | [], [], _, _, _ => rfl
  | x :: rows, u :: vs, xs, v, h => by simp [sl, sl_snoc (rows := rows) (vs := vs) xs v (by simpa using h)]
theorem rws_snoc : ∀ {rows : List (List Int)} {vs : List (Option Addr × Nat)} (xs : List Int) (v : Option Addr × Nat), vs.length = rows.length → rws (rows ++ [xs]) (vs ++ [v]) = rws rows vs ++ [rowA 3 1 v.1 xs.length v.2 (is xs)]
  | [], [], _, _, _ => rfl
  | x :: rows, u :: vs, xs, v, h => by simp [rws, rws_snoc (rows := rows) (vs := vs) xs v (by simpa using h)]

theorem row_at {w : World} {E : TypeId} {sz b o n cap : Nat} {xs : List Value} {L : List Asn} (h : Hold w (rowA E sz (some ⟨b, o, none⟩) n cap xs :: L)) (hn : 0 < n) : (∀ j, j < n * sz → w.cell? ⟨b, o + j, none⟩ = xs[j]?) ∧ ∀ j, w.frozen? ⟨b, j, none⟩ = false := by
  obtain ⟨b', o', he, h1, h2⟩ := h.at hn
  simp only [Option.some.injEq, Addr.mk.injEq, and_true] at he
  obtain ⟨rfl, rfl⟩ := he
  exact ⟨h1, h2⟩
theorem rd_at {W : World} {b o n c : Nat} {xs : List Value} {S : List Nat} (h : Rd W 1 (.slice (some ⟨b, o, none⟩) n c) n xs S) {j : Nat} (hj : j < n) : W.cell? ⟨b, o + j, none⟩ = xs[j]? := by
  obtain ⟨b', o', he, -, -, h1⟩ := h.addr (by omega)
  simp only [Option.some.injEq, Addr.mk.injEq, and_true] at he
  obtain ⟨rfl, rfl⟩ := he
  exact h1 j (by omega)
theorem fill_at {A : List Value} {m k : Nat} {z u : Value} (hA : A.length = k) (hm : k < m) : (A ++ List.replicate (m - k) z)[k]? = some z ∧ (A ++ List.replicate (m - k) z).set k u = A ++ [u] ++ List.replicate (m - (k + 1)) z := by
  obtain ⟨r, hr⟩ : ∃ r, m - k = r + 1 := ⟨m - k - 1, by omega⟩
  rw [hr, show m - (k + 1) = r by omega]
  subst hA
  constructor
  · simp
  · simp [List.set_append, List.replicate_succ]
/-- Rows copied so far. -/
def CpRel (rows : List (List Int)) (ao : Option Addr) (T : List Asn) (iv : Value) (wr : World) : Prop :=
  ∃ (k : Nat) (vs2 : List (Option Addr × Nat)), k ≤ rows.length ∧ iv = .int .i64 k ∧ vs2.length = k ∧ Hold wr (rowA 24 1 ao rows.length rows.length (sl (rows.take k) vs2 ++ List.replicate (rows.length - k) (.slice none 0 0)) :: starL (rws (rows.take k) vs2) :: T)

def OutRel (R : List (Int × Int) → List Asn → Prop) (G : Asn) (base : Int) (rows : List (List Int)) (xs : List (Int × Int)) (kv : Value) (wr : World) : Prop :=
  ∃ (j : Nat) (pre : List (Int × Int)) (M : List Asn), j ≤ rows.length ∧ kv = .int .i64 ((j : Int) - 1) ∧ R pre M ∧ xs = pre ++ allTo base rows j ∧ Hold wr (G :: M)
def InRel (R : List (Int × Int) → List Asn → Prop) (G : Asn) (base : Int) (rows : List (List Int)) (xs : List (Int × Int)) (j : Nat) (row : List Int) (iv : Value) (wr : World) : Prop :=
  ∃ (i : Nat) (pre : List (Int × Int)) (M : List Asn), i ≤ row.length ∧ iv = .int .i64 ((i : Int) - 1) ∧ R pre M ∧ xs = pre ++ ((row.take i).reverse.map fun id => ((j : Int) + base, id)) ++ allTo base rows j ∧ Hold wr (G :: M)
def KpB (B b : Nat) (base : Int) (W : World) : Prop := W.cell? ⟨B, 0, none⟩ = some (.pointer (some ⟨b, 0, none⟩)) ∧ W.cell? ⟨b, 4, none⟩ = some (.int .i64 base)

set_option maxHeartbeats 2000000 in
set_option maxRecDepth 20000 in
theorem gives_ok (B b : Nat) (S : BS) (hc : 1 ≤ S.cp) (hR : S.rows.length ≤ 65536) (hx : ∀ xs ∈ S.rows, xs.length ≤ 65536) (hB : ∀ t : Nat, t < S.rows.length → I64 ((t : Int) + S.base)) :
    Gives Try.prog 33 #[.pointer (some ⟨B, 0, none⟩)] encE (KpB B b S.base) (allTo S.base S.rows S.rows.length) [cellsA B 25 [.pointer (some ⟨b, 0, none⟩)], bkA b S] := by
  intro l L R Rx W h h0 hKp hY
  obtain ⟨i24, hi4, hz0, hz1, hz2⟩ := info_parts info24
  obtain ⟨i3, hi3, hy0, hy1, hy2⟩ := info_parts info3
  have h1 : Hold W (bkA b S :: cellsA B 25 [.pointer (some ⟨b, 0, none⟩)] :: L) := h.swap
  obtain ⟨ro, rc, vs, hl, h2⟩ := bk_open h1
  have k0 : W.cell? ⟨B, 0, none⟩ = some (.pointer (some ⟨b, 0, none⟩)) := h.cell 0
  obtain ⟨g0, g1, g2, g3, g4, g5, g6, g7, g8, g9, g10⟩ := bkM h2
  have P := none_ok b S hc W g3
  have HR0 := Lib.hid h0
  have HKp := Lib.hid hKp
  have HY := Lib.hid hY
  have HX := Lib.hid hx
  have HB := Lib.hid hB
  have HL := Lib.hid hl
  obtain ⟨kk, hkk⟩ : ∃ kk, S.rows.length = kk := ⟨_, rfl⟩
  have HKK := Lib.hid hkk
  rw [hkk] at hR g5 h2
  clear h h1 h0 hKp hY hx hB hl hkk g0 g1 g2 g3 g4 g6 g7 g8 g9 g10
  show Calls Try.prog 33 #[.func (.yield l) #[] #[], .pointer (some ⟨B, 0, none⟩)] W _
  go_enter Try.func33, Try.ntmps33
  go_upto_region 2 with (first
    | (go_at_call 29; refine P.mono ?_; rintro e w1 ⟨rfl, rfl⟩)
    | ((with_reducible refine wpList_plain (o := ⟨some 15, _, _, _, _, _⟩) rfl (fun K hK => ?_)); refine wp_make_h _ _ 65 (by rfl) 24 i24 (.slice none 0 0) 1 24 Try.underlying65 hi4 hz0 hz1 hz2 .i64 .i64 kk kk (by rfl) (by rfl) (by omega) (by omega) (by omega) (by omega) h2 (fun ao w4 h4 => ?_); refine hK _ _ ?_; clear hK K; rw [Int.toNat_natCast, made_nil kk] at h4))
  have kb : Hold w4 (cellsA b 67 (S.cells (.slice ro kk rc)) :: rowA 24 1 ao kk kk (List.replicate kk (.slice none 0 0)) :: rowA 24 1 ro kk rc (sl S.rows vs) :: starL (rws S.rows vs) :: cellsA B 25 [.pointer (some ⟨b, 0, none⟩)] :: L) := h4.swap
  have kB := (h4.mv 4).cell 0
  (try dsimp only [Go.Own.front, Go.Own.arrA, Go.Own.atA, Go.Own.dropA, List.length_cons, List.length_nil, Nat.zero_add, Nat.reduceAdd] at kB)
  obtain ⟨g0, g1, g2, g3, g4, g5b, g6, g7, g8, g9, g10⟩ := bkM kb
  go_upto_block 0 with (fail)
  have hs0 : Hold w4 (rowA 24 1 ao kk kk (List.replicate kk (.slice none 0 0)) :: starL [] :: cellsA b 67 (S.cells (.slice ro kk rc)) :: rowA 24 1 ro kk rc (sl S.rows vs) :: starL (rws S.rows vs) :: cellsA B 25 [.pointer (some ⟨b, 0, none⟩)] :: L) := h4.nilL.swap
  clear h4 kb g0 g1 g2 g3 g4 g5b g6 g7 g8 g9 g10 h2 P k0 g5 kB
  go_wp2
  go_loopw [21] (fun iv wr => CpRel S.rows ao (cellsA b 67 (S.cells (.slice ro kk rc)) :: rowA 24 1 ro kk rc (sl S.rows vs) :: starL (rws S.rows vs) :: cellsA B 25 [.pointer (some ⟨b, 0, none⟩)] :: L) iv wr) (fun iv _ => kk - (intOf iv).toNat)
  case atStart => exact ⟨0, [], by omega, rfl, rfl, by rw [HKK.out]; simpa [sl, rws] using hs0⟩
  case round =>
    clear hs0
    obtain ⟨k, vs2, hk, rfl, hv2, hr⟩ := hrel
    rw [HKK.out] at hr hk
    by_cases hlt : k < kk
    · have hki : (k : Int) < kk := by omega
      have hk0 : 0 ≤ (k : Int) := by omega
      obtain ⟨xs, hxs⟩ : ∃ xs, S.rows[k]? = some xs := ⟨S.rows[k]'(by rw [HKK.out]; exact hlt), List.getElem?_eq_getElem _⟩
      have hxl : xs.length ≤ 65536 := HX.out xs (List.mem_of_getElem? hxs)
      obtain ⟨⟨va, vc⟩, hvk, hsl, hrw⟩ := sl_get HL.out hxs
      obtain ⟨rb, ro2, hroe, hct, -⟩ := (hr.mv 3).at (by omega)
      subst hroe
      have c1 : wr.cell? ⟨rb, ro2 + k, none⟩ = some (.slice va xs.length vc) := by rw [hct k (by omega)]; exact hsl
      obtain ⟨ab, ao2, rfl, -, haf⟩ := hr.at (by omega)
      have PM : ∀ (K : Act → World → Prop) (o : Oper) (a : Act), o.op = Op.makeSlice 24 (.tmp 29) (.tmp 29) → a.eval (.tmp 29) = .int .i64 xs.length → (∀ ao3 w5, Hold w5 (rowA 3 1 ao3 xs.length xs.length (((madeCells (Value.int .i64 0).cells (xs.length * 1)).toList).take (xs.length * 1)) :: rowA 24 1 (some ⟨ab, ao2, none⟩) kk kk (sl (S.rows.take k) vs2 ++ List.replicate (kk - k) (.slice none 0 0)) :: starL (rws (S.rows.take k) vs2) :: cellsA b 67 (S.cells (.slice (some ⟨rb, ro2, none⟩) kk rc)) :: rowA 24 1 (some ⟨rb, ro2, none⟩) kk rc (sl S.rows vs) :: starL (rws S.rows vs) :: cellsA B 25 [.pointer (some ⟨b, 0, none⟩)] :: L) → K (a.put o.dst (.slice ao3 xs.length xs.length)) w5) → ∀ Q, o.wp Try.prog a wr K Q := by
        intro K o a ho ha hK Q
        refine wp_make_h _ _ 24 ho 3 i3 (.int .i64 0) 1 8 Try.underlying24 hi3 hy0 hy1 hy2 .i64 .i64 xs.length xs.length ha ha (by omega) (by omega) (by omega) (by omega) hr (fun ao3 w5 h5 => ?_)
        rw [Int.toNat_natCast] at h5 ⊢
        exact hK ao3 w5 h5
      have HXS := Lib.hid (And.intro hxs (And.intro hvk hrw))
      have HV2 := Lib.hid hv2
      have hxl0 : 0 ≤ (xs.length : Int) := by omega
      clear hxs hvk hrw hsl hct hv2
      generalize hzs : ((madeCells (Value.int .i64 0).cells (xs.length * 1)).toList).take (xs.length * 1) = zs at PM
      have HZ := Lib.hid hzs
      clear hzs
      have hA : (sl (S.rows.take k) vs2).length = k := by
        rw [sl_length (by rw [HV2.out]; simp [HKK.out]; omega)]; simp [HKK.out]; omega
      have HA := Lib.hid hA
      clear hA
      go_upto_region 6 with ((with_reducible refine wpList_plain (o := ⟨some 30, _, _, _, _, _⟩) rfl (fun K hK => ?_)); refine PM _ _ _ (by rfl) (by rfl) (fun ao3 w5 h5 => ?_) _; refine hK _ _ ?_; clear hK K PM; have c5 : w5.cell? ⟨ab, ao2 + k, none⟩ = some (.slice none 0 0) := by { rw [(row_at (h5.mv 1) (by omega)).1 k (by omega)]; exact (fill_at (u := undef) HA.out hlt).1 }; have f5 := (row_at (h5.mv 1) (by omega)).2 (ao2 + k))
      have h6 := (h5.mv 1).put k (by omega) (.slice ao3 xs.length xs.length)
      rw [(fill_at HA.out hlt).2] at h6
      refine gen_world h6 (fun w6 h6 => ?_)
      clear c5 f5 h5 hr c1 haf
      have c6 : w6.cell? ⟨ab, ao2 + k, none⟩ = some (.slice ao3 xs.length xs.length) := by
        rw [(row_at h6 (by omega)).1 k (by omega), List.append_assoc, List.getElem?_append_right (by rw [HA.out]; exact Nat.le_refl _), HA.out]; simp
      have hsrc := Reads.ofL HXS.out.2.2 (Reads.row 3 1 va xs.length vc (is xs))
      obtain ⟨Sx, hrd⟩ := (h6.mv 5).reads hsrc
      have h7 := h6.mv 1
      (try dsimp only [Go.Own.front, Go.Own.arrA, Go.Own.atA, Go.Own.dropA, List.length_cons, List.length_nil, Nat.zero_add, Nat.reduceAdd] at h7)
      have h18 : ∀ u ∈ is xs, u.oneCell' = true := by
        intro u hu
        simp only [is, List.mem_map] at hu
        obtain ⟨y, -, rfl⟩ := hu
        rfl
      have H18 := Lib.hid h18
      have HRD := Lib.hid hrd
      clear h18 hrd hsrc
      go_wp2_with ((with_reducible refine wpList_plain (o := ⟨some 37, _, _, _, _, _⟩) rfl (fun K hK => ?_)); refine wp_copy_h _ _ 24 24 (by rfl) 3 Try.underlying24 (by kernel_rfl) ao3 xs.length xs.length zs h7 0 ao3 xs.length xs.length (by rfl) (.inr (by cases ao3 <;> rfl)) (by omega) (.slice va xs.length vc) xs.length (is xs) Sx (by rfl) HRD.out H18.out (fun w8 h8 => ?_); refine hK _ _ ?_; clear hK K)
      go_roundw
      case rel =>
        refine ⟨k + 1, vs2 ++ [(ao3, xs.length)], by rw [HKK.out]; omega, by go_num, by simp [HV2.out], ?_⟩
        have hzl : zs.length = xs.length * 1 := h7.bounds.1
        have e1 : zs.take 0 ++ (is xs).take (Nat.min xs.length xs.length) ++ zs.drop (0 + Nat.min xs.length xs.length) = is xs := by
          have : (is xs).length = xs.length := is_length xs
          simp only [Nat.zero_add, List.take_zero, List.nil_append, show Nat.min xs.length xs.length = xs.length from Nat.min_self _]
          rw [List.take_of_length_le (by rw [this]; exact Nat.le_refl _), List.drop_of_length_le (by rw [hzl]; omega), List.append_nil]
        have e2 : S.rows.take (k + 1) = S.rows.take k ++ [xs] := by rw [List.take_add_one, HXS.out.1]; rfl
        have hvl : vs2.length = (S.rows.take k).length := by rw [HV2.out]; simp [HKK.out]; omega
        rw [e1] at h8
        have h9 := (h8.arr [0, 2, 1]).addL.swap
        rw [HKK.out, e2, sl_snoc xs (ao3, xs.length) hvl, rws_snoc xs (ao3, xs.length) hvl]
        exact h9
      case measure => simp [intOf]; omega
    · obtain rfl : k = kk := by omega
      have hv3 : vs2.length = S.rows.length := by rw [HKK.out]; exact hv2
      rw [show S.rows.take k = S.rows from List.take_of_length_le (by rw [HKK.out]; exact Nat.le_refl _), Nat.sub_self, List.replicate_zero, List.append_nil] at hr
      have h3 : Hold wr (starA (rowA 24 1 ao k k (sl S.rows vs2)) (starL (rws S.rows vs2)) :: cellsA B 25 [.pointer (some ⟨b, 0, none⟩)] :: bkA b S :: L) := by
        refine Hold.star.2 ?_
        have h4 := hr.arr [2, 3, 4, 0, 1, 5]
        have h5 : Hold wr (bkA b S :: rowA 24 1 ao k k (sl S.rows vs2) :: starL (rws S.rows vs2) :: cellsA B 25 [.pointer (some ⟨b, 0, none⟩)] :: L) := by
          refine bk_close (ro := ro) (rc := rc) HL.out ?_
          rw [HKK.out]; exact h4
        exact h5.arr [1, 2, 3, 0]
      generalize hGe : starA (rowA 24 1 ao k k (sl S.rows vs2)) (starL (rws S.rows vs2)) = G at h3
      have HGE := Lib.hid hGe
      clear hGe hr
      have hk0 : 0 ≤ (k : Int) := by omega
      have hki : (k : Int) ≤ 65536 := by omega
      go_upto_block 2 with (fail)
      go_wp2
      go_loopw [6] (fun kv wr => OutRel R G S.base S.rows (allTo S.base S.rows S.rows.length) kv wr) (fun kv _ => (intOf kv + 1).toNat)
      case atStart => 
        exact ⟨k, [], _, by rw [HKK.out]; exact Nat.le_refl _, rfl, HR0.out, by rw [HKK.out]; rfl, h3⟩
      case round =>
        clear h3 hv2
        obtain ⟨j, pre, M, hj, rfl, hRM, hxs, hr⟩ := hrel
        rw [HKK.out] at hj
        rcases j with _ | j
        · -- all given
          have e0 : (((0 : Nat) : Int) - 1) = -1 := rfl
          rw [e0]
          go_wp2
          go_end0
          rw [allTo, List.append_nil] at hxs
          exact ⟨⟨_, rfl⟩, M, .inl (hxs ▸ hRM), hr.drop⟩
        · have e0 : (((j + 1 : Nat) : Int) - 1) = j := by omega
          rw [e0]
          obtain ⟨row, hrow⟩ : ∃ row, S.rows[j]? = some row := ⟨S.rows[j]'(by rw [HKK.out]; omega), List.getElem?_eq_getElem _⟩
          have hgd : S.rows.getD j [] = row := by simp [List.getD, hrow]
          have hrl : (row.length : Int) ≤ 65536 := by have := HX.out row (List.mem_of_getElem? hrow); omega
          have hrl0 : 0 ≤ (row.length : Int) := by omega
          obtain ⟨⟨va, vc⟩, -, hsl, hrw⟩ := sl_get hv3 hrow
          have hjk : (j : Int) < k := by omega
          have hj0 : 0 ≤ (j : Int) := by omega
          obtain ⟨hb1, hb2⟩ := HB.out j (by rw [HKK.out]; omega)
          -- what of G is read
          have hG1 : Hold wr (rowA 24 1 ao k k (sl S.rows vs2) :: starL (rws S.rows vs2) :: M) := Hold.star.1 (HGE.out ▸ hr)
          obtain ⟨ab, ao2, rfl, -, -⟩ := hG1.at (by omega)
          have GR : ∀ W M, Hold W (G :: M) → W.cell? ⟨ab, ao2 + j, none⟩ = some (.slice va row.length vc) := fun W M hW => by
            have h9 : Hold W (rowA 24 1 (some ⟨ab, ao2, none⟩) k k (sl S.rows vs2) :: starL (rws S.rows vs2) :: M) := Hold.star.1 (HGE.out ▸ hW)
            rw [(row_at h9 (by omega)).1 j (by omega)]; exact hsl
          have GI : ∀ W M, Hold W (G :: M) → ∃ Sx, Rd W 1 (.slice va row.length vc) row.length (is row) Sx := fun W M hW => by
            have h9 : Hold W (rowA 24 1 (some ⟨ab, ao2, none⟩) k k (sl S.rows vs2) :: starL (rws S.rows vs2) :: M) := Hold.star.1 (HGE.out ▸ hW)
            exact (h9.mv 1).reads (Reads.ofL hrw (Reads.row 3 1 va row.length vc (is row)))
          have HGR := Lib.hid GR
          have HGI := Lib.hid GI
          have c1 := GR _ _ hr
          have HRW := Lib.hid (And.intro hrow hgd)
          rw [allTo, hgd] at hxs
          clear hG1 GR GI hsl hrw hrow hgd
          go_upto_block 4 with (fail)
          clear c1
          go_wp2
          go_loopw [7] (fun iv wr => InRel R G S.base S.rows (allTo S.base S.rows S.rows.length) j row iv wr) (fun iv _ => (intOf iv + 1).toNat)
          case atStart =>
            refine ⟨row.length, pre, M, Nat.le_refl _, rfl, hRM, ?_, hr⟩
            rw [List.take_of_length_le (Nat.le_refl _), hxs, List.append_assoc]
          case round =>
            clear hr hxs hRM
            obtain ⟨i, pre2, M2, hi, rfl, hRM, hxs, hr⟩ := hrel
            rcases i with _ | i
            · have e1 : (((0 : Nat) : Int) - 1) = -1 := rfl
              rw [e1]
              go_wp2
              go_roundw
              case rel =>
                refine ⟨j, pre2, M2, by rw [HKK.out]; omega, by go_num, hRM, by simpa using hxs, hr⟩
              case measure => (simp [intOf] <;> omega)
            · have e1 : (((i + 1 : Nat) : Int) - 1) = i := by omega
              rw [e1]
              have hir : (i : Int) < row.length := by omega
              have hi0 : 0 ≤ (i : Int) := by omega
              obtain ⟨hk1, hk2⟩ := HKp.out pre2 M2 _ (.inl hRM) hr.drop
              have hil : i < row.length := by omega
              have hgi : row[i]? = some row[i] := List.getElem?_eq_getElem hil
              generalize row[i] = id at hgi
              have e2 : row.take (i + 1) = row.take i ++ [id] := by rw [List.take_add_one, hgi]; rfl
              have hxs2 : allTo S.base S.rows S.rows.length = pre2 ++ ((j : Int) + S.base, id) :: (((row.take i).reverse.map fun id => ((j : Int) + S.base, id)) ++ allTo S.base S.rows j) := by
                rw [hxs, e2]; simp
              have hW := hr.drew
              obtain ⟨fn, tmps, asg, body, hy, hR9⟩ := HY.out pre2 _ _ hxs2 _ G M2 hRM hW
              have hx3 : allTo S.base S.rows S.rows.length = (pre2 ++ [((j : Int) + S.base, id)]) ++ ((row.take i).reverse.map fun id => ((j : Int) + S.base, id)) ++ allTo S.base S.rows j := by
                rw [hxs2]; simp
              have c1 := HGR.out _ _ hW
              obtain ⟨Sx, hrd⟩ := HGI.out _ _ hW
              obtain ⟨vb, vo, rfl, -, -, hct⟩ := hrd.addr (by omega)
              have c2 : wr.drew.cell? ⟨vb, vo + i, none⟩ = some (.int .i64 id) := by rw [hct i (by omega)]; simp [is, hgi]
              have HID : Hid ((is row)[i]? = some (.int .i64 id)) := Lib.hid (by simp [is, hgi])
              have hHX := Lib.hid hx3
              have W1 : IntKind.i64.wrap ((j : Int) + S.base) = (j : Int) + S.base := IntWalk.i64_in _ ⟨hb1, hb2⟩
              clear hxs hxs2 hx3 hct hrd hgi e2
              dsimp only [encE] at hy
              go_upto_region 14 with (fail)
              refine (wpIn_wide (n := 9)).1 ?_
              refine wpIn_region_I (ro := none) (fun W => W.cell? ⟨B, 0, none⟩ = some (.pointer (some ⟨b, 0, none⟩)) ∧ W.cell? ⟨b, 4, none⟩ = some (.int .i64 S.base) ∧ W.cell? ⟨ab, ao2 + j, none⟩ = some (.slice (some ⟨vb, vo, none⟩) row.length vc) ∧ W.cell? ⟨vb, vo + i, none⟩ = some (.int .i64 id)) [2, 5, 10, 13] [] [0, 1, 3, 4, 6, 7, 8, 9, 11, 12, 15] [0, 1, 2, 3, 4, 5, 6, 7, 8, 9, 10, 11, 12, 13, 14, 15] (by kernel_rfl) (by kernel_rfl) ?_
              (repeat (first | (refine wpI_st (v := ?_) _ (by rfl) (by rfl) (by rfl) (fun W hW => ?_) (by exact ⟨hk1, hk2, c1, c2⟩) ?_; (rotate_left; (focus ((try dsimp only at hW); go_simp; (try with_reducible rfl); done))); try simp only [Act.put, List.getElem_toArray, List.getElem_cons_zero, List.getElem_cons_succ, List.setIfInBounds_toArray, List.set_cons_zero, List.set_cons_succ]) | (refine wpI_pu (v := ?_) _ (by rfl) (by rfl) (by rfl) (by rfl) (fun W => ?_) ?_; (rotate_left; (focus ((try dsimp only at hW); go_simp; (try with_reducible rfl); done))); try simp only [Act.put, List.getElem_toArray, List.getElem_cons_zero, List.getElem_cons_succ, List.setIfInBounds_toArray, List.set_cons_zero, List.set_cons_succ]) | (refine wpI_no _ (by rfl) (by rfl) (by rfl) (by rfl) ?_; try simp only [Act.put, List.getElem_toArray, List.getElem_cons_zero, List.getElem_cons_succ, List.setIfInBounds_toArray, List.set_cons_zero, List.set_cons_succ]) | (refine wpI_noS _ (by rfl) (by rfl) (by rfl) (by exact ⟨hk1, hk2, c1, c2⟩) ?_; try simp only [Act.put, List.getElem_toArray, List.getElem_cons_zero, List.getElem_cons_succ, List.setIfInBounds_toArray, List.set_cons_zero, List.set_cons_succ])))
              refine wpI_eff _ (by rfl) (by rfl) (by rfl) (by rfl) (fun K hK => ?_)
              go_simp
              refine (hR9 _).mono ?_
              rintro e W' (⟨rfl, M', hR', hH'⟩ | ⟨rfl, M', hR', hH'⟩)
              · obtain ⟨hm1, hm2⟩ := HKp.out _ M' _ (.inl hR') hH'.drop
                have d1 := HGR.out _ _ hH'
                obtain ⟨Sy, hrd2⟩ := HGI.out _ _ hH'
                have d2 : W'.cell? ⟨vb, vo + i, none⟩ = some (.int .i64 id) := by rw [rd_at hrd2 (by omega)]; exact HID.out
                dsimp only
                (refine hK _ _ (fun hl => ?_) ?_; (first | (focus (cases hl; done)) | exact ⟨hm1, hm2, d1, d2⟩); clear hK K; try simp only [Act.put, List.getElem_toArray, List.getElem_cons_zero, List.getElem_cons_succ, List.setIfInBounds_toArray, List.set_cons_zero, List.set_cons_succ])
                (repeat (first | (refine wpI_st (v := ?_) _ (by rfl) (by rfl) (by rfl) (fun W hW => ?_) (by exact ⟨hm1, hm2, d1, d2⟩) ?_; (rotate_left; (focus ((try dsimp only at hW); go_simp; (try with_reducible rfl); done))); try simp only [Act.put, List.getElem_toArray, List.getElem_cons_zero, List.getElem_cons_succ, List.setIfInBounds_toArray, List.set_cons_zero, List.set_cons_succ]) | (refine wpI_pu (v := ?_) _ (by rfl) (by rfl) (by rfl) (by rfl) (fun W => ?_) ?_; (rotate_left; (focus ((try dsimp only at hW); go_simp; (try with_reducible rfl); done))); try simp only [Act.put, List.getElem_toArray, List.getElem_cons_zero, List.getElem_cons_succ, List.setIfInBounds_toArray, List.set_cons_zero, List.set_cons_succ]) | (refine wpI_no _ (by rfl) (by rfl) (by rfl) (by rfl) ?_; try simp only [Act.put, List.getElem_toArray, List.getElem_cons_zero, List.getElem_cons_succ, List.setIfInBounds_toArray, List.set_cons_zero, List.set_cons_succ]) | (refine wpI_noS _ (by rfl) (by rfl) (by rfl) (by exact ⟨hm1, hm2, d1, d2⟩) ?_; try simp only [Act.put, List.getElem_toArray, List.getElem_cons_zero, List.getElem_cons_succ, List.setIfInBounds_toArray, List.set_cons_zero, List.set_cons_succ])))
                (simp only [wpI])
                go_wp2
                go_roundw
                case rel => exact ⟨i, pre2 ++ [((j : Int) + S.base, id)], M', by omega, by go_num, hR', hHX.out, hH'⟩
                case measure => (simp [intOf] <;> omega)
              · obtain ⟨hm1, hm2⟩ := HKp.out _ M' _ (.inr hR') hH'.drop
                have d1 := HGR.out _ _ hH'
                obtain ⟨Sy, hrd2⟩ := HGI.out _ _ hH'
                have d2 : W'.cell? ⟨vb, vo + i, none⟩ = some (.int .i64 id) := by rw [rd_at hrd2 (by omega)]; exact HID.out
                dsimp only
                (refine hK _ _ (fun hl => ?_) ?_; (first | (focus (cases hl; done)) | exact ⟨hm1, hm2, d1, d2⟩); clear hK K; try simp only [Act.put, List.getElem_toArray, List.getElem_cons_zero, List.getElem_cons_succ, List.setIfInBounds_toArray, List.set_cons_zero, List.set_cons_succ])
                (repeat (first | (refine wpI_st (v := ?_) _ (by rfl) (by rfl) (by rfl) (fun W hW => ?_) (by exact ⟨hm1, hm2, d1, d2⟩) ?_; (rotate_left; (focus ((try dsimp only at hW); go_simp; (try with_reducible rfl); done))); try simp only [Act.put, List.getElem_toArray, List.getElem_cons_zero, List.getElem_cons_succ, List.setIfInBounds_toArray, List.set_cons_zero, List.set_cons_succ]) | (refine wpI_pu (v := ?_) _ (by rfl) (by rfl) (by rfl) (by rfl) (fun W => ?_) ?_; (rotate_left; (focus ((try dsimp only at hW); go_simp; (try with_reducible rfl); done))); try simp only [Act.put, List.getElem_toArray, List.getElem_cons_zero, List.getElem_cons_succ, List.setIfInBounds_toArray, List.set_cons_zero, List.set_cons_succ]) | (refine wpI_no _ (by rfl) (by rfl) (by rfl) (by rfl) ?_; try simp only [Act.put, List.getElem_toArray, List.getElem_cons_zero, List.getElem_cons_succ, List.setIfInBounds_toArray, List.set_cons_zero, List.set_cons_succ]) | (refine wpI_noS _ (by rfl) (by rfl) (by rfl) (by exact ⟨hm1, hm2, d1, d2⟩) ?_; try simp only [Act.put, List.getElem_toArray, List.getElem_cons_zero, List.getElem_cons_succ, List.setIfInBounds_toArray, List.set_cons_zero, List.set_cons_succ])))
                (simp only [wpI])
                go_wp2
                refine bodyPost_ret (results_none rfl _ _ _) rfl ?_
                exact ⟨⟨_, rfl⟩, M', .inr ⟨pre2 ++ [((j : Int) + S.base, id)], ⟨_, by rw [hHX.out, List.append_assoc (pre2 ++ _)]⟩, hR'⟩, hH'.drop⟩

end Go.Proofs.Ytpffofliemooiaa
