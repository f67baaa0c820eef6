/- Contracts: rows of counts. -/
import Derived.Test.YtklokbmpapjjiaaCtD
open Go.RowKit Go.Own
namespace Go.Proofs.Ytklokbmpapjjiaa

theorem addV_lv (s : SV) (x y : Nat) : (addV s x y).lv = s.lv := by unfold addV; split <;> rfl

/-- A row of bits and levels counted from place i on: the counts, where it stopped, and the error. -/
def rowL : SV → List UInt8 → List UInt8 → Nat → SV × Nat × Nat
  | s, x :: xs, y :: ys, i => if addE s x.toNat y.toNat = 0 then rowL (addV s x.toNat y.toNat) xs ys (i + 1) else (s, i, addE s x.toNat y.toNat)
  | s, _, _, i => (s, i, 0)
def rowR (s : SV) (x y : List UInt8) : SV × Nat × Nat := if x.length = y.length then rowL s x y 0 else (s, 0, 5)

theorem rowL_at {s : SV} {X Y : List UInt8} {k : Nat} (h1 : k < X.length) (h2 : k < Y.length) : rowL s (X.drop k) (Y.drop k) k = if addE s (X[k]).toNat (Y[k]).toNat = 0 then rowL (addV s (X[k]).toNat (Y[k]).toNat) (X.drop (k + 1)) (Y.drop (k + 1)) (k + 1) else (s, k, addE s (X[k]).toNat (Y[k]).toNat) := by
  rw [List.drop_eq_getElem_cons h1, List.drop_eq_getElem_cons h2, rowL]
theorem rowL_end {s : SV} {X Y : List UInt8} {k : Nat} (h1 : X.length ≤ k) : rowL s (X.drop k) (Y.drop k) k = (s, k, 0) := by
  rw [List.drop_eq_nil_of_le h1, rowL]
  simp

def RowsRel (n : Nat) (b t : Nat) (en : SV → List Value) (C : Asn) (L : List Asn) (lv : Int) (X Y : List UInt8) (r : SV × Nat × Nat) (i : Value) (wr : World) : Prop := ∃ (k : Nat) (s : SV), k ≤ n ∧ i = .int .i64 k ∧ s.lv = lv ∧ rowL s (X.drop k) (Y.drop k) k = r ∧ Hold wr (cellsA b t (en s) :: C :: L)

set_option maxHeartbeats 8000000 in
set_option maxRecDepth 20000 in
theorem cntrow_ok (s : SV) (hl : s.lv ≤ 16) (b : Nat) (x y : List UInt8) (C : Asn) (ax ay : Option Addr) (n cx m cy : Nat) (hX : Reads C 1 (.slice ax n cx) n (ub x)) (hY : Reads C 1 (.slice ay m cy) m (ub y)) (w : World) (L : List Asn) (h : Hold w (cellsA b 85 (encC s) :: C :: L)) :
    Calls Try.prog 49 #[.pointer (some ⟨b, 0, none⟩), .slice ax n cx, .slice ay m cy] w fun e w' => e = .returned (.tuple #[.int .i64 (rowR s x y).2.1, .int .i64 (rowR s x y).2.2]) ∧ Hold w' (cellsA b 85 (encC (rowR s x y).1) :: C :: L) := by
  obtain ⟨S1, r1⟩ := (h.mv 1).reads hX
  obtain ⟨S2, r2⟩ := (h.mv 1).reads hY
  obtain ⟨hx1, hx2, hx3⟩ := r1.bounds
  obtain ⟨hy1, hy2, hy3⟩ := r2.bounds
  have hxl : x.length = n := by simpa using hx1
  have hyl : y.length = m := by simpa using hy1
  unfold maxLen at hx3 hy3
  clear r1 r2 hx1 hy1 S1 S2
  by_cases hnm : n = m
  · subst hnm
    have hE : rowR s x y = rowL s x y 0 := by rw [rowR, if_pos (by omega)]
    rw [hE]
    have HS : rowL s (x.drop 0) (y.drop 0) 0 = rowL s x y 0 := by simp
    generalize rowL s x y 0 = r at HS
    clear hE
    have HX := Lib.hid hX
    have HY := Lib.hid hY
    have HS := Lib.hid HS
    have HL := Lib.hid hl
    have HA := Lib.hid hxl
    have HB := Lib.hid hyl
    clear hX hY hl hxl hyl hy2 hy3
    go_enter Try.func49, Try.ntmps49
    go_wp2_with (go_at_call 44; refine (cgood_ok s b _ _ h).mono ?_; rintro e w1 ⟨rfl, rfl⟩)
    go_loopw [20] (fun i wr => RowsRel n b 85 encC C L s.lv x y r i wr) (fun i _ => n - (intOf i).toNat)
    case atStart => exact ⟨0, s, by omega, rfl, rfl, HS.out, h⟩
    case round =>
      clear h HS
      obtain ⟨k, z, hk, rfl, hzl, hrs, hr⟩ := hrel
      have HR := Lib.hid hrs
      have HZ := Lib.hid hzl
      clear hrs hzl
      by_cases hlt : k < n
      · have hki : (k : Int) < n := by omega
        have hkx : k < x.length := by have := HA.out; omega
        have hky : k < y.length := by have := HB.out; omega
        have R := rowL_at (s := z) hkx hky
        rw [HR.out] at R
        obtain ⟨S1, r1⟩ := (hr.mv 1).reads HX.out
        obtain ⟨S2, r2⟩ := (hr.mv 1).reads HY.out
        obtain ⟨xb, xo, rfl, -, -, xcs⟩ := r1.addr (by omega)
        obtain ⟨yb, yo, rfl, -, -, ycs⟩ := r2.addr (by omega)
        have c0 : wr.cell? ⟨xb, xo + k, none⟩ = some (.int .u8 ((x[k]).toNat : Nat)) := (xcs k (by omega)).trans (ub_get x _ hkx)
        have c1 : wr.cell? ⟨yb, yo + k, none⟩ = some (.int .u8 ((y[k]).toNat : Nat)) := (ycs k (by omega)).trans (ub_get y _ hky)
        have hx : (x[k]).toNat < 256 := (x[k]).toNat_lt
        have hy : (y[k]).toNat < 256 := (y[k]).toNat_lt
        generalize (x[k]).toNat = bit at *
        generalize (y[k]).toNat = lev at *
        clear xcs ycs r1 r2 hkx hky
        go_upto_region 8 with (fail)
        refine wp_region_Z (fun W => W.cell? ⟨xb, xo + k, none⟩ = some (.int .u8 bit) ∧ W.cell? ⟨yb, yo + k, none⟩ = some (.int .u8 lev)) [6, 10] [11] [0, 1, 2, 3, 4, 5, 7, 8, 9, 12] [0, 1, 2, 3, 4, 5, 6, 7, 8, 9, 10, 11, 12] (by kernel_rfl) (by kernel_rfl) ?_
        have hS := hr.drew
        (repeat (first | (refine wpZ_st (v := ?_) _ (by rfl) (by rfl) (by rfl) (fun W hW => ?_) ⟨c0, c1⟩ ?_; (rotate_left; (focus ((try dsimp only at hW); go_simp; (try with_reducible rfl); done))); try simp only [Act.put, List.getElem_toArray, List.getElem_cons_zero, List.getElem_cons_succ, List.setIfInBounds_toArray, List.set_cons_zero, List.set_cons_succ]) | (refine wpZ_pu (v := ?_) _ (by rfl) (by rfl) (by rfl) (by rfl) (fun W => ?_) ?_; (rotate_left; (focus ((try dsimp only at hW); go_simp; (try with_reducible rfl); done))); try simp only [Act.put, List.getElem_toArray, List.getElem_cons_zero, List.getElem_cons_succ, List.setIfInBounds_toArray, List.set_cons_zero, List.set_cons_succ]) | (refine wpZ_no _ (by rfl) (by rfl) (by rfl) (by rfl) ?_; try simp only [Act.put, List.getElem_toArray, List.getElem_cons_zero, List.getElem_cons_succ, List.setIfInBounds_toArray, List.set_cons_zero, List.set_cons_succ]) | (refine wpZ_noS _ (by rfl) (by rfl) (by rfl) ⟨c0, c1⟩ ?_; try simp only [Act.put, List.getElem_toArray, List.getElem_cons_zero, List.getElem_cons_succ, List.setIfInBounds_toArray, List.set_cons_zero, List.set_cons_succ])))
        refine wpZ_eff _ (by rfl) (by rfl) (by rfl) (by rfl) (fun K hK => ?_)
        go_simp
        refine (more_ok z bit lev (by rw [HZ.out]; exact HL.out) hx hy b _ _ hS).mono ?_
        rintro e w5 ⟨rfl, h5⟩
        dsimp only
        (refine hK _ _ (fun hl => ?_) ?_; (first | (focus (cases hl; done)) | trivial); clear hK K; try simp only [Act.put, List.getElem_toArray, List.getElem_cons_zero, List.getElem_cons_succ, List.setIfInBounds_toArray, List.set_cons_zero, List.set_cons_succ])
        (repeat (first | (refine wpZ_st (v := ?_) _ (by rfl) (by rfl) (by rfl) (fun W hW => ?_) trivial ?_; (rotate_left; (focus ((try dsimp only at hW); go_simp; (try with_reducible rfl); done))); try simp only [Act.put, List.getElem_toArray, List.getElem_cons_zero, List.getElem_cons_succ, List.setIfInBounds_toArray, List.set_cons_zero, List.set_cons_succ]) | (refine wpZ_pu (v := ?_) _ (by rfl) (by rfl) (by rfl) (by rfl) (fun W => ?_) ?_; (rotate_left; (focus ((try dsimp only at hW); go_simp; (try with_reducible rfl); done))); try simp only [Act.put, List.getElem_toArray, List.getElem_cons_zero, List.getElem_cons_succ, List.setIfInBounds_toArray, List.set_cons_zero, List.set_cons_succ]) | (refine wpZ_no _ (by rfl) (by rfl) (by rfl) (by rfl) ?_; try simp only [Act.put, List.getElem_toArray, List.getElem_cons_zero, List.getElem_cons_succ, List.setIfInBounds_toArray, List.set_cons_zero, List.set_cons_succ]) | (refine wpZ_noS _ (by rfl) (by rfl) (by rfl) trivial ?_; try simp only [Act.put, List.getElem_toArray, List.getElem_cons_zero, List.getElem_cons_succ, List.setIfInBounds_toArray, List.set_cons_zero, List.set_cons_succ])))
        (simp only [wpZ])
        clear c0 c1 hr hS
        by_cases he : addE z bit lev = 0
        · rw [if_pos he] at R
          rw [he] at *
          go_wp2
          go_roundw
          case rel => exact ⟨k + 1, _, by omega, by go_num, (addV_lv _ _ _).trans HZ.out, R.symm, h5⟩
          case measure => simp [intOf]; omega
        · rw [if_neg he] at R
          have hv : addV z bit lev = z := by rw [addV, if_neg he]
          rw [hv] at h5
          have he1 : 0 < addE z bit lev := by omega
          have he2 : addE z bit lev ≤ 91 := by unfold addE; split <;> (try split) <;> (try split) <;> omega
          generalize addE z bit lev = e1 at *
          have he3 : ((e1 : Nat) : Int) ≠ 0 := by omega
          subst R
          go_wp2
          go_ret2
          exact ⟨rfl, h5⟩
      · obtain rfl : n = k := by omega
        have R := HR.out
        rw [rowL_end (by rw [HA.out]; omega)] at R
        subst R
        go_wp2
        go_ret2
        exact ⟨rfl, hr⟩
  · have hE : rowR s x y = (s, 0, 5) := by rw [rowR, if_neg (by omega)]
    rw [hE]
    have hne : (n : Int) ≠ m := by omega
    clear hE hX hY hxl hyl hx2 hy2
    go_enter Try.func49, Try.ntmps49
    go_wp2_with (go_at_call 44; refine (cgood_ok s b _ _ h).mono ?_; rintro e w1 ⟨rfl, rfl⟩)
    go_ret2
    exact ⟨rfl, h⟩

set_option maxHeartbeats 8000000 in
set_option maxRecDepth 20000 in
theorem rcntrow_ok (s : SV) (hl : s.lv ≤ 16) (b : Nat) (x y : List UInt8) (C : Asn) (ax ay : Option Addr) (n cx m cy : Nat) (hX : Reads C 1 (.slice ax n cx) n (ub x)) (hY : Reads C 1 (.slice ay m cy) m (ub y)) (w : World) (L : List Asn) (h : Hold w (cellsA b 94 (enc s) :: C :: L)) :
    Calls Try.prog 50 #[.pointer (some ⟨b, 0, none⟩), .slice ax n cx, .slice ay m cy] w fun e w' => e = .returned (.tuple #[.int .i64 (rowR s x y).2.1, .int .i64 (rowR s x y).2.2]) ∧ Hold w' (cellsA b 94 (enc (rowR s x y).1) :: C :: L) := by
  obtain ⟨S1, r1⟩ := (h.mv 1).reads hX
  obtain ⟨S2, r2⟩ := (h.mv 1).reads hY
  obtain ⟨hx1, hx2, hx3⟩ := r1.bounds
  obtain ⟨hy1, hy2, hy3⟩ := r2.bounds
  have hxl : x.length = n := by simpa using hx1
  have hyl : y.length = m := by simpa using hy1
  unfold maxLen at hx3 hy3
  clear r1 r2 hx1 hy1 S1 S2
  by_cases hnm : n = m
  · subst hnm
    have hE : rowR s x y = rowL s x y 0 := by rw [rowR, if_pos (by omega)]
    rw [hE]
    have HS : rowL s (x.drop 0) (y.drop 0) 0 = rowL s x y 0 := by simp
    generalize rowL s x y 0 = r at HS
    clear hE
    have HX := Lib.hid hX
    have HY := Lib.hid hY
    have HS := Lib.hid HS
    have HL := Lib.hid hl
    have HA := Lib.hid hxl
    have HB := Lib.hid hyl
    clear hX hY hl hxl hyl hy2 hy3
    go_enter Try.func50, Try.ntmps50
    go_wp2
    go_loopw [8] (fun i wr => RowsRel n b 94 enc C L s.lv x y r i wr) (fun i _ => n - (intOf i).toNat)
    case atStart => exact ⟨0, s, by omega, rfl, rfl, HS.out, h⟩
    case round =>
      clear h HS
      obtain ⟨k, z, hk, rfl, hzl, hrs, hr⟩ := hrel
      have HR := Lib.hid hrs
      have HZ := Lib.hid hzl
      clear hrs hzl
      by_cases hlt : k < n
      · have hki : (k : Int) < n := by omega
        have hkx : k < x.length := by have := HA.out; omega
        have hky : k < y.length := by have := HB.out; omega
        have R := rowL_at (s := z) hkx hky
        rw [HR.out] at R
        obtain ⟨S1, r1⟩ := (hr.mv 1).reads HX.out
        obtain ⟨S2, r2⟩ := (hr.mv 1).reads HY.out
        obtain ⟨xb, xo, rfl, -, -, xcs⟩ := r1.addr (by omega)
        obtain ⟨yb, yo, rfl, -, -, ycs⟩ := r2.addr (by omega)
        have c0 : wr.cell? ⟨xb, xo + k, none⟩ = some (.int .u8 ((x[k]).toNat : Nat)) := (xcs k (by omega)).trans (ub_get x _ hkx)
        have c1 : wr.cell? ⟨yb, yo + k, none⟩ = some (.int .u8 ((y[k]).toNat : Nat)) := (ycs k (by omega)).trans (ub_get y _ hky)
        have hx : (x[k]).toNat < 256 := (x[k]).toNat_lt
        have hy : (y[k]).toNat < 256 := (y[k]).toNat_lt
        generalize (x[k]).toNat = bit at *
        generalize (y[k]).toNat = lev at *
        clear xcs ycs r1 r2 hkx hky
        go_upto_region 8 with (fail)
        refine wp_region_Z (fun W => W.cell? ⟨xb, xo + k, none⟩ = some (.int .u8 bit) ∧ W.cell? ⟨yb, yo + k, none⟩ = some (.int .u8 lev)) [4, 8] [9] [0, 1, 2, 3, 5, 6, 7, 10] [0, 1, 2, 3, 4, 5, 6, 7, 8, 9, 10] (by kernel_rfl) (by kernel_rfl) ?_
        have hS := hr.drew
        (repeat (first | (refine wpZ_st (v := ?_) _ (by rfl) (by rfl) (by rfl) (fun W hW => ?_) ⟨c0, c1⟩ ?_; (rotate_left; (focus ((try dsimp only at hW); go_simp; (try with_reducible rfl); done))); try simp only [Act.put, List.getElem_toArray, List.getElem_cons_zero, List.getElem_cons_succ, List.setIfInBounds_toArray, List.set_cons_zero, List.set_cons_succ]) | (refine wpZ_pu (v := ?_) _ (by rfl) (by rfl) (by rfl) (by rfl) (fun W => ?_) ?_; (rotate_left; (focus ((try dsimp only at hW); go_simp; (try with_reducible rfl); done))); try simp only [Act.put, List.getElem_toArray, List.getElem_cons_zero, List.getElem_cons_succ, List.setIfInBounds_toArray, List.set_cons_zero, List.set_cons_succ]) | (refine wpZ_no _ (by rfl) (by rfl) (by rfl) (by rfl) ?_; try simp only [Act.put, List.getElem_toArray, List.getElem_cons_zero, List.getElem_cons_succ, List.setIfInBounds_toArray, List.set_cons_zero, List.set_cons_succ]) | (refine wpZ_noS _ (by rfl) (by rfl) (by rfl) ⟨c0, c1⟩ ?_; try simp only [Act.put, List.getElem_toArray, List.getElem_cons_zero, List.getElem_cons_succ, List.setIfInBounds_toArray, List.set_cons_zero, List.set_cons_succ])))
        refine wpZ_eff _ (by rfl) (by rfl) (by rfl) (by rfl) (fun K hK => ?_)
        go_simp
        refine (radd_ok z bit lev (by rw [HZ.out]; exact HL.out) hx hy b _ _ hS).mono ?_
        rintro e w5 ⟨rfl, h5⟩
        dsimp only
        (refine hK _ _ (fun hl => ?_) ?_; (first | (focus (cases hl; done)) | trivial); clear hK K; try simp only [Act.put, List.getElem_toArray, List.getElem_cons_zero, List.getElem_cons_succ, List.setIfInBounds_toArray, List.set_cons_zero, List.set_cons_succ])
        (repeat (first | (refine wpZ_st (v := ?_) _ (by rfl) (by rfl) (by rfl) (fun W hW => ?_) trivial ?_; (rotate_left; (focus ((try dsimp only at hW); go_simp; (try with_reducible rfl); done))); try simp only [Act.put, List.getElem_toArray, List.getElem_cons_zero, List.getElem_cons_succ, List.setIfInBounds_toArray, List.set_cons_zero, List.set_cons_succ]) | (refine wpZ_pu (v := ?_) _ (by rfl) (by rfl) (by rfl) (by rfl) (fun W => ?_) ?_; (rotate_left; (focus ((try dsimp only at hW); go_simp; (try with_reducible rfl); done))); try simp only [Act.put, List.getElem_toArray, List.getElem_cons_zero, List.getElem_cons_succ, List.setIfInBounds_toArray, List.set_cons_zero, List.set_cons_succ]) | (refine wpZ_no _ (by rfl) (by rfl) (by rfl) (by rfl) ?_; try simp only [Act.put, List.getElem_toArray, List.getElem_cons_zero, List.getElem_cons_succ, List.setIfInBounds_toArray, List.set_cons_zero, List.set_cons_succ]) | (refine wpZ_noS _ (by rfl) (by rfl) (by rfl) trivial ?_; try simp only [Act.put, List.getElem_toArray, List.getElem_cons_zero, List.getElem_cons_succ, List.setIfInBounds_toArray, List.set_cons_zero, List.set_cons_succ])))
        (simp only [wpZ])
        clear c0 c1 hr hS
        by_cases he : addE z bit lev = 0
        · rw [if_pos he] at R
          rw [he] at *
          go_wp2
          go_roundw
          case rel => exact ⟨k + 1, _, by omega, by go_num, (addV_lv _ _ _).trans HZ.out, R.symm, h5⟩
          case measure => simp [intOf]; omega
        · rw [if_neg he] at R
          have hv : addV z bit lev = z := by rw [addV, if_neg he]
          rw [hv] at h5
          have he1 : 0 < addE z bit lev := by omega
          have he2 : addE z bit lev ≤ 91 := by unfold addE; split <;> (try split) <;> (try split) <;> omega
          generalize addE z bit lev = e1 at *
          have he3 : ((e1 : Nat) : Int) ≠ 0 := by omega
          subst R
          go_wp2
          go_ret2
          exact ⟨rfl, h5⟩
      · obtain rfl : n = k := by omega
        have R := HR.out
        rw [rowL_end (by rw [HA.out]; omega)] at R
        subst R
        go_wp2
        go_ret2
        exact ⟨rfl, hr⟩
  · have hE : rowR s x y = (s, 0, 5) := by rw [rowR, if_neg (by omega)]
    rw [hE]
    have hne : (n : Int) ≠ m := by omega
    clear hE hX hY hxl hyl hx2 hy2
    go_enter Try.func50, Try.ntmps50
    go_wp2
    go_ret2
    exact ⟨rfl, h⟩

theorem cntrow_no (pv v1 v2 : Value) (w : World) (L : List Asn) (h : Hold w (noA 85 encU pv :: L)) :
    Calls Try.prog 49 #[pv, v1, v2] w fun e w' => e = .returned (.tuple #[.int .i64 0, .int .i64 1]) ∧ w = w' := by
  go_enter Try.func49, Try.ntmps49
  go_wp2_with (go_at_call 44; refine (cgood_no pv _ _ h).mono ?_; rintro e w1 ⟨rfl, rfl⟩)
  go_ret2
  exact ⟨rfl, rfl⟩
theorem rcntrow_no (v1 v2 : Value) (w : World) :
    Calls Try.prog 50 #[.pointer none, v1, v2] w fun e w' => e = .returned (.tuple #[.int .i64 0, .int .i64 1]) ∧ w = w' := by
  go_enter Try.func50, Try.ntmps50
  go_wp2
  go_ret2
  exact ⟨rfl, rfl⟩

end Go.Proofs.Ytklokbmpapjjiaa
