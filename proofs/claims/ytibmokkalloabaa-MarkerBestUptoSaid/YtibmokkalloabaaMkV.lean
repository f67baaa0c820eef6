/- Contracts: all places at or above a threshold. -/
import Derived.Test.YtibmokkalloabaaMkU
import Derived.Laws.Cover1
open Go.RowKit Go.Own
namespace Go.Proofs.Ytibmokkalloabaa

def findE (B : Nat) (n N : Int) (ys : List UInt8) : Nat := if chkE B n N ≠ 0 then chkE B n N else if allB N ys = true then 0 else 91
/-- The first k places, those of them at or above the threshold. -/
def places (f : Nat → Int) (th : Int) (k : Nat) : List Int := ((List.range k).filter fun i : Nat => decide (th ≤ f i)).map fun i : Nat => (i : Int)
theorem places_snoc (f : Nat → Int) (th : Int) (k : Nat) : places f th (k + 1) = places f th k ++ if th ≤ f k then [(k : Int)] else [] := by
  unfold places
  rw [List.range_succ, List.filter_append, List.map_append]
  congr 1
  by_cases h : th ≤ f k <;> simp [h]
theorem places_le (f : Nat → Int) (th : Int) (k : Nat) : (places f th k).length ≤ k := by
  unfold places
  rw [List.length_map]
  exact Nat.le_trans (List.length_filter_le _ _) (by simp)
def findR (B : Nat) (n N : Int) (ys : List UInt8) (th : Int) : List Int := if findE B n N ys = 0 then places (fun p => valAt N B n.toNat ys p) th (ys.length + 1 - n.toNat) else []

theorem find_view (B : Nat) (n N : Int) (ys : List UInt8) (th : Int) :
    (chkE B n N = 220 ∧ markE B n = 220 ∧ findE B n N ys = 220 ∧ findR B n N ys th = []) ∨
    (chkE B n N = 1 ∧ markE B n = 0 ∧ (N < 2 ∨ 16 < N) ∧ findE B n N ys = 1 ∧ findR B n N ys th = []) ∨
    (chkE B n N = 0 ∧ markE B n = 0 ∧ 2 ≤ N ∧ N ≤ 16 ∧ ∃ m : Nat, n = m ∧ 1 ≤ m ∧ m ≤ 64 ∧
      ((allB N ys = false ∧ findE B n N ys = 91 ∧ findR B n N ys th = []) ∨
       (allB N ys = true ∧ findE B n N ys = 0 ∧ findR B n N ys th = places (fun p => valAt N B m ys p) th (ys.length + 1 - m)))) := by
  rcases chk_view B n N with ⟨h1, h2⟩ | ⟨h1, h2, h3⟩ | ⟨h1, h2, h3, h4, m, rfl, h5, h6⟩
  · have e : findE B n N ys = 220 := by rw [findE, if_pos (by omega), h1]
    exact .inl ⟨h1, h2, e, by rw [findR, e, if_neg (by omega)]⟩
  · have e : findE B n N ys = 1 := by rw [findE, if_pos (by omega), h1]
    exact .inr (.inl ⟨h1, h2, h3, e, by rw [findR, e, if_neg (by omega)]⟩)
  · refine .inr (.inr ⟨h1, h2, h3, h4, m, rfl, h5, h6, ?_⟩)
    cases ha : allB N ys with
    | false =>
      have e : findE B m N ys = 91 := by rw [findE, if_neg (by omega)]; simp [ha]
      exact .inl ⟨rfl, e, by rw [findR, e, if_neg (by omega)]⟩
    | true =>
      have e : findE B m N ys = 0 := by rw [findE, if_neg (by omega)]; simp [ha]
      exact .inr ⟨rfl, e, by rw [findR, e, if_pos rfl]; simp⟩

theorem info3 : (Try.prog.info? 3).map (fun i => (i.zero, i.size, i.bytes)) = some (some (.int .i64 0), 1, 8) := by kernel_rfl
theorem is_append (x y : List Int) : is (x ++ y) = is x ++ is y := by simp [is]

/-- A list of places, of length n. -/
def PlcRow (xs : List Int) (ao : Option Addr) (cap : Nat) : Asn := rowA 3 1 ao xs.length cap (is xs)
def FindRel (K : Nat) (f : Nat → Int) (th : Int) (R : List Asn) (o i : Value) (wr : World) : Prop := ∃ (k : Nat) (ao : Option Addr) (cap : Nat), k ≤ K ∧ i = .int .i64 k ∧ o = .slice ao (places f th k).length cap ∧ Hold wr (PlcRow (places f th k) ao cap :: R)


set_option maxHeartbeats 1000000 in
set_option maxRecDepth 20000 in
theorem find_ok (B : Nat) (n N : Int) (hB : B < 18446744073709551616) (ys : List UInt8) (C : Asn) (ao : Option Addr) (M cap : Nat) (hR : Reads C 1 (.slice ao M cap) M (ub ys)) (hM : M ≤ 8796093022208) (th : Int) (w : World) (L : List Asn) (h : Hold w (C :: L)) :
    Calls Try.prog 30 #[.agg #[.int .u64 B, .int .i64 n], .int .i64 N, .slice ao M cap, .int .i64 th] w fun e w' => ∃ ao' cap', e = .returned (.tuple #[.slice ao' (findR B n N ys th).length cap', .int .i64 (findE B n N ys)]) ∧ Hold w' (PlcRow (findR B n N ys th) ao' cap' :: C :: L) := by
  obtain ⟨S0, r0⟩ := h.reads hR
  obtain ⟨b1, b2, b3⟩ := r0.bounds
  unfold maxLen at b3
  have hyn : ys.length = M := by simpa using b1
  clear r0 b1
  have hb := h.box 24 [.int .u64 B, .int .i64 n]
  obtain ⟨i3, hi, hz0, hz1, hz2⟩ := info_parts info3
  have PC := fun w L h => mcheck_ok B n N hB w L h
  have PA := fun w L h => allBelow_ok N ys C ao M cap hR w L h
  rcases find_view B n N ys th with ⟨h1, -, e1, e2⟩ | ⟨h1, -, -, e1, e2⟩ | ⟨h1, h2, h3, h4, m, rfl, h5, h6, hv⟩
  · rw [e1, e2]
    rw [h1] at PC
    clear hyn
    go_enter Try.func30, Try.ntmps30
    go_upto_region 1 with (fail)
    refine gen_world hb (fun w1 hb => ?_)
    generalize w.heap.size = q at *
    obtain ⟨g0, g1⟩ := loadM hb
    go_wp2_with (go_at_call 37; refine (PC _ _ hb).mono ?_; rintro e w2 ⟨rfl, h2⟩)
    go_ret2
    exact ⟨none, 0, rfl, h2.drop.nilRow 3 1⟩
  · rw [e1, e2]
    rw [h1] at PC
    clear hyn
    go_enter Try.func30, Try.ntmps30
    go_upto_region 1 with (fail)
    refine gen_world hb (fun w1 hb => ?_)
    generalize w.heap.size = q at *
    obtain ⟨g0, g1⟩ := loadM hb
    go_wp2_with (go_at_call 37; refine (PC _ _ hb).mono ?_; rintro e w2 ⟨rfl, h2⟩)
    go_ret2
    exact ⟨none, 0, rfl, h2.drop.nilRow 3 1⟩
  · rw [h1] at PC
    clear h1
    rcases hv with ⟨ha, e1, e2⟩ | ⟨ha, e1, e2⟩
    · rw [ha] at PA
      rw [e1, e2]
      clear e1 e2 ha hyn
      go_enter Try.func30, Try.ntmps30
      go_upto_region 1 with (fail)
      refine gen_world hb (fun w1 hb => ?_)
      generalize w.heap.size = q at *
      obtain ⟨g0, g1⟩ := loadM hb
      go_upto_region 4 with (go_at_call 37; refine (PC _ _ hb).mono ?_; rintro e w2 ⟨rfl, h2⟩)
      obtain ⟨g0, g1⟩ := loadM h2
      go_wp2_with (go_at_call 38; refine (PA _ _ (h2.mv 1)).mono ?_; rintro e w3 ⟨rfl, h3⟩)
      go_ret2
      exact ⟨none, 0, rfl, (h3.mv 1).drop.nilRow 3 1⟩
    · rw [ha] at PA
      rw [e1, e2]
      clear e1 e2 ha
      obtain ⟨f, hf⟩ : ∃ f : Nat → Int, f = fun p => valAt N B m ys p := ⟨_, rfl⟩
      rw [← hf]
      rw [hyn]
      have PV : ∀ k, k < M + 1 - m → ∀ fq w L, Hold w (cellsA fq 3 [.int .i64 N] :: C :: L) → Calls Try.prog 39 #[.agg #[.int .u64 B, .int .i64 m], .slice (Option.map (fun x => x.add k) ao) (M - k) (cap - k), .func (.func 43) #[] #[.pointer (some ⟨fq, 0, none⟩)]] w fun e w' => e = .returned (.int .i64 (f k)) ∧ Hold w' (cellsA fq 3 [.int .i64 N] :: C :: L) := fun k hk fq w L h => by
        have A2 := Reads.sliced hR (l := k) (u := M) (m := cap) (by omega) (by omega) (by omega) (by omega)
        simp only [sliced, Nat.mul_one, ← ub_drop, ← ub_take] at A2
        rw [if_neg (by omega), List.take_of_length_le (by simp; omega)] at A2
        rw [hf]
        exact at_ok N B m (by omega) h4 hB h6 _ C _ _ _ A2 (by omega) fq w L h
      have HV := Lib.hid PV
      obtain ⟨K, hKe⟩ : ∃ K, K = M + 1 - m := ⟨_, rfl⟩
      have hmx : ∀ w, (Builtin.max_ #[3, 3] 3 #[.int .i64 0, .int .i64 ((M : Int) - m + 1)]).run Try.prog w = .ok (.int .i64 K) w := fun w => by
        rw [Go.run_max_int2]; congr 2; split <;> omega
      have HPL := Lib.hid (places_le f th)
      rw [← hKe]
      have HKe := Lib.hid hKe
      have hm64 : (m : Int) ≤ 64 := by omega
      have hMi : (M : Int) ≤ 8796093022208 := by omega
      have hK1 : K ≤ 8796093022209 := by omega
      clear hyn PV hf hKe
      go_enter Try.func30, Try.ntmps30
      go_upto_region 1 with (fail)
      refine gen_world hb (fun w1 hb => ?_)
      generalize w.heap.size = q at *
      obtain ⟨g0, g1⟩ := loadM hb
      go_upto_region 4 with (go_at_call 37; refine (PC _ _ hb).mono ?_; rintro e w2 ⟨rfl, h2⟩)
      obtain ⟨g0, g1⟩ := loadM h2
      go_upto_region 6 with (go_at_call 38; refine (PA _ _ (h2.mv 1)).mono ?_; rintro e w3 ⟨rfl, h3⟩)
      have h4' := h3.mv 1
      go_upto_region 7 with (go_at_call 34; refine (weigher_ok N _ _ h4').mono ?_; rintro e w5 ⟨fq, rfl, h5⟩)
      have h6' := (h5.mv 1).nilRow 3 1
      obtain ⟨g0, g1⟩ := loadM (h5.mv 1)
      clear PA PC h2 h3 hb h4'
      go_wp2
      clear g0 g1 h5
      go_loopw [12, 33] (fun o i wr => FindRel K f th (cellsA q 24 [.int .u64 B, .int .i64 m] :: cellsA fq 3 [.int .i64 N] :: C :: L) o i wr) (fun _ i _ => K - (intOf i).toNat)
      case atStart => exact ⟨0, none, 0, by omega, rfl, rfl, h6'⟩
      case round =>
        clear h6'
        obtain ⟨k, oa, ocap, hk, rfl, rfl, hr⟩ := hrel
        unfold PlcRow at hr
        by_cases hlt : k < K
        · have hki : (k : Int) < K := by omega
          have hkM : (k : Int) ≤ M := by have := HKe.out; omega
          have hcc : ¬ cap = k := by have := HKe.out; omega
          have P := HV.out k (by have := HKe.out; omega) fq
          have HS := places_snoc f th k
          have hpl := HPL.out k
          generalize f k = v at *
          generalize places f th k = pl at *
          have HS2 := Lib.hid HS
          clear HS
          have hS := hr.drew
          obtain ⟨g0, g1⟩ := loadM (hS.mv 1)
          go_upto_region 11 with (fail)
          refine wp_region_Z (fun W => W.cell? ⟨q, 0, none⟩ = some (.int .u64 B) ∧ W.cell? ⟨q, 1, none⟩ = some (.int .i64 m)) [0] [5] [1, 2, 3, 4, 6, 7] [0, 1, 2, 3, 4, 6, 5, 7] (by kernel_rfl) (by kernel_rfl) ?_
          (repeat (first | (refine wpZ_st (v := ?_) _ (by rfl) (by rfl) (by rfl) (fun W hW => ?_) ⟨g0, g1⟩ ?_; (rotate_left; (focus ((try dsimp only at hW); go_simp; (try with_reducible rfl); done))); try simp only [Act.put, List.getElem_toArray, List.getElem_cons_zero, List.getElem_cons_succ, List.setIfInBounds_toArray, List.set_cons_zero, List.set_cons_succ]) | (refine wpZ_pu (v := ?_) _ (by rfl) (by rfl) (by rfl) (by rfl) (fun W => ?_) ?_; (rotate_left; (focus ((try dsimp only at hW); go_simp; (try with_reducible rfl); done))); try simp only [Act.put, List.getElem_toArray, List.getElem_cons_zero, List.getElem_cons_succ, List.setIfInBounds_toArray, List.set_cons_zero, List.set_cons_succ]) | (refine wpZ_no _ (by rfl) (by rfl) (by rfl) (by rfl) ?_; try simp only [Act.put, List.getElem_toArray, List.getElem_cons_zero, List.getElem_cons_succ, List.setIfInBounds_toArray, List.set_cons_zero, List.set_cons_succ]) | (refine wpZ_noS _ (by rfl) (by rfl) (by rfl) ⟨g0, g1⟩ ?_; try simp only [Act.put, List.getElem_toArray, List.getElem_cons_zero, List.getElem_cons_succ, List.setIfInBounds_toArray, List.set_cons_zero, List.set_cons_succ])))
          refine wpZ_eff _ (by rfl) (by rfl) (by rfl) (by rfl) (fun K hK => ?_)
          go_simp
          refine (P _ _ (((hS.mv 2).mv 3).mv 1)).mono ?_
          rintro e h7w ⟨rfl, h6⟩
          have h7 : Hold h7w (rowA 3 1 oa pl.length ocap (is pl) :: cellsA q 24 [.int .u64 B, .int .i64 m] :: cellsA fq 3 [.int .i64 N] :: C :: L) := (h6.mv 3).mv 3
          dsimp only
          (refine hK _ _ (fun hl => ?_) ?_; (first | (focus (cases hl; done)) | exact (loadM (h7.mv 1))); clear hK K; try simp only [Act.put, List.getElem_toArray, List.getElem_cons_zero, List.getElem_cons_succ, List.setIfInBounds_toArray, List.set_cons_zero, List.set_cons_succ])
          (repeat (first | (refine wpZ_st (v := ?_) _ (by rfl) (by rfl) (by rfl) (fun W hW => ?_) (loadM (h7.mv 1)) ?_; (rotate_left; (focus ((try dsimp only at hW); go_simp; (try with_reducible rfl); done))); try simp only [Act.put, List.getElem_toArray, List.getElem_cons_zero, List.getElem_cons_succ, List.setIfInBounds_toArray, List.set_cons_zero, List.set_cons_succ]) | (refine wpZ_pu (v := ?_) _ (by rfl) (by rfl) (by rfl) (by rfl) (fun W => ?_) ?_; (rotate_left; (focus ((try dsimp only at hW); go_simp; (try with_reducible rfl); done))); try simp only [Act.put, List.getElem_toArray, List.getElem_cons_zero, List.getElem_cons_succ, List.setIfInBounds_toArray, List.set_cons_zero, List.set_cons_succ]) | (refine wpZ_no _ (by rfl) (by rfl) (by rfl) (by rfl) ?_; try simp only [Act.put, List.getElem_toArray, List.getElem_cons_zero, List.getElem_cons_succ, List.setIfInBounds_toArray, List.set_cons_zero, List.set_cons_succ]) | (refine wpZ_noS _ (by rfl) (by rfl) (by rfl) (loadM (h7.mv 1)) ?_; try simp only [Act.put, List.getElem_toArray, List.getElem_cons_zero, List.getElem_cons_succ, List.setIfInBounds_toArray, List.set_cons_zero, List.set_cons_succ])))
          (simp only [wpZ])
          clear P g0 g1 hS
          by_cases hv : th ≤ v
          · rw [if_pos hv] at HS2
            go_wp2_with ((with_reducible refine wpList_plain (o := ⟨some 47, _, _, _, _, _⟩) rfl (fun K hK => ?_)); refine wp_append_one_h (w := h7w) _ _ 61 (by rfl) 3 i3 (.int .i64 0) 1 8 Try.underlying61 hi hz0 hz1 hz2 (by rfl) _ _ _ _ (by rfl) h7 [.int .i64 k] (by rfl) ⟨rfl, rfl, rfl, rfl⟩ (by rfl) (by simp [Value.oneCell']) (by unfold maxLen; omega) (by omega) (fun ao3 cap3 w9 h9 hc9 => ?_); refine hK _ _ ?_; clear hK K)
            go_roundw
            case rel => exact ⟨k + 1, ao3, cap3, by omega, by go_num, by rw [HS2.out, List.length_append]; rfl, by unfold PlcRow; rw [HS2.out, is_append, List.length_append]; exact h9⟩
            case measure => simp [intOf]; omega
          · rw [if_neg hv, List.append_nil] at HS2
            have hv2 : v < th := by omega
            clear hv
            go_wp2
            go_roundw
            case rel => exact ⟨k + 1, oa, ocap, by omega, by go_num, by rw [HS2.out], by rw [HS2.out]; exact h7⟩
            case measure => simp [intOf]; omega
        · obtain rfl : K = k := by omega
          go_wp2
          go_ret2
          exact ⟨oa, ocap, rfl, (hr.mv 2).drop |>.mv 1 |>.drop⟩

set_option maxHeartbeats 1000000 in
set_option maxRecDepth 20000 in
theorem rfind_ok (B : Nat) (n N : Int) (hB : B < 18446744073709551616) (ys : List UInt8) (C : Asn) (ao : Option Addr) (M cap : Nat) (hR : Reads C 1 (.slice ao M cap) M (ub ys)) (hM : M ≤ 8796093022208) (th : Int) (w : World) (L : List Asn) (h : Hold w (C :: L)) :
    Calls Try.prog 31 #[.agg #[.int .u64 B, .int .i64 n], .int .i64 N, .slice ao M cap, .int .i64 th] w fun e w' => ∃ ao' cap', e = .returned (.tuple #[.slice ao' (findR B n N ys th).length cap', .int .i64 (findE B n N ys)]) ∧ Hold w' (PlcRow (findR B n N ys th) ao' cap' :: C :: L) := by
  obtain ⟨S0, r0⟩ := h.reads hR
  obtain ⟨b1, b2, b3⟩ := r0.bounds
  unfold maxLen at b3
  have hyn : ys.length = M := by simpa using b1
  clear r0 b1
  have hb := h.box 24 [.int .u64 B, .int .i64 n]
  obtain ⟨i3, hi, hz0, hz1, hz2⟩ := info_parts info3
  have PC := fun w L h => rcheck_ok B n hB w L h
  have PL := fun w => levelled_ok N w
  have PO := fun w L h => over_ok N ys C ao M cap hR 0 M (by omega) (by omega) w L h
  rw [List.drop_zero, Nat.sub_zero, List.take_of_length_le (by omega)] at PO
  rcases find_view B n N ys th with ⟨-, h1, e1, e2⟩ | ⟨-, h1, h3, e1, e2⟩ | ⟨-, h1, h3, h4, m, rfl, h5, h6, hv⟩
  · rw [e1, e2]
    rw [h1] at PC
    clear hyn PL PO
    go_enter Try.func31, Try.ntmps31
    go_upto_region 1 with (fail)
    refine gen_world hb (fun w1 hb => ?_)
    generalize w.heap.size = q at *
    obtain ⟨g0, g1⟩ := loadM hb
    go_wp2_with (go_at_call 26; refine (PC _ _ hb).mono ?_; rintro e w2 ⟨rfl, h2⟩)
    go_ret2
    exact ⟨none, 0, rfl, h2.drop.nilRow 3 1⟩
  · rw [e1, e2]
    rw [h1] at PC
    have hd : decide (2 ≤ N ∧ N ≤ 16) = false := by simp; omega
    rw [hd] at PL
    clear hyn hd PO
    go_enter Try.func31, Try.ntmps31
    go_upto_region 1 with (fail)
    refine gen_world hb (fun w1 hb => ?_)
    generalize w.heap.size = q at *
    obtain ⟨g0, g1⟩ := loadM hb
    go_wp2_with (first | (go_at_call 26; refine (PC _ _ hb).mono ?_; rintro e w2 ⟨rfl, h2⟩) | (go_at_call 35; refine (PL _).mono ?_; rintro e w2 ⟨rfl, rfl⟩))
    go_ret2
    exact ⟨none, 0, rfl, h2.drop.nilRow 3 1⟩
  · rw [h1] at PC
    have hd : decide (2 ≤ N ∧ N ≤ 16) = true := by simp; omega
    rw [hd] at PL
    clear h1 hd
    rcases hv with ⟨ha, e1, e2⟩ | ⟨ha, e1, e2⟩
    · rw [ha] at PO
      rw [e1, e2]
      clear e1 e2 ha hyn
      go_enter Try.func31, Try.ntmps31
      go_upto_region 1 with (fail)
      refine gen_world hb (fun w1 hb => ?_)
      generalize w.heap.size = q at *
      obtain ⟨g0, g1⟩ := loadM hb
      go_upto_region 4 with (go_at_call 26; refine (PC _ _ hb).mono ?_; rintro e w2 ⟨rfl, h2⟩)
      obtain ⟨g0, g1⟩ := loadM h2
      go_wp2_with (first | (go_at_call 35; refine (PL _).mono ?_; rintro e w2 ⟨rfl, rfl⟩) | (go_at_call 41; refine (PO _ _ (h2.mv 1)).mono ?_; rintro e w3 ⟨rfl, rfl⟩))
      go_ret2
      exact ⟨none, 0, rfl, h2.drop.nilRow 3 1⟩
    · rw [ha] at PO
      rw [e1, e2]
      clear e1 e2
      obtain ⟨f, hf⟩ : ∃ f : Nat → Int, f = fun p => valAt N B m ys p := ⟨_, rfl⟩
      rw [← hf]
      rw [hyn]
      have PV : ∀ k, k < M + 1 - m → ∀ w L, Hold w (C :: L) → Calls Try.prog 42 #[.agg #[.int .u64 B, .int .i64 m], .int .i64 N, .slice ao M cap, .int .i64 k] w fun e w' => e = .returned (.int .i64 (f k)) ∧ Hold w' (C :: L) := fun k hk w L h => by
        rw [hf]
        have hA : allB N ((ys.drop k).take m) = true := allB_sub (lo := 0) (len := M) (by simpa [List.take_of_length_le (show ys.length ≤ M by omega)] using ha) (by omega) (by omega)
        exact value_ok N B m h3 h4 hB h6 ys C ao M cap hR k (by omega) hA w L h
      have HV := Lib.hid PV
      obtain ⟨K, hKe⟩ : ∃ K, K = M + 1 - m := ⟨_, rfl⟩
      have HPL := Lib.hid (places_le f th)
      rw [← hKe]
      have HKe := Lib.hid hKe
      have hm64 : (m : Int) ≤ 64 := by omega
      have hMi : (M : Int) ≤ 8796093022208 := by omega
      have hK1 : K ≤ 8796093022209 := by omega
      clear hyn PV hf hKe ha
      go_enter Try.func31, Try.ntmps31
      go_upto_region 1 with (fail)
      refine gen_world hb (fun w1 hb => ?_)
      generalize w.heap.size = q at *
      obtain ⟨g0, g1⟩ := loadM hb
      go_upto_region 4 with (go_at_call 26; refine (PC _ _ hb).mono ?_; rintro e w2 ⟨rfl, h2⟩)
      obtain ⟨g0, g1⟩ := loadM h2
      go_upto_region 8 with (first | (go_at_call 35; refine (PL _).mono ?_; rintro e w2 ⟨rfl, rfl⟩) | (go_at_call 41; refine (PO _ _ (h2.mv 1)).mono ?_; rintro e w3 ⟨rfl, rfl⟩))
      have h6' := h2.nilRow 3 1
      clear PC PL PO h2 hb
      go_wp2
      clear g0 g1
      go_loopw [11, 12] (fun o i wr => FindRel K f th (cellsA q 24 [.int .u64 B, .int .i64 m] :: C :: L) o i wr) (fun _ i _ => K - (intOf i).toNat)
      case atStart => exact ⟨0, none, 0, by omega, rfl, rfl, h6'⟩
      case round =>
        clear h6'
        obtain ⟨k, oa, ocap, hk, rfl, rfl, hr⟩ := hrel
        unfold PlcRow at hr
        obtain ⟨g0, g1⟩ := loadM (hr.mv 1)
        by_cases hlt : k < K
        · have hki : (k : Int) + m ≤ M := by have := HKe.out; omega
          have hk0 : 0 ≤ (k : Int) := by omega
          have hkM : (k : Int) ≤ M := by omega
          have P := HV.out k (by have := HKe.out; omega)
          have HS := places_snoc f th k
          have hpl := HPL.out k
          generalize f k = v at *
          generalize places f th k = pl at *
          have HS2 := Lib.hid HS
          clear HS
          go_upto_region 12 with (fail)
          by_cases hv : th ≤ v
          · rw [if_pos hv] at HS2
            go_wp2_with (first | (go_at_call 42; refine (P _ _ (hr.mv 2)).mono ?_; rintro e h7w ⟨rfl, h6⟩; have h7 := (h6.mv 2).mv 2) | ((with_reducible refine wpList_plain (o := ⟨some 48, _, _, _, _, _⟩) rfl (fun K hK => ?_)); refine wp_append_one_h (w := h7w) _ _ 61 (by rfl) 3 i3 (.int .i64 0) 1 8 Try.underlying61 hi hz0 hz1 hz2 (by rfl) _ _ _ _ (by rfl) h7 [.int .i64 k] (by rfl) ⟨rfl, rfl, rfl, rfl⟩ (by rfl) (by simp [Value.oneCell']) (by unfold maxLen; omega) (by omega) (fun ao3 cap3 w9 h9 hc9 => ?_); refine hK _ _ ?_; clear hK K))
            go_roundw
            case rel => exact ⟨k + 1, ao3, cap3, by omega, by go_num, by rw [HS2.out, List.length_append]; rfl, by unfold PlcRow; rw [HS2.out, is_append, List.length_append]; exact h9⟩
            case measure => simp [intOf]; omega
          · rw [if_neg hv, List.append_nil] at HS2
            have hv2 : v < th := by omega
            clear hv
            go_wp2_with (go_at_call 42; refine (P _ _ (hr.mv 2)).mono ?_; rintro e h7w ⟨rfl, h6⟩; have h7 := (h6.mv 2).mv 2)
            go_roundw
            case rel => exact ⟨k + 1, oa, ocap, by omega, by go_num, by rw [HS2.out], by rw [HS2.out]; exact h7⟩
            case measure => simp [intOf]; omega
        · obtain rfl : K = k := by omega
          have hki : (M : Int) < (K : Int) + m := by have := HKe.out; omega
          have hk0 : 0 ≤ (K : Int) := by omega
          go_wp2
          go_ret2
          exact ⟨oa, ocap, rfl, (hr.mv 1).drop⟩

end Go.Proofs.Ytibmokkalloabaa
