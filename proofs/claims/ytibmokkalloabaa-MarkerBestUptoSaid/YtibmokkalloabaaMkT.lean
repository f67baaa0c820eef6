/- Contracts: the best place, whatever is asked. -/
import Derived.Test.YtibmokkalloabaaMkS
open Go.RowKit Go.Own
namespace Go.Proofs.Ytibmokkalloabaa

def bestE (B : Nat) (n N : Int) (ys : List UInt8) (fr tu : Int) : Nat :=
  if chkE B n N ≠ 0 then chkE B n N else if fr < 0 ∨ tu < fr ∨ (ys.length : Int) - n < tu then 11 else if allB N ((ys.drop fr.toNat).take (tu.toNat + n.toNat - fr.toNat)) = true then 0 else 91
def bestR (B : Nat) (n N : Int) (ys : List UInt8) (fr tu : Int) : Nat × Int := if bestE B n N ys fr tu = 0 then best fr.toNat (fun j => valAt N B n.toNat ys (fr.toNat + j)) (tu.toNat - fr.toNat + 1) else (0, 0)

theorem best_view (B : Nat) (n N : Int) (ys : List UInt8) (fr tu : Int) :
    (chkE B n N = 220 ∧ markE B n = 220 ∧ bestE B n N ys fr tu = 220 ∧ bestR B n N ys fr tu = (0, 0)) ∨
    (chkE B n N = 1 ∧ markE B n = 0 ∧ (N < 2 ∨ 16 < N) ∧ bestE B n N ys fr tu = 1 ∧ bestR B n N ys fr tu = (0, 0)) ∨
    (chkE B n N = 0 ∧ markE B n = 0 ∧ 2 ≤ N ∧ N ≤ 16 ∧ ∃ m : Nat, n = m ∧ 1 ≤ m ∧ m ≤ 64 ∧
      (((fr < 0 ∨ tu < fr ∨ (ys.length : Int) - m < tu) ∧ bestE B n N ys fr tu = 11 ∧ bestR B n N ys fr tu = (0, 0)) ∨
       ∃ lo hi : Nat, fr = lo ∧ tu = hi ∧ lo ≤ hi ∧ hi + m ≤ ys.length ∧
        ((allB N ((ys.drop lo).take (hi + m - lo)) = false ∧ bestE B n N ys fr tu = 91 ∧ bestR B n N ys fr tu = (0, 0)) ∨
         (allB N ((ys.drop lo).take (hi + m - lo)) = true ∧ bestE B n N ys fr tu = 0 ∧ bestR B n N ys fr tu = best lo (fun j => valAt N B m ys (lo + j)) (hi - lo + 1))))) := by
  rcases chk_view B n N with ⟨h1, h2⟩ | ⟨h1, h2, h3⟩ | ⟨h1, h2, h3, h4, m, rfl, h5, h6⟩
  · have e : bestE B n N ys fr tu = 220 := by rw [bestE, if_pos (by omega), h1]
    exact .inl ⟨h1, h2, e, by rw [bestR, e, if_neg (by omega)]⟩
  · have e : bestE B n N ys fr tu = 1 := by rw [bestE, if_pos (by omega), h1]
    exact .inr (.inl ⟨h1, h2, h3, e, by rw [bestR, e, if_neg (by omega)]⟩)
  · refine .inr (.inr ⟨h1, h2, h3, h4, m, rfl, h5, h6, ?_⟩)
    by_cases hp : fr < 0 ∨ tu < fr ∨ (ys.length : Int) - m < tu
    · have e : bestE B m N ys fr tu = 11 := by rw [bestE, if_neg (by omega), if_pos hp]
      exact .inl ⟨hp, e, by rw [bestR, e, if_neg (by omega)]⟩
    · obtain ⟨lo, rfl⟩ : ∃ k : Nat, fr = k := ⟨fr.toNat, by omega⟩
      obtain ⟨hi, rfl⟩ : ∃ k : Nat, tu = k := ⟨tu.toNat, by omega⟩
      refine .inr ⟨lo, hi, rfl, rfl, by omega, by omega, ?_⟩
      cases ha : allB N ((ys.drop lo).take (hi + m - lo)) with
      | false =>
        have e : bestE B m N ys lo hi = 91 := by rw [bestE, if_neg (by omega), if_neg hp]; simp [ha]
        exact .inl ⟨rfl, e, by rw [bestR, e, if_neg (by omega)]⟩
      | true =>
        have e : bestE B m N ys lo hi = 0 := by rw [bestE, if_neg (by omega), if_neg hp]; simp [ha]
        exact .inr ⟨rfl, e, by rw [bestR, e, if_pos rfl]; simp⟩

theorem best_val (lo : Nat) (f : Nat → Int) : ∀ k, (best lo f (k + 1)).2 = f ((best lo f (k + 1)).1 - lo) ∧ lo ≤ (best lo f (k + 1)).1 ∧ (best lo f (k + 1)).1 < lo + (k + 1)
  | 0 => by simp [best]
  | k + 1 => by
    have ih := best_val lo f k
    rw [best]
    split
    · simp
    · exact ⟨ih.1, ih.2.1, by omega⟩
/-- Where the best of the first k is, the first place where there are none. -/
def pos (lo : Nat) (f : Nat → Int) (k : Nat) : Nat := if k = 0 then lo else (best lo f k).1
theorem pos_le (lo : Nat) (f : Nat → Int) (k : Nat) : lo ≤ pos lo f k ∧ pos lo f k ≤ lo + k := by
  unfold pos
  split
  · omega
  · obtain ⟨j, rfl⟩ : ∃ j, k = j + 1 := ⟨k - 1, by omega⟩
    have := best_val lo f j
    omega
theorem pos_succ (lo : Nat) (f : Nat → Int) (k : Nat) : pos lo f (k + 1) = if f (pos lo f k - lo) < f k then lo + k else pos lo f k := by
  unfold pos
  rw [if_neg (by omega)]
  by_cases hk : k = 0
  · subst hk; simp [best]
  · obtain ⟨j, rfl⟩ : ∃ j, k = j + 1 := ⟨k - 1, by omega⟩
    have hv := best_val lo f j
    have e1 : (if j + 1 = 0 then lo else (best lo f (j + 1)).1) = (best lo f (j + 1)).1 := if_neg (by omega)
    rw [e1, ← hv.1, best]
    by_cases h2 : (best lo f (j + 1)).2 < f (j + 1)
    · rw [if_pos (.inr h2), if_pos h2]
    · rw [if_neg (by omega), if_neg h2]
theorem best_pos (lo : Nat) (f : Nat → Int) (k : Nat) (hk : 0 < k) : best lo f k = (pos lo f k, f (pos lo f k - lo)) := by
  obtain ⟨j, rfl⟩ : ∃ j, k = j + 1 := ⟨k - 1, by omega⟩
  unfold pos
  rw [if_neg (by omega), ← (best_val lo f j).1]

theorem allB_sub {N : Int} {ys : List UInt8} {lo len p n : Nat} (h : allB N ((ys.drop lo).take len) = true) (h1 : lo ≤ p) (h2 : p + n ≤ lo + len) : allB N ((ys.drop p).take n) = true := by
  rw [allB, List.all_eq_true] at h ⊢
  intro y hy
  refine h y ?_
  rw [List.mem_iff_getElem?] at hy ⊢
  obtain ⟨j, hj⟩ := hy
  rw [List.getElem?_take] at hj
  split at hj
  · exact ⟨p - lo + j, by rw [List.getElem?_take, if_pos (by omega)]; rw [List.getElem?_drop] at hj ⊢; rw [← hj]; congr 1; omega⟩
  · cases hj

set_option maxHeartbeats 1000000 in
set_option maxRecDepth 20000 in
theorem fbest_ok (B : Nat) (n N : Int) (hB : B < 18446744073709551616) (ys : List UInt8) (C : Asn) (ao : Option Addr) (M cap : Nat) (hR : Reads C 1 (.slice ao M cap) M (ub ys)) (hM : M ≤ 140737488351232) (fr tu : Int) (w : World) (L : List Asn) (h : Hold w (C :: L)) :
    Calls Try.prog 28 #[.agg #[.int .u64 B, .int .i64 n], .int .i64 N, .slice ao M cap, .int .i64 fr, .int .i64 tu] w fun e w' => e = .returned (.tuple #[.int .i64 (bestR B n N ys fr tu).1, .int .i64 (bestR B n N ys fr tu).2, .int .i64 (bestE B n N ys fr tu)]) ∧ Hold w' (C :: L) := by
  obtain ⟨S0, r0⟩ := h.reads hR
  obtain ⟨b1, b2, b3⟩ := r0.bounds
  unfold maxLen at b3
  have hyn : ys.length = M := by simpa using b1
  clear r0 b1
  have hb := h.box 24 [.int .u64 B, .int .i64 n]
  have PC := fun w L h => mcheck_ok B n N hB w L h
  rcases best_view B n N ys fr tu with ⟨h1, -, e1, e2⟩ | ⟨h1, -, -, e1, e2⟩ | ⟨h1, h2, h3, h4, m, rfl, h5, h6, hv⟩
  · rw [e1, e2]
    rw [h1] at PC
    clear hyn
    go_enter Try.func28, Try.ntmps28
    go_upto_region 1 with (fail)
    refine gen_world hb (fun w1 hb => ?_)
    generalize w.heap.size = q at *
    obtain ⟨g0, g1⟩ := loadM hb
    go_wp2_with (go_at_call 37; refine (PC _ _ hb).mono ?_; rintro e w2 ⟨rfl, h2⟩)
    go_ret3
    exact ⟨rfl, h2.drop⟩
  · rw [e1, e2]
    rw [h1] at PC
    clear hyn
    go_enter Try.func28, Try.ntmps28
    go_upto_region 1 with (fail)
    refine gen_world hb (fun w1 hb => ?_)
    generalize w.heap.size = q at *
    obtain ⟨g0, g1⟩ := loadM hb
    go_wp2_with (go_at_call 37; refine (PC _ _ hb).mono ?_; rintro e w2 ⟨rfl, h2⟩)
    go_ret3
    exact ⟨rfl, h2.drop⟩
  · rw [h1] at PC
    clear h1
    rcases hv with ⟨hp, e1, e2⟩ | ⟨lo, hi, rfl, rfl, hlh, hk, hv⟩
    · rw [e1, e2]
      rw [hyn] at hp
      clear e1 e2 hyn
      have hp3 : fr < 0 ∨ 0 ≤ fr ∧ tu < fr ∨ 0 ≤ fr ∧ fr ≤ tu ∧ (M : Int) < m ∨ 0 ≤ fr ∧ fr ≤ tu ∧ (m : Int) ≤ M ∧ (M : Int) - m < tu := by omega
      clear hp
      rcases hp3 with hp | ⟨hp, hq⟩ | ⟨hp, hq, hs⟩ | ⟨hp, hq, hs, ht⟩
      all_goals
        go_enter Try.func28, Try.ntmps28
        go_upto_region 1 with (fail)
        refine gen_world hb (fun w1 hb => ?_)
        generalize w.heap.size = q at *
        obtain ⟨g0, g1⟩ := loadM hb
        go_upto_region 4 with (go_at_call 37; refine (PC _ _ hb).mono ?_; rintro e w2 ⟨rfl, h2⟩)
        obtain ⟨g0, g1⟩ := loadM h2
        go_wp2
        go_ret3
        exact ⟨rfl, h2.drop⟩
    · rw [hyn] at hk
      rcases hv with ⟨ha, e1, e2⟩ | ⟨ha, e1, e2⟩
      · have k0 : 0 ≤ (lo : Int) := by omega
        have k1 : (lo : Int) ≤ hi := by omega
        have k2 : (m : Int) ≤ M := by omega
        have k3 : (hi : Int) ≤ M - m := by omega
        have A1 := Reads.sliced hR (l := lo) (u := hi + m) (m := cap) (by omega) (by omega) (by omega) (by omega)
        simp only [sliced, Nat.mul_one, ← ub_drop, ← ub_take] at A1
        rw [if_neg (by omega)] at A1
        have PA := fun w L h => allBelow_ok N _ C _ _ _ A1 w L h
        have W1 : IntKind.i64.wrap ((hi : Int) + m) = (hi : Int) + m := IntWalk.i64_in _ (by omega)
        rw [ha] at PA
        rw [e1, e2]
        clear A1 e1 e2 ha hyn
        go_enter Try.func28, Try.ntmps28
        go_upto_region 1 with (fail)
        refine gen_world hb (fun w1 hb => ?_)
        generalize w.heap.size = q at *
        obtain ⟨g0, g1⟩ := loadM hb
        go_upto_region 4 with (go_at_call 37; refine (PC _ _ hb).mono ?_; rintro e w2 ⟨rfl, h2⟩)
        obtain ⟨g0, g1⟩ := loadM h2
        go_wp2_with (go_at_call 38; refine (PA _ _ (h2.mv 1)).mono ?_; rintro e w3 ⟨rfl, h3⟩)
        go_ret3
        exact ⟨rfl, (h3.mv 1).drop⟩
      · rw [e1, e2]
        exact best_ok N B m h3 h4 hB h2 h6 h5 ys C ao M cap hR lo hi hlh hk ha w L h

def RBestRel (lo hi : Nat) (f : Nat → Int) (R : List Asn) (a i : Value) (wr : World) : Prop := ∃ k : Nat, k ≤ hi - lo + 1 ∧ i = .int .i64 ((lo : Int) + k) ∧ a = .int .i64 (pos lo f k) ∧ Hold wr R

set_option maxHeartbeats 1000000 in
set_option maxRecDepth 20000 in
theorem rbest_ok (B : Nat) (n N : Int) (hB : B < 18446744073709551616) (ys : List UInt8) (C : Asn) (ao : Option Addr) (M cap : Nat) (hR : Reads C 1 (.slice ao M cap) M (ub ys)) (hM : M ≤ 140737488351232) (fr tu : Int) (w : World) (L : List Asn) (h : Hold w (C :: L)) :
    Calls Try.prog 29 #[.agg #[.int .u64 B, .int .i64 n], .int .i64 N, .slice ao M cap, .int .i64 fr, .int .i64 tu] w fun e w' => e = .returned (.tuple #[.int .i64 (bestR B n N ys fr tu).1, .int .i64 (bestR B n N ys fr tu).2, .int .i64 (bestE B n N ys fr tu)]) ∧ Hold w' (C :: L) := by
  obtain ⟨S0, r0⟩ := h.reads hR
  obtain ⟨b1, b2, b3⟩ := r0.bounds
  unfold maxLen at b3
  have hyn : ys.length = M := by simpa using b1
  clear r0 b1
  have hb := h.box 24 [.int .u64 B, .int .i64 n]
  have PC := fun w L h => rcheck_ok B n hB w L h
  have PL := fun w => levelled_ok N w
  rcases best_view B n N ys fr tu with ⟨-, h1, e1, e2⟩ | ⟨-, h1, h3, e1, e2⟩ | ⟨-, h1, h3, h4, m, rfl, h5, h6, hv⟩
  · rw [e1, e2]
    rw [h1] at PC
    clear hyn PL
    go_enter Try.func29, Try.ntmps29
    go_upto_region 1 with (fail)
    refine gen_world hb (fun w1 hb => ?_)
    generalize w.heap.size = q at *
    obtain ⟨g0, g1⟩ := loadM hb
    go_wp2_with (go_at_call 26; refine (PC _ _ hb).mono ?_; rintro e w2 ⟨rfl, h2⟩)
    go_ret3
    exact ⟨rfl, h2.drop⟩
  · rw [e1, e2]
    rw [h1] at PC
    have hd : decide (2 ≤ N ∧ N ≤ 16) = false := by simp; omega
    rw [hd] at PL
    clear hyn hd
    go_enter Try.func29, Try.ntmps29
    go_upto_region 1 with (fail)
    refine gen_world hb (fun w1 hb => ?_)
    generalize w.heap.size = q at *
    obtain ⟨g0, g1⟩ := loadM hb
    go_wp2_with (first | (go_at_call 26; refine (PC _ _ hb).mono ?_; rintro e w2 ⟨rfl, h2⟩) | (go_at_call 35; refine (PL _).mono ?_; rintro e w2 ⟨rfl, rfl⟩))
    go_ret3
    exact ⟨rfl, h2.drop⟩
  · rw [h1] at PC
    have hd : decide (2 ≤ N ∧ N ≤ 16) = true := by simp; omega
    rw [hd] at PL
    clear h1 hd
    rcases hv with ⟨hp, e1, e2⟩ | ⟨lo, hi, rfl, rfl, hlh, hk, hv⟩
    · rw [e1, e2]
      rw [hyn] at hp
      clear e1 e2 hyn
      have hp3 : fr < 0 ∨ 0 ≤ fr ∧ tu < fr ∨ 0 ≤ fr ∧ fr ≤ tu ∧ (M : Int) - m < tu := by omega
      clear hp
      rcases hp3 with hp | ⟨hp, hs⟩ | ⟨hp, hs, ht⟩
      all_goals
        go_enter Try.func29, Try.ntmps29
        go_upto_region 1 with (fail)
        refine gen_world hb (fun w1 hb => ?_)
        generalize w.heap.size = q at *
        obtain ⟨g0, g1⟩ := loadM hb
        go_upto_region 4 with (go_at_call 26; refine (PC _ _ hb).mono ?_; rintro e w2 ⟨rfl, h2⟩)
        obtain ⟨g0, g1⟩ := loadM h2
        go_wp2_with (go_at_call 35; refine (PL _).mono ?_; rintro e w2 ⟨rfl, rfl⟩)
        go_ret3
        exact ⟨rfl, h2.drop⟩
    · rw [hyn] at hk
      have k0 : 0 ≤ (lo : Int) := by omega
      have k1 : (lo : Int) ≤ hi := by omega
      have k3 : (hi : Int) ≤ M - m := by omega
      have PO := fun w L h => over_ok N ys C ao M cap hR lo (hi + m) (by omega) (by omega) w L h
      rw [show ((hi + m : Nat) : Int) = (hi : Int) + m by omega] at PO
      have W1 : IntKind.i64.wrap ((hi : Int) + m) = (hi : Int) + m := IntWalk.i64_in _ (by omega)
      rcases hv with ⟨ha, e1, e2⟩ | ⟨ha, e1, e2⟩
      · rw [ha] at PO
        rw [e1, e2]
        clear e1 e2 ha hyn
        go_enter Try.func29, Try.ntmps29
        go_upto_region 1 with (fail)
        refine gen_world hb (fun w1 hb => ?_)
        generalize w.heap.size = q at *
        obtain ⟨g0, g1⟩ := loadM hb
        go_upto_region 4 with (go_at_call 26; refine (PC _ _ hb).mono ?_; rintro e w2 ⟨rfl, h2⟩)
        obtain ⟨g0, g1⟩ := loadM h2
        go_wp2_with (first | (go_at_call 35; refine (PL _).mono ?_; rintro e w2 ⟨rfl, rfl⟩) | (go_at_call 41; refine (PO _ _ (h2.mv 1)).mono ?_; rintro e w3 ⟨rfl, rfl⟩))
        go_ret3
        exact ⟨rfl, h2.drop⟩
      · rw [ha] at PO
        obtain ⟨f, hf⟩ : ∃ f : Nat → Int, f = fun j => valAt N B m ys (lo + j) := ⟨_, rfl⟩
        rw [e1, e2, ← hf, best_pos _ _ _ (by omega)]
        clear e1 e2
        have PV := fun p (h1 : lo ≤ p) (h2 : p ≤ hi) w L h => value_ok N B m h3 h4 hB h6 ys C ao M cap hR p (by omega) (allB_sub ha h1 (by omega)) w L h
        have PV2 : ∀ k, k ≤ hi - lo → ∀ w L, Hold w (C :: L) → Calls Try.prog 42 #[.agg #[.int .u64 B, .int .i64 m], .int .i64 N, .slice ao M cap, .int .i64 ((lo : Int) + k)] w fun e w' => e = .returned (.int .i64 (f k)) ∧ Hold w' (C :: L) := fun k hk w L h => by
          have := PV (lo + k) (by omega) (by omega) w L h
          rw [hf]
          simpa using this
        have PV3 : ∀ p, lo ≤ p → p ≤ hi → ∀ w L, Hold w (C :: L) → Calls Try.prog 42 #[.agg #[.int .u64 B, .int .i64 m], .int .i64 N, .slice ao M cap, .int .i64 p] w fun e w' => e = .returned (.int .i64 (f (p - lo))) ∧ Hold w' (C :: L) := fun p h1 h2 w L h => by
          have := PV p h1 h2 w L h
          rw [hf]
          simp only
          rwa [Nat.add_sub_of_le h1]
        have H2 := Lib.hid PV2
        have H3 := Lib.hid PV3
        clear ha hyn PV PV2 PV3 hf
        go_enter Try.func29, Try.ntmps29
        go_upto_region 1 with (fail)
        refine gen_world hb (fun w1 hb => ?_)
        generalize w.heap.size = q at *
        obtain ⟨g0, g1⟩ := loadM hb
        go_upto_region 4 with (go_at_call 26; refine (PC _ _ hb).mono ?_; rintro e w2 ⟨rfl, h2⟩)
        obtain ⟨g0, g1⟩ := loadM h2
        go_upto_region 12 with (first | (go_at_call 35; refine (PL _).mono ?_; rintro e w2 ⟨rfl, rfl⟩) | (go_at_call 41; refine (PO _ _ (h2.mv 1)).mono ?_; rintro e w3 ⟨rfl, rfl⟩))
        clear g0 g1 PC PO PL hb W1
        go_wp2
        go_loopw [14, 15] (fun a i wr => RBestRel lo hi f (cellsA q 24 [.int .u64 B, .int .i64 m] :: C :: L) a i wr) (fun _ i _ => (hi + 1) - (intOf i).toNat)
        case atStart => exact ⟨0, by omega, by go_num, rfl, h2⟩
        case round =>
          clear h2
          obtain ⟨k, hk0, rfl, rfl, hr⟩ := hrel
          have hpl := pos_le lo f k
          by_cases hlt : k ≤ hi - lo
          · have hki : (lo : Int) + k ≤ hi := by omega
            have P1 := fun w L h => H2.out k hlt w L h
            have P2 := fun w L h => H3.out (pos lo f k) (by omega) (by omega) w L h
            have HP := pos_succ lo f k
            generalize pos lo f k = p at *
            generalize f (p - lo) = fp at *
            generalize f k = fk at *
            have HP2 := Lib.hid HP
            clear HP
            have hS := hr.drew
            obtain ⟨g0, g1⟩ := loadM hS
            go_upto_region 14 with (fail)
            refine wp_region_Z (fun W => W.cell? ⟨q, 0, none⟩ = some (.int .u64 B) ∧ W.cell? ⟨q, 1, none⟩ = some (.int .i64 m)) [0, 5] [] [1, 2, 3, 6, 7, 8, 10] [0, 1, 2, 3, 5, 6, 7, 8, 4, 9, 10] (by kernel_rfl) (by kernel_rfl) ?_
            (repeat (first | (refine wpZ_st (v := ?_) _ (by rfl) (by rfl) (by rfl) (fun W hW => ?_) ⟨g0, g1⟩ ?_; (rotate_left; (focus ((try dsimp only at hW); go_simp; (try with_reducible rfl); done))); try simp only [Act.put, List.getElem_toArray, List.getElem_cons_zero, List.getElem_cons_succ, List.setIfInBounds_toArray, List.set_cons_zero, List.set_cons_succ]) | (refine wpZ_pu (v := ?_) _ (by rfl) (by rfl) (by rfl) (by rfl) (fun W => ?_) ?_; (rotate_left; (focus ((try dsimp only at hW); go_simp; (try with_reducible rfl); done))); try simp only [Act.put, List.getElem_toArray, List.getElem_cons_zero, List.getElem_cons_succ, List.setIfInBounds_toArray, List.set_cons_zero, List.set_cons_succ]) | (refine wpZ_no _ (by rfl) (by rfl) (by rfl) (by rfl) ?_; try simp only [Act.put, List.getElem_toArray, List.getElem_cons_zero, List.getElem_cons_succ, List.setIfInBounds_toArray, List.set_cons_zero, List.set_cons_succ]) | (refine wpZ_noS _ (by rfl) (by rfl) (by rfl) ⟨g0, g1⟩ ?_; try simp only [Act.put, List.getElem_toArray, List.getElem_cons_zero, List.getElem_cons_succ, List.setIfInBounds_toArray, List.set_cons_zero, List.set_cons_succ])))
            refine wpZ_eff _ (by rfl) (by rfl) (by rfl) (by rfl) (fun K hK => ?_)
            go_simp
            refine (P1 _ _ (hS.mv 1)).mono ?_
            rintro e w5 ⟨rfl, h5⟩
            dsimp only
            (refine hK _ _ (fun hl => ?_) ?_; (first | (focus (cases hl; done)) | exact (loadM (h5.mv 1))); clear hK K; try simp only [Act.put, List.getElem_toArray, List.getElem_cons_zero, List.getElem_cons_succ, List.setIfInBounds_toArray, List.set_cons_zero, List.set_cons_succ])
            (repeat (first | (refine wpZ_st (v := ?_) _ (by rfl) (by rfl) (by rfl) (fun W hW => ?_) (loadM (h5.mv 1)) ?_; (rotate_left; (focus ((try dsimp only at hW); go_simp; (try with_reducible rfl); done))); try simp only [Act.put, List.getElem_toArray, List.getElem_cons_zero, List.getElem_cons_succ, List.setIfInBounds_toArray, List.set_cons_zero, List.set_cons_succ]) | (refine wpZ_pu (v := ?_) _ (by rfl) (by rfl) (by rfl) (by rfl) (fun W => ?_) ?_; (rotate_left; (focus ((try dsimp only at hW); go_simp; (try with_reducible rfl); done))); try simp only [Act.put, List.getElem_toArray, List.getElem_cons_zero, List.getElem_cons_succ, List.setIfInBounds_toArray, List.set_cons_zero, List.set_cons_succ]) | (refine wpZ_no _ (by rfl) (by rfl) (by rfl) (by rfl) ?_; try simp only [Act.put, List.getElem_toArray, List.getElem_cons_zero, List.getElem_cons_succ, List.setIfInBounds_toArray, List.set_cons_zero, List.set_cons_succ]) | (refine wpZ_noS _ (by rfl) (by rfl) (by rfl) (loadM (h5.mv 1)) ?_; try simp only [Act.put, List.getElem_toArray, List.getElem_cons_zero, List.getElem_cons_succ, List.setIfInBounds_toArray, List.set_cons_zero, List.set_cons_succ])))
            refine wpZ_eff _ (by rfl) (by rfl) (by rfl) (by rfl) (fun K hK => ?_)
            go_simp
            refine (P2 _ _ h5).mono ?_
            rintro e w6 ⟨rfl, h6⟩
            dsimp only
            (refine hK _ _ (fun hl => ?_) ?_; (first | (focus (cases hl; done)) | exact (loadM (h6.mv 1))); clear hK K; try simp only [Act.put, List.getElem_toArray, List.getElem_cons_zero, List.getElem_cons_succ, List.setIfInBounds_toArray, List.set_cons_zero, List.set_cons_succ])
            (repeat (first | (refine wpZ_st (v := ?_) _ (by rfl) (by rfl) (by rfl) (fun W hW => ?_) (loadM (h6.mv 1)) ?_; (rotate_left; (focus ((try dsimp only at hW); go_simp; (try with_reducible rfl); done))); try simp only [Act.put, List.getElem_toArray, List.getElem_cons_zero, List.getElem_cons_succ, List.setIfInBounds_toArray, List.set_cons_zero, List.set_cons_succ]) | (refine wpZ_pu (v := ?_) _ (by rfl) (by rfl) (by rfl) (by rfl) (fun W => ?_) ?_; (rotate_left; (focus ((try dsimp only at hW); go_simp; (try with_reducible rfl); done))); try simp only [Act.put, List.getElem_toArray, List.getElem_cons_zero, List.getElem_cons_succ, List.setIfInBounds_toArray, List.set_cons_zero, List.set_cons_succ]) | (refine wpZ_no _ (by rfl) (by rfl) (by rfl) (by rfl) ?_; try simp only [Act.put, List.getElem_toArray, List.getElem_cons_zero, List.getElem_cons_succ, List.setIfInBounds_toArray, List.set_cons_zero, List.set_cons_succ]) | (refine wpZ_noS _ (by rfl) (by rfl) (by rfl) (loadM (h6.mv 1)) ?_; try simp only [Act.put, List.getElem_toArray, List.getElem_cons_zero, List.getElem_cons_succ, List.setIfInBounds_toArray, List.set_cons_zero, List.set_cons_succ])))
            (simp only [wpZ])
            clear P1 P2 g0 g1 h5 hS
            have h7 := h6.mv 1
            by_cases hv : fp < fk
            · rw [if_pos hv] at HP2
              go_wp2
              go_roundw
              case rel => exact ⟨k + 1, by omega, by go_num, by rw [HP2.out]; go_num, h7⟩
              case measure => simp [intOf]; omega
            · rw [if_neg hv] at HP2
              have hv2 : fk ≤ fp := by omega
              clear hv
              go_wp2
              go_roundw
              case rel => exact ⟨k + 1, by omega, by go_num, by rw [HP2.out], h7⟩
              case measure => simp [intOf]; omega
          · obtain rfl : k = hi - lo + 1 := by omega
            have hki : (hi : Int) < (lo : Int) + ((hi - lo + 1 : Nat) : Int) := by omega
            have hpb : pos lo f (hi - lo + 1) ≤ hi := by
              have := best_val lo f (hi - lo)
              unfold pos
              rw [if_neg (by omega)]
              omega
            have P2 := fun w L h => H3.out (pos lo f (hi - lo + 1)) (by omega) hpb w L h
            generalize hp : pos lo f (hi - lo + 1) = p at *
            have HP := Lib.hid hp
            clear hp hpb hpl
            obtain ⟨g0, g1⟩ := loadM hr
            go_wp2_with (go_at_call 42; refine (P2 _ _ (hr.mv 1)).mono ?_; rintro e w6 ⟨rfl, h6⟩)
            go_ret3
            exact ⟨by rw [HP.out]; rfl, (h6.mv 1).drop⟩

end Go.Proofs.Ytibmokkalloabaa
