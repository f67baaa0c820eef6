/- Contracts: the best place. -/
import Derived.Test.YtibmokkalloabaaMkD
open Go.RowKit Go.Own
namespace Go.Proofs.Ytibmokkalloabaa

/-- The best of the first k values of f, and where it is (the first of equals), from lo on. -/
def best (lo : Nat) (f : Nat → Int) : Nat → Nat × Int
  | 0 => (0, 0)
  | k + 1 => if k = 0 ∨ (best lo f k).2 < f k then (lo + k, f k) else best lo f k
def valAt (N : Int) (B n : Nat) (ys : List UInt8) (p : Nat) : Int := atS N B n (ys.drop p) n

theorem valAt_bound {N : Int} (h0 : 0 ≤ N) (h1 : N ≤ 16) (B n : Nat) (hn : n ≤ 64) (ys : List UInt8) (p : Nat) : -38400 ≤ valAt N B n ys p ∧ valAt N B n ys p ≤ 38400 := by
  have := atS_bound h0 h1 B n (ys.drop p) n
  unfold valAt
  omega

def BestRel (N : Int) (B n lo K : Nat) (ys : List UInt8) (R : List Asn) (i p v : Value) (wr : World) : Prop := ∃ k : Nat, k ≤ K ∧ i = .int .i64 k ∧ p = .int .i64 (best lo (fun j => valAt N B n ys (lo + j)) k).1 ∧ v = .int .i64 (best lo (fun j => valAt N B n ys (lo + j)) k).2 ∧ Hold wr R

theorem best_le (lo : Nat) (f : Nat → Int) : ∀ k, (best lo f k).1 ≤ lo + k
  | 0 => by simp [best]
  | k + 1 => by
    have := best_le lo f k
    unfold best
    split
    · simp
    · omega

set_option maxHeartbeats 400000 in
set_option maxRecDepth 20000 in
theorem best_ok (N : Int) (B n : Nat) (h0 : 2 ≤ N) (h1 : N ≤ 16) (hB : B < 18446744073709551616) (hc : markE B n = 0) (hn : n ≤ 64) (hn1 : 1 ≤ n) (ys : List UInt8) (C : Asn) (ao : Option Addr) (m cap : Nat) (hR : Reads C 1 (.slice ao m cap) m (ub ys)) (lo hi : Nat) (h2 : lo ≤ hi) (h3 : hi + n ≤ m)
    (ha : allB N ((ys.drop lo).take (hi + n - lo)) = true) (w : World) (L : List Asn) (h : Hold w (C :: L)) :
    Calls Try.prog 28 #[.agg #[.int .u64 B, .int .i64 n], .int .i64 N, .slice ao m cap, .int .i64 lo, .int .i64 hi] w fun e w' =>
      e = .returned (.tuple #[.int .i64 (best lo (fun j => valAt N B n ys (lo + j)) (hi - lo + 1)).1, .int .i64 (best lo (fun j => valAt N B n ys (lo + j)) (hi - lo + 1)).2, .int .i64 0]) ∧ Hold w' (C :: L) := by
  obtain ⟨S0, r0⟩ := h.reads hR
  obtain ⟨b1, b2, b3⟩ := r0.bounds
  unfold maxLen at b3
  have hyn : ys.length = m := by simpa using b1
  have HY := Lib.hid hyn
  clear r0 b1 hyn
  have hb := h.box 24 [.int .u64 B, .int .i64 n]
  have PC := fun w L h => mcheck_ok B n N hB w L h
  have e0 : chkE B n N = 0 := by rw [chkE, if_neg (by omega), if_neg (by omega)]
  rw [e0] at PC
  obtain ⟨K, hK⟩ : ∃ K, K = hi - lo + 1 := ⟨_, rfl⟩
  rw [← hK]
  have hKi : (hi : Int) - lo + 1 = K := by omega
  have k1 : (lo : Int) ≤ hi := by omega
  have k2 : (n : Int) ≤ m := by omega
  have k3 : (hi : Int) ≤ m - n := by omega
  have k4 : (m : Int) ≤ 9223372036854775807 := by omega
  have A1 := Reads.sliced hR (l := lo) (u := hi + n) (m := cap) (by omega) (by omega) (by omega) (by omega)
  simp only [sliced, Nat.mul_one, ← ub_drop, ← ub_take] at A1
  rw [if_neg (by omega)] at A1
  have PA := fun w L h => allBelow_ok N _ C _ _ _ A1 w L h
  rw [ha] at PA
  clear A1 e0
  go_enter Try.func28, Try.ntmps28
  go_upto_region 1 with (fail)
  refine gen_world hb (fun w1 hb => ?_)
  generalize w.heap.size = q at *
  obtain ⟨g0, g1⟩ := loadM hb
  go_upto_region 4 with (go_at_call 37; refine (PC _ _ hb).mono ?_; rintro e w2 ⟨rfl, h2⟩)
  obtain ⟨g0, g1⟩ := loadM h2
  go_upto_region 8 with (go_at_call 38; refine (PA _ _ (h2.mv 1)).mono ?_; rintro e w3 ⟨rfl, h3⟩)
  have h4 := h3.mv 1
  have PV : ∀ k, k < K → ∀ f w L, Hold w (cellsA f 3 [.int .i64 N] :: C :: L) → Calls Try.prog 39 #[.agg #[.int .u64 B, .int .i64 n], .slice (Option.map (fun x => x.add (lo + k)) ao) (m - (lo + k)) (cap - (lo + k)), .func (.func 43) #[] #[.pointer (some ⟨f, 0, none⟩)]] w fun e w' => e = .returned (.int .i64 (valAt N B n ys (lo + k))) ∧ Hold w' (cellsA f 3 [.int .i64 N] :: C :: L) := fun k hk f w L h => by
    have A2 := Reads.sliced hR (l := lo + k) (u := m) (m := cap) (by omega) (by omega) (by omega) (by omega)
    simp only [sliced, Nat.mul_one, ← ub_drop, ← ub_take] at A2
    rw [if_neg (by omega)] at A2
    rw [List.take_of_length_le (by have := HY.out; simp; omega)] at A2
    exact at_ok N B n (by omega) h1 hB hn _ C _ _ _ A2 (by omega) f w L h
  have HV := Lib.hid PV
  clear PA PC h2 h3 hb PV
  go_upto_block 0 with (go_at_call 34; refine (weigher_ok N _ _ h4).mono ?_; rintro e w5 ⟨f, rfl, h5⟩)
  clear h4 g0 g1
  have h6 := (h5.mv 1)
  clear h5
  go_wp2
  go_loopw [62, 10, 11] (fun i p v wr => BestRel N B n lo K ys (cellsA q 24 [.int .u64 B, .int .i64 n] :: cellsA f 3 [.int .i64 N] :: C :: L) i p v wr) (fun i _ _ _ => K - (intOf i).toNat)
  case atStart => exact ⟨0, by omega, rfl, rfl, rfl, h6⟩
  case round =>
    clear h6
    obtain ⟨k, hk, rfl, rfl, rfl, hr⟩ := hrel
    by_cases hlt : k < K
    · have hki : (k : Int) < K := by omega
      have hkm : (lo : Int) + k ≤ m := by omega
      have hz0 : 0 ≤ (lo : Int) + k := by omega
      have ht : ((lo : Int) + k).toNat = lo + k := by omega
      have hcc : ¬ cap = lo + k := by omega
      have hvb := valAt_bound (N := N) (by omega) h1 B n hn ys (lo + k)
      have P := HV.out k hlt f
      have hS := hr.drew
      obtain ⟨g0, g1⟩ := loadM hS
      have HBe : best lo (fun j => valAt N B n ys (lo + j)) (k + 1) = if k = 0 ∨ (best lo (fun j => valAt N B n ys (lo + j)) k).2 < valAt N B n ys (lo + k) then (lo + k, valAt N B n ys (lo + k)) else best lo (fun j => valAt N B n ys (lo + j)) k := rfl
      generalize valAt N B n ys (lo + k) = v at *
      generalize best lo (fun j => valAt N B n ys (lo + j)) k = bk at *
      obtain ⟨pl, bv⟩ := bk
      simp only at HBe
      have W1 : IntKind.i64.wrap ((lo : Int) + k) = (lo : Int) + k := IntWalk.i64_in _ (by omega)
      go_upto_region 12 with (fail)
      refine wp_region_Z (fun W => W.cell? ⟨q, 0, none⟩ = some (.int .u64 B) ∧ W.cell? ⟨q, 1, none⟩ = some (.int .i64 n)) [0] [7] [1, 2, 3, 4, 5, 6, 8] [0, 1, 2, 3, 4, 5, 6, 7, 8] (by kernel_rfl) (by kernel_rfl) ?_
      (repeat (first | (refine wpZ_st (v := ?_) _ (by rfl) (by rfl) (by rfl) (fun W hW => ?_) ⟨g0, g1⟩ ?_; (rotate_left; (focus ((try dsimp only at hW); go_simp; (try with_reducible rfl); done))); try simp only [Act.put, List.getElem_toArray, List.getElem_cons_zero, List.getElem_cons_succ, List.setIfInBounds_toArray, List.set_cons_zero, List.set_cons_succ]) | (refine wpZ_pu (v := ?_) _ (by rfl) (by rfl) (by rfl) (by rfl) (fun W => ?_) ?_; (rotate_left; (focus ((try dsimp only at hW); go_simp; (try with_reducible rfl); done))); try simp only [Act.put, List.getElem_toArray, List.getElem_cons_zero, List.getElem_cons_succ, List.setIfInBounds_toArray, List.set_cons_zero, List.set_cons_succ]) | (refine wpZ_no _ (by rfl) (by rfl) (by rfl) (by rfl) ?_; try simp only [Act.put, List.getElem_toArray, List.getElem_cons_zero, List.getElem_cons_succ, List.setIfInBounds_toArray, List.set_cons_zero, List.set_cons_succ]) | (refine wpZ_noS _ (by rfl) (by rfl) (by rfl) ⟨g0, g1⟩ ?_; try simp only [Act.put, List.getElem_toArray, List.getElem_cons_zero, List.getElem_cons_succ, List.setIfInBounds_toArray, List.set_cons_zero, List.set_cons_succ])))
      refine wpZ_eff _ (by rfl) (by rfl) (by rfl) (by rfl) (fun K hK => ?_)
      go_simp
      refine (P _ _ ((hS.mv 2).mv 2)).mono ?_
      rintro e w6 ⟨rfl, h7⟩
      have h8 : Hold w6 (cellsA q 24 [.int .u64 B, .int .i64 n] :: cellsA f 3 [.int .i64 N] :: C :: L) := h7.mv 2
      dsimp only
      (refine hK _ _ (fun hl => ?_) ?_; (first | (focus (cases hl; done)) | exact (loadM h8)); clear hK K; try simp only [Act.put, List.getElem_toArray, List.getElem_cons_zero, List.getElem_cons_succ, List.setIfInBounds_toArray, List.set_cons_zero, List.set_cons_succ])
      (repeat (first | (refine wpZ_st (v := ?_) _ (by rfl) (by rfl) (by rfl) (fun W hW => ?_) (loadM h8) ?_; (rotate_left; (focus ((try dsimp only at hW); go_simp; (try with_reducible rfl); done))); try simp only [Act.put, List.getElem_toArray, List.getElem_cons_zero, List.getElem_cons_succ, List.setIfInBounds_toArray, List.set_cons_zero, List.set_cons_succ]) | (refine wpZ_pu (v := ?_) _ (by rfl) (by rfl) (by rfl) (by rfl) (fun W => ?_) ?_; (rotate_left; (focus ((try dsimp only at hW); go_simp; (try with_reducible rfl); done))); try simp only [Act.put, List.getElem_toArray, List.getElem_cons_zero, List.getElem_cons_succ, List.setIfInBounds_toArray, List.set_cons_zero, List.set_cons_succ]) | (refine wpZ_no _ (by rfl) (by rfl) (by rfl) (by rfl) ?_; try simp only [Act.put, List.getElem_toArray, List.getElem_cons_zero, List.getElem_cons_succ, List.setIfInBounds_toArray, List.set_cons_zero, List.set_cons_succ]) | (refine wpZ_noS _ (by rfl) (by rfl) (by rfl) (loadM h8) ?_; try simp only [Act.put, List.getElem_toArray, List.getElem_cons_zero, List.getElem_cons_succ, List.setIfInBounds_toArray, List.set_cons_zero, List.set_cons_succ])))
      (simp only [wpZ])
      clear h7 hS P g0 g1 W1
      by_cases hk0 : k = 0
      · rw [if_pos (.inl hk0)] at HBe
        have HB2 := Lib.hid HBe
        clear HBe
        subst hk0
        go_wp2
        go_roundw
        case rel => exact ⟨1, by omega, by go_num, by rw [HB2.out]; go_num, by rw [HB2.out], h8⟩
        case measure => simp [intOf]; omega
      · by_cases hv : bv < v
        · rw [if_pos (.inr hv)] at HBe
          have HB2 := Lib.hid HBe
          clear HBe
          have hk1 : 0 < (k : Int) := by omega
          go_wp2
          go_roundw
          case rel => exact ⟨k + 1, by omega, by go_num, by rw [HB2.out]; go_num, by rw [HB2.out], h8⟩
          case measure => simp [intOf]; omega
        · rw [if_neg (by omega)] at HBe
          have HB2 := Lib.hid HBe
          clear HBe
          have hk1 : 0 < (k : Int) := by omega
          have hv2 : v ≤ bv := by omega
          have hke : ((k : Int) == 0) = false := by rw [beq_eq_false_iff_ne]; omega
          have hvd : decide (bv < v) = false := by simp; omega
          clear hv
          go_wp2
          go_roundw
          case rel => exact ⟨k + 1, by omega, by go_num, by rw [HB2.out], by rw [HB2.out], h8⟩
          case measure => simp [intOf]; omega
    · obtain rfl : K = k := by omega
      go_wp2
      go_ret3
      exact ⟨rfl, hr.drop.drop⟩

end Go.Proofs.Ytibmokkalloabaa
