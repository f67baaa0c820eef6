/- The walk of MarkerFinds. -/
import Derived.Test.YtibmokkalloabaaMkV
import Derived.Test.YtibmokkalloabaaArr
open Go.RowKit Go.Own
namespace Go.Proofs.Ytibmokkalloabaa

/-- What is looked at, as it lies in memory. -/
def lookX (B : Nat) (n N : Int) (v : Value) (fr tu th : Int) : List Value := [.int .u64 B, .int .i64 n, .int .i64 N, v, .int .i64 fr, .int .i64 tu, .int .i64 th]
theorem lookM {w : World} {q : Nat} {B : Nat} {n N : Int} {v : Value} {fr tu th : Int} {L : List Asn} (h : Hold w (cellsA q 47 (lookX B n N v fr tu th) :: L)) :
    w.cell? ⟨q, 0, none⟩ = some (.int .u64 B) ∧ w.cell? ⟨q, 1, none⟩ = some (.int .i64 n) ∧ w.cell? ⟨q, 2, none⟩ = some (.int .i64 N) ∧ w.cell? ⟨q, 3, none⟩ = some v ∧ w.cell? ⟨q, 4, none⟩ = some (.int .i64 fr) ∧ w.cell? ⟨q, 5, none⟩ = some (.int .i64 tu) ∧ w.cell? ⟨q, 6, none⟩ = some (.int .i64 th) :=
  ⟨h.cell 0, h.cell 1, h.cell 2, h.cell 3, h.cell 4, h.cell 5, h.cell 6⟩

def SevRel (N : Nat) (aa : Option Addr) (cap : Nat) (R : List Asn) (i : Value) (wr : World) : Prop := ∃ (k : Nat) (xs : List Value), k ≤ N ∧ i = .int .i64 k ∧ Hold wr (rowA 3 1 aa N cap xs :: R)
def EigRel (N : Nat) (R : List Asn) (a i : Value) (wr : World) : Prop := ∃ (k : Nat) (ao : Option Addr) (cap : Nat) (xs : List Value), k ≤ 64 ∧ i = .int .i64 k ∧ a = .slice ao (N + k) cap ∧ Hold wr (rowA 3 1 ao (N + k) cap xs :: R)

theorem findR_le (B : Nat) (n N : Int) (ys : List UInt8) (th : Int) : (findR B n N ys th).length ≤ ys.length + 1 := by
  unfold findR
  split
  · have := places_le (fun p => valAt N B n.toNat ys p) th (ys.length + 1 - n.toNat); omega
  · simp

set_option maxHeartbeats 4000000 in
set_option maxRecDepth 20000 in
theorem finds_walk (B : Nat) (n N : Int) (hB : B < 18446744073709551616) (ys : List UInt8) (C : Asn) (ao : Option Addr) (M cap : Nat) (hR : Reads C 1 (.slice ao M cap) M (ub ys)) (hM : M ≤ 1048576) (fr tu th : Int) (w : World) (L : List Asn) (h : Hold w (C :: L)) :
    Calls Try.prog 8 #[.agg (lookX B n N (.slice ao M cap) fr tu th).toArray] w fun e w' => e = .returned (.bool true) ∧ Hold w' (C :: L) := by
  obtain ⟨i3, hi, hz0, hz1, hz2⟩ := info_parts info3
  obtain ⟨S0, r0⟩ := h.reads hR
  have hyn : ys.length = M := by simpa using r0.bounds.1
  clear r0
  have hfl := findR_le B n N ys th
  rw [hyn] at hfl
  have hb := h.box 47 (lookX B n N (.slice ao M cap) fr tu th)
  have P0 := fun w L h => own_ok ys C ao M cap hR (by omega) w L h
  have P1 := fun oa oc w L h => corr_ok B n N hB ys (ownA oa M oc ys) oa M oc (ownA_reads hyn) (by omega) fr w L h
  have P2 := fun w L h => rcorr_ok B n N hB ys C ao M cap hR (by omega) fr w L h
  have P3 := fun oa oc w L h => fbest_ok B n N hB ys (ownA oa M oc ys) oa M oc (ownA_reads hyn) (by omega) fr tu w L h
  have P4 := fun w L h => rbest_ok B n N hB ys C ao M cap hR (by omega) fr tu w L h
  have P5 := fun oa oc w L h => find_ok B n N hB ys (ownA oa M oc ys) oa M oc (ownA_reads hyn) (by omega) th w L h
  have P6 := fun w L h => rfind_ok B n N hB ys C ao M cap hR (by omega) th w L h
  have HY := Lib.hid hyn
  clear hyn
  generalize corrV B n N ys fr = cv at *
  generalize corrE B n N ys fr = ce at *
  generalize bestR B n N ys fr tu = br at *
  generalize bestE B n N ys fr tu = be at *
  generalize findR B n N ys th = fl at *
  generalize findE B n N ys = fe at *
  go_enter Try.func8, Try.ntmps8
  go_upto_region 1 with (fail)
  refine gen_world hb (fun w1 hb => ?_)
  generalize w.heap.size = q at *
  obtain ⟨g0, g1, g2, g3, g4, g5, g6⟩ := lookM hb
  go_upto_region 2 with (go_at_call 20; refine (P0 _ _ (hb.arr [1, 0])).mono ?_; rintro e w2 ⟨oa, oc, rfl, h2⟩)
  (try dsimp only [Go.Own.front, Go.Own.arrA, Go.Own.atA, Go.Own.dropA, List.length_cons, List.length_nil, Nat.zero_add, Nat.reduceAdd] at h2)
  obtain ⟨g0, g1, g2, g3, g4, g5, g6⟩ := lookM (h2.arr [2, 0, 1])
  go_upto_region 3 with (go_at_call 19; refine (P1 oa oc _ _ h2).mono ?_; rintro e w3 ⟨rfl, h3⟩)
  (try dsimp only [Go.Own.front, Go.Own.arrA, Go.Own.atA, Go.Own.dropA, List.length_cons, List.length_nil, Nat.zero_add, Nat.reduceAdd] at h3)
  obtain ⟨g0, g1, g2, g3, g4, g5, g6⟩ := lookM (h3.arr [2, 0, 1])
  go_upto_region 4 with (go_at_call 27; refine (P2 _ _ (h3.arr [1, 0])).mono ?_; rintro e w4 ⟨rfl, h4⟩)
  (try dsimp only [Go.Own.front, Go.Own.arrA, Go.Own.atA, Go.Own.dropA, List.length_cons, List.length_nil, Nat.zero_add, Nat.reduceAdd] at h4)
  obtain ⟨g0, g1, g2, g3, g4, g5, g6⟩ := lookM (h4.arr [2, 0, 1])
  go_upto_region 5 with (go_at_call 28; refine (P3 oa oc _ _ (h4.arr [1, 0])).mono ?_; rintro e w5 ⟨rfl, h5⟩)
  (try dsimp only [Go.Own.front, Go.Own.arrA, Go.Own.atA, Go.Own.dropA, List.length_cons, List.length_nil, Nat.zero_add, Nat.reduceAdd] at h5)
  obtain ⟨g0, g1, g2, g3, g4, g5, g6⟩ := lookM (h5.arr [2, 0, 1])
  go_upto_region 6 with (go_at_call 29; refine (P4 _ _ (h5.arr [1, 0])).mono ?_; rintro e w6 ⟨rfl, h6⟩)
  (try dsimp only [Go.Own.front, Go.Own.arrA, Go.Own.atA, Go.Own.dropA, List.length_cons, List.length_nil, Nat.zero_add, Nat.reduceAdd] at h6)
  obtain ⟨g0, g1, g2, g3, g4, g5, g6⟩ := lookM (h6.arr [2, 0, 1])
  go_upto_region 7 with (go_at_call 30; refine (P5 oa oc _ _ (h6.arr [1, 0])).mono ?_; rintro e w7 ⟨aa, ac, rfl, h7⟩)
  (try dsimp only [Go.Own.front, Go.Own.arrA, Go.Own.atA, Go.Own.dropA, List.length_cons, List.length_nil, Nat.zero_add, Nat.reduceAdd] at h7)
  obtain ⟨g0, g1, g2, g3, g4, g5, g6⟩ := lookM (h7.arr [3, 0, 1, 2])
  go_upto_region 8 with (go_at_call 30; refine (P5 oa oc _ _ (h7.arr [1, 0])).mono ?_; rintro e w8 ⟨ba, bc, rfl, h8⟩)
  (try dsimp only [Go.Own.front, Go.Own.arrA, Go.Own.atA, Go.Own.dropA, List.length_cons, List.length_nil, Nat.zero_add, Nat.reduceAdd] at h8)
  obtain ⟨g0, g1, g2, g3, g4, g5, g6⟩ := lookM (h8.arr [4, 0, 1, 2, 3])
  go_upto_region 9 with (go_at_call 31; refine (P6 _ _ (h8.arr [3, 0, 1, 2])).mono ?_; rintro e w9 ⟨la, lc, rfl, h9⟩)
  (try dsimp only [Go.Own.front, Go.Own.arrA, Go.Own.atA, Go.Own.dropA, List.length_cons, List.length_nil, Nat.zero_add, Nat.reduceAdd] at h9)
  have hx := h9.arr [3, 0, 2, 4, 1, 5]
  (try dsimp only [Go.Own.front, Go.Own.arrA, Go.Own.atA, Go.Own.dropA, List.length_cons, List.length_nil, Nat.zero_add, Nat.reduceAdd] at hx)
  obtain ⟨g0, g1, g2, g3, g4, g5, g6⟩ := lookM (hx.arr [5, 0, 1, 2, 3, 4])
  clear P0 P1 P2 P3 P4 P5 P6 h2 h3 h4 h5 h6 h7 h8 h9 hb
  have cM : (M : Int) ≤ 1048576 := by omega
  go_upto_region 11 with (first
    | (go_at_call 13; refine (num_any _ _ _ (Hold.start _)).mono ?_; rintro e w5 ⟨rfl, rfl⟩)
    | (go_at_call 32; with_reducible refine (ints_ok fl aa la _ ac lc _ (hx.arr [3, 0, 1, 2]).rd (hx.arr [1, 0]).rd).mono ?_; rintro e wa ⟨rfl, ka, rfl⟩; have hxa := hx.drewN ka)
    | (go_at_call 32; with_reducible refine (ints_ok fl ba la _ bc lc _ (hxa.arr [2, 0, 1]).rd (hxa.arr [1, 0]).rd).mono ?_; rintro e wb ⟨rfl, kb, rfl⟩; have hxb := hx.drewN (ka + kb))
    | (go_at_call 33; refine (kept_ok ys oa ao M oc cap HY.out (by omega) _ _ hxb ((hxb.arr [4, 0, 1, 2, 3]).reads hR)).mono ?_; rintro e wk ⟨rfl, rfl⟩)
    | (go_at_call 14; refine (live_ok _ _ hxb).mono ?_; rintro e wl ⟨rfl, hl⟩))
  have h4 := hl.arr [3, 0, 1, 2]
  have h4 : Hold wl (rowA 3 1 aa fl.length ac (is fl) :: ownA oa M oc ys :: PlcRow fl la lc :: PlcRow fl ba bc :: C :: cellsA q 47 (lookX B n N (.slice ao M cap) fr tu th) :: L) := h4
  clear g0 g1 g2 g3 g4 g5 g6 hl
  generalize hfn : fl.length = FN at *
  have HFN := Lib.hid hfn
  clear hfn
  go_wp2
  go_loopw [20] (fun i wr => SevRel FN aa ac (ownA oa M oc ys :: PlcRow fl la lc :: PlcRow fl ba bc :: C :: cellsA q 47 (lookX B n N (.slice ao M cap) fr tu th) :: L) i wr) (fun i _ => FN - (intOf i).toNat)
  case atStart => exact ⟨0, _, by omega, rfl, h4⟩
  case round =>
    clear h4
    obtain ⟨k, xs, hk, rfl, hr⟩ := hrel
    obtain ⟨wo, hwo⟩ : ∃ x, x = wr := ⟨_, rfl⟩; subst hwo
    by_cases hlt : k < FN
    · have hki : (k : Int) < FN := by omega
      obtain ⟨rb, ro, rfl, hct, hft⟩ := hr.at (by omega)
      have hxl := hr.bounds.1
      have c1 : ∃ v, wo.cell? ⟨rb, ro + k, none⟩ = some v := ⟨xs[k]'(by omega), by rw [hct k (by omega)]; simp⟩
      obtain ⟨v0, c1⟩ := c1
      have f1 := hft (ro + k)
      have HX := hr.put k (by omega) (.int .i64 (-7))
      clear hct hft hxl
      go_wp2
      go_roundw
      case rel => exact ⟨k + 1, _, by omega, by go_num, HX⟩
      case measure => simp [intOf]; omega
    · obtain rfl : FN = k := by omega
      go_wp2
      go_loopw [14, 21] (fun a i wr => EigRel FN (ownA oa M oc ys :: PlcRow fl la lc :: PlcRow fl ba bc :: C :: cellsA q 47 (lookX B n N (.slice ao M cap) fr tu th) :: L) a i wr) (fun _ i _ => 64 - (intOf i).toNat)
      case atStart => exact ⟨0, _, _, _, by omega, rfl, rfl, hr⟩
      case round =>
        clear hr
        obtain ⟨k, ao1, cap1, xs1, hk2, rfl, rfl, hr⟩ := hrel
        by_cases hlt2 : k < 64
        · have hki : (k : Int) < 64 := by omega
          go_wp2_with ((with_reducible refine wpList_plain (o := ⟨some 180, _, _, _, _, _⟩) rfl (fun K hK => ?_)); refine wp_append_one_h (w := wr) _ _ 61 (by rfl) 3 i3 (.int .i64 0) 1 8 Try.underlying61 hi hz0 hz1 hz2 (by rfl) _ _ _ _ (by rfl) hr [.int .i64 (-8)] (by rfl) ⟨rfl, rfl, rfl, rfl⟩ (by rfl) (by simp [Value.oneCell']) (by unfold maxLen; omega) (by omega) (fun ao3 cap3 w3 h4 hc3 => ?_); refine hK _ _ ?_; clear hK K)
          go_roundw
          case rel => exact ⟨k + 1, _, _, _, by omega, by go_num, rfl, h4⟩
          case measure => simp [intOf]; omega
        · obtain rfl : k = 64 := by omega
          have hb := hr.arr [3, 0, 1, 2]
          have hl := hr.arr [2, 0, 1]
          have rb : ∃ S, Rd wr 1 (.slice ba FN bc) FN (is fl) S := by have := Hold.rd hb; rwa [HFN.out] at this
          have rl : ∃ S, Rd wr 1 (.slice la FN lc) FN (is fl) S := by have := Hold.rd hl; rwa [HFN.out] at this
          have hz := (hr.arr [4, 0, 1, 2, 3, 5]).arr [0]
          go_wp2_with (go_at_call 32; refine (ints_ok fl ba la FN bc lc _ rb rl).mono ?_; rintro e wb ⟨rfl, kb, rfl⟩)
          go_ret
          exact ⟨rfl, ((hr.arr [0, 1, 2, 3, 5, 4]).drop.drop.drop.drop.drop).drewN kb⟩

end Go.Proofs.Ytibmokkalloabaa
