/- Contracts: buckets made. -/
import Derived.Test.YtpffofliemooiaaBuD
open Go.RowKit Go.Own
namespace Go.Proofs.Ytpffofliemooiaa

theorem info24 : (Try.prog.info? 24).map (fun i => (i.zero, i.size, i.bytes)) = some (some (.slice none 0 0), 1, 24) := by kernel_rfl
theorem info3 : (Try.prog.info? 3).map (fun i => (i.zero, i.size, i.bytes)) = some (some (.int .i64 0), 1, 8) := by kernel_rfl

def newE (d lo hi cp : Int) : Nat := if d < 1 ∨ 65536 < d then 140 else if hi < lo ∨ cp < 1 ∨ 65536 < cp then 1 else if 65536 ≤ hi / d - lo / d then 6 else 0
def newS (d lo hi cp : Int) : BS := ⟨d, lo, hi, cp, lo / d, List.replicate (hi / d - lo / d + 1).toNat [], 0, 0, 0, 0, false⟩

theorem u64_sub {x y : Int} (h : 0 ≤ y - x ∧ y - x < 18446744073709551616) : IntKind.u64.wrap (IntKind.u64.wrap y - IntKind.u64.wrap x) = y - x := by
  rw [IntKind.wrap_u64, IntKind.wrap_u64, IntKind.wrap_u64]; omega
theorem sl_nil : ∀ K : Nat, sl (List.replicate K []) (List.replicate K (none, 0)) = List.replicate K (.slice none 0 0)
  | 0 => rfl
  | K + 1 => by simp [List.replicate_succ, sl, sl_nil K]
theorem rws_nil : ∀ K : Nat, rws (List.replicate K []) (List.replicate K (none, 0)) = List.replicate K (rowA 3 1 none 0 0 [])
  | 0 => rfl
  | K + 1 => by simp [List.replicate_succ, rws, rws_nil K, is]
theorem made_nil (K : Nat) : ((madeCells (Value.slice none 0 0).cells (K * 1)).toList).take (K * 1) = List.replicate K (.slice none 0 0) := by
  have e : (Value.slice none 0 0).cells = #[.slice none 0 0] := rfl
  rw [e]
  unfold madeCells
  apply List.ext_getElem?
  intro j
  by_cases hj : j < K
  · simp [hj, Nat.mod_one]
  · simp [hj, Nat.mod_one]

set_option maxRecDepth 20000 in
theorem new_good (d lo hi cp : Int) (hd1 : 1 ≤ d) (hd2 : d ≤ 65536) (hlo : I64 lo) (hhi : I64 hi) (hlh : lo ≤ hi) (hc1 : 1 ≤ cp) (hc2 : cp ≤ 65536) (hsz : hi / d - lo / d < 65536) (w : World) (L : List Asn) (h : Hold w L) :
    Calls Try.prog 9 #[.int .i64 d, .int .i64 lo, .int .i64 hi, .int .i64 cp] w fun e w' => ∃ b, e = .returned (.tuple #[.pointer (some ⟨b, 0, none⟩), .int .i64 0]) ∧ Hold w' (bkA b (newS d lo hi cp) :: L) := by
  obtain ⟨i24, hi4, hz0, hz1, hz2⟩ := info_parts info24
  have P1 := fun w => index_ok lo d hlo hd1 w
  have P2 := fun w => index_ok hi d hhi hd1 w
  obtain ⟨a1, a2⟩ := idx_I64 hlo hd1
  obtain ⟨b1, b2⟩ := idx_I64 hhi hd1
  have hm := idx_mono lo hi d hd1 hlh
  obtain ⟨x, hx⟩ : ∃ x, x = lo / d := ⟨_, rfl⟩
  obtain ⟨y, hy⟩ : ∃ y, y = hi / d := ⟨_, rfl⟩
  rw [← hx] at P1 a1 a2 hm hsz
  rw [← hy] at P2 b1 b2 hm hsz
  have HXY := Lib.hid (And.intro hx hy)
  clear hx hy
  go_enter Try.func9, Try.ntmps9
  go_upto_if 42 with (first
    | (go_at_call 27; with_reducible refine (P1 _).mono ?_; rintro e w1 ⟨rfl, rfl⟩)
    | (go_at_call 27; with_reducible refine (P2 _).mono ?_; rintro e w1 ⟨rfl, rfl⟩))
  rw [u64_sub (by omega)]
  have hdec : decide (65536 ≤ y - x) = false := by simp; omega
  obtain ⟨kk, hKe⟩ : ∃ kk : Nat, y - x + 1 = kk := ⟨(y - x + 1).toNat, by omega⟩
  have hKb : (kk : Int) ≤ 65536 := by omega
  have HKE : Hid (kk = (y - x + 1).toNat) := Lib.hid (by omega)
  go_upto_region 8 with (fail)
  go_wp2_with ((with_reducible refine wpList_plain (o := ⟨some 52, _, _, _, _, _⟩) rfl (fun K hK => ?_)); refine wp_make_h _ _ 65 (by rfl) 24 i24 (.slice none 0 0) 1 24 Try.underlying65 hi4 hz0 hz1 hz2 .i64 .i64 kk kk (by rfl) (by rfl) (by omega) (by omega) (by omega) (by omega) h (fun ao w4 h4 => ?_); refine hK _ _ ?_; clear hK K; rw [Int.toNat_natCast, made_nil kk] at h4)
  have h5 := (h4.nilRows 3 1 kk).box 67 [.int .i64 d, .int .i64 lo, .int .i64 hi, .int .i64 cp, .int .i64 x, .slice ao kk kk, .int .i64 0, .int .i64 0, .int .i64 0, .int .i64 0, .bool false]
  have h6 := h5.arr [0, 2, 1]
  (try dsimp only [Go.Own.front, Go.Own.arrA, Go.Own.atA, Go.Own.dropA, List.length_cons, List.length_nil, Nat.zero_add, Nat.reduceAdd] at h6)
  go_ret2
  refine ⟨w4.heap.size, rfl, ?_⟩
  have hl : (newS d lo hi cp).rows.length = kk := by simp [newS, HKE.out, HXY.out.1, HXY.out.2]
  refine bk_close (S := newS d lo hi cp) (ro := ao) (rc := kk) (vs := List.replicate kk (none, 0)) (by rw [hl]; simp) ?_
  rw [hl]
  have e1 : (newS d lo hi cp).rows = List.replicate kk [] := by simp [newS, HKE.out, HXY.out.1, HXY.out.2]
  rw [e1, sl_nil, rws_nil]
  have e2 : (newS d lo hi cp).cells (.slice ao kk kk) = [.int .i64 d, .int .i64 lo, .int .i64 hi, .int .i64 cp, .int .i64 x, .slice ao kk kk, .int .i64 0, .int .i64 0, .int .i64 0, .int .i64 0, .bool false] := by
    rw [HXY.out.1]; rfl
  rw [e2]
  exact h6

end Go.Proofs.Ytpffofliemooiaa
