/- Contracts: the reference's Path. -/
import Derived.Test.YtahhbbcgfhmmgaaArT
import Derived.Test.YtahhbbcgfhmmgaaArL
open Go.RowKit Go.Own
namespace Go.Proofs.Ytahhbbcgfhmmgaa

def lenOfR : Value → Nat
  | .slice _ n _ => n
  | _ => 0
def RPathRel (b : Nat) (A : AR) (xs : List UInt8) (L : List Asn) (iv bv : Value) (wr : World) : Prop :=
  ∃ (i : Nat) (ys bs : List UInt8) (ao : Option Addr) (cap : Nat), iv = .int .i64 i ∧ bv = .slice ao bs.length cap ∧ Way A.all i ys ∧ xs = ys ++ bs.reverse ∧ Hold wr (rowA 5 1 ao bs.length cap (ub bs) :: rrA b A :: L)
def RPathRel2 (b : Nat) (A : AR) (xs bs : List UInt8) (ab : Option Addr) (cb N : Nat) (L : List Asn) (ov iv : Value) (wr : World) : Prop :=
  ∃ (j : Nat) (v : Int) (ao : Option Addr) (cap : Nat), iv = .int .i64 v ∧ v = (j : Int) - 1 ∧ j ≤ N ∧ ov = .slice ao (N - j) cap ∧ Hold wr (rowA 5 1 ao (N - j) cap (ub (xs.take (N - j))) :: rowA 5 1 ab N cb (ub bs) :: rrA b A :: L)

theorem rpath_no (b : Nat) (A : AR) (id : Int) (hv : hasA A id = false) (w : World) (L : List Asn) (h : Hold w (rrA b A :: L)) :
    Calls Try.prog 42 #[.pointer (some ⟨b, 0, none⟩), .int .i64 id] w fun e w' => e = .returned (.tuple #[.slice none 0 0, .int .i64 120]) ∧ Hold w' (rrA b A :: L) := by
  have P2 := there_ok b A id w L h
  rw [hv] at P2
  clear hv
  go_enter Try.func42, Try.ntmps42
  go_wp2_with (first
    | (go_at_call 36; refine P2.mono ?_; rintro e w3 ⟨rfl, rfl⟩))
  go_ret2
  exact ⟨rfl, h⟩

theorem ub_put {bs : List UInt8} {n : Nat} (h : n ≤ 255) : ub bs ++ [.int .u8 (n : Int)] = ub (bs ++ [UInt8.ofNat n]) := by
  simp only [ub, List.map_append, List.map_cons, List.map_nil]
  rw [bit_nat h]

set_option maxHeartbeats 4000000 in
set_option maxRecDepth 20000 in
theorem rpath_ok (b : Nat) (A : AR) (born : Nat → Nat) (hI : AI A born) (i : Nat) (hv : hasA A (i : Int) = true) (xs : List UInt8) (hW : Way A.all i xs) (w : World) (L : List Asn) (h : Hold w (rrA b A :: L)) :
    Calls Try.prog 42 #[.pointer (some ⟨b, 0, none⟩), .int .i64 i] w fun e w' => ∃ ao cap, e = .returned (.tuple #[.slice ao xs.length cap, .int .i64 0]) ∧ Hold w' (rowA 5 1 ao xs.length cap (ub xs) :: rrA b A :: L) := by
  obtain ⟨i5, hi5, hz0, hz1, hz2⟩ := info_parts info5
  have P2 := there_ok b A (i : Int) w L h
  rw [hv] at P2
  have hN : xs.length ≤ 65536 := by
    obtain ⟨i', p, e, hp, ht⟩ := has_yes hv
    have : i = i' := by omega
    subst this
    obtain ⟨ys, h2, h3⟩ := hI.way hp ht
    rw [hW.one h2]
    have := hI.len; have := hI.cap2; omega
  have HW := Lib.hid hW
  have HB := Lib.hid hI.nums
  obtain ⟨N, hNe⟩ : ∃ N, xs.length = N := ⟨_, rfl⟩
  have HN := Lib.hid hNe
  rw [hNe] at hN
  rw [hNe]
  clear hv hI hW hNe
  go_enter Try.func42, Try.ntmps42
  go_upto_region 3 with (first
    | (go_at_call 36; refine P2.mono ?_; rintro e w3 ⟨rfl, rfl⟩))
  clear P2
  have hz := h.nilRow 5 1
  go_wp2
  go_loopw [1, 6] (fun iv bv wr => RPathRel b A xs L iv bv wr) (fun _ bv _ => N - lenOfR bv)
  case atStart => exact ⟨i, xs, [], none, 0, rfl, rfl, HW.out, by simp, hz⟩
  case round =>
    clear h hz
    obtain ⟨j, ys, bs, ao, cap, rfl, rfl, hwj, hxs, hr⟩ := hrel
    obtain ⟨p, hp, hview⟩ := way_view hwj
    have hX := hr.mv 1
    (try dsimp only [Go.Own.front, Go.Own.arrA, Go.Own.atA, Go.Own.dropA, List.length_cons, List.length_nil, Nat.zero_add, Nat.reduceAdd] at hX)
    obtain ⟨ao1, ac, fo, fc, h1⟩ := ar_open hX
    have hjl : j < A.all.length := (List.getElem?_eq_some_iff.1 hp).1
    have hji : (j : Int) < (A.all.length : Int) := by omega
    have hj0 : 0 ≤ (j : Int) := by omega
    obtain ⟨rb, rp, rfl, G⟩ := pl_at rcells8 hp rfl (h1.mv 1)
    obtain ⟨g3', -⟩ := G _ _ (h1.mv 1) 4 (by omega)
    have g3 : wr.cell? ⟨rb, rp + j * 8 + 4, none⟩ = some (.int .i64 p.parent) := g3'
    obtain ⟨g4', -⟩ := G _ _ (h1.mv 1) 5 (by omega)
    have g4 : wr.cell? ⟨rb, rp + j * 8 + 5, none⟩ = some (.int .u8 p.bit) := g4'
    have g1 : wr.cell? ⟨b, 1, none⟩ = some (.slice (some ⟨rb, rp, none⟩) A.all.length ac) := h1.cell 1
    have hb8 := (HB.out j p hp).2
    have hlen := HN.out
    rw [hxs, List.length_append, List.length_reverse] at hlen
    have HXS := Lib.hid hxs
    have HP := Lib.hid hp
    clear g3' g4' G hp h1 hX hxs
    rcases hview with ⟨hneg, rfl⟩ | ⟨u, ys2, hpar, rfl, hw2⟩
    · have hge : ¬ 0 ≤ p.parent := by omega
      have hbN : bs.length = N := by simpa using hlen
      have HBX : Hid (xs = bs.reverse) := Lib.hid (by have := HXS.out; simpa using this)
      rw [hbN] at hr ⊢
      clear hwj hlen
      have W1 : IntKind.i64.wrap ((N : Int) - 1) = (N : Int) - 1 := IntWalk.i64_in _ (by omega)
      have hz2' := hr.nilRow 5 1
      generalize hm : A.all.length = m at *
      have HBN := Lib.hid hbN
      clear hm hbN
      go_wp2
      go_loopw [7, 8] (fun ov iv wr => RPathRel2 b A xs bs ao cap N L ov iv wr) (fun _ iv _ => (intOf iv + 1).toNat)
      case atStart => exact ⟨N, _, none, 0, rfl, rfl, Nat.le_refl _, by rw [Nat.sub_self], by rw [Nat.sub_self, List.take_zero]; exact hz2'⟩
      case round =>
        clear hr hz2' g1 g3 g4
        obtain ⟨j2, v, ao2, cap2, rfl, hv, hjN, rfl, hr⟩ := hrel
        cases j2 with
        | zero =>
          obtain rfl : v = -1 := by omega
          clear hv
          rw [Nat.sub_zero] at hr ⊢
          rw [List.take_of_length_le (by have := HN.out; omega)] at hr
          go_wp2
          go_ret2
          have h5 := (hr.mv 1).drop
          (try dsimp only [Go.Own.front, Go.Own.arrA, Go.Own.atA, Go.Own.dropA, List.length_cons, List.length_nil, Nat.zero_add, Nat.reduceAdd] at h5)
          exact ⟨ao2, cap2, rfl, h5⟩
        | succ j3 =>
          obtain rfl : v = (j3 : Int) := by omega
          have hX := hr.mv 1
          (try dsimp only [Go.Own.front, Go.Own.arrA, Go.Own.atA, Go.Own.dropA, List.length_cons, List.length_nil, Nat.zero_add, Nat.reduceAdd] at hX)
          obtain ⟨cb, co, rfl, hc, -⟩ := hX.at (by omega)
          have hk : bs[j3]? = some (xs[N - (j3 + 1)]'(by have := HN.out; omega)) := by
            have h1 := HBX.out
            have h2 := HBN.out
            have e : xs[N - (j3 + 1)]? = bs[j3]? := by
              conv => lhs; rw [h1]
              rw [List.getElem?_reverse (by omega)]
              congr 1; omega
            rw [← e]
            exact List.getElem?_eq_getElem _
          obtain ⟨x, hx⟩ : ∃ x, xs[N - (j3 + 1)]'(by have := HN.out; omega) = x := ⟨_, rfl⟩
          rw [hx] at hk
          have c5 : wr.cell? ⟨cb, co + j3, none⟩ = some (.int .u8 (x.toNat : Int)) := by
            rw [hc j3 (by omega), ub, List.getElem?_map, hk]; rfl
          have htk : ub (xs.take (N - (j3 + 1))) ++ [.int .u8 (x.toNat : Int)] = ub (xs.take (N - j3)) := by
            have e : xs.take (N - j3) = xs.take (N - (j3 + 1)) ++ [x] := by
              rw [show N - j3 = (N - (j3 + 1)) + 1 by omega, List.take_add_one, List.getElem?_eq_getElem (by have := HN.out; omega), hx]; rfl
            rw [e]; simp [ub]
          have HTK := Lib.hid htk
          have hjk : (j3 : Int) < (N : Int) := by omega
          have hj0 : 0 ≤ (j3 : Int) := by omega
          have hge : 0 ≤ (j3 : Int) := hj0
          have W2 : IntKind.i64.wrap ((j3 : Int) - 1) = (j3 : Int) - 1 := IntWalk.i64_in _ (by omega)
          obtain ⟨M, hM⟩ : ∃ M, N - (j3 + 1) = M := ⟨_, rfl⟩
          have HM : Hid (N - j3 = M + 1) := Lib.hid (by omega)
          have hM6 : M ≤ 65536 := by omega
          rw [hM] at hr ⊢
          have HM2 := Lib.hid hM
          clear htk hk hx hc hX hv hM
          go_wp2_with ((with_reducible refine wpList_plain (o := ⟨some 54, _, _, _, _, _⟩) rfl (fun K hK => ?_)); refine wp_append_one_h (w := wr) _ _ 58 (by rfl) 5 i5 (.int .u8 0) 1 1 Try.underlying58 hi5 hz0 hz1 hz2 (by rfl) ao2 M cap2 _ (by rfl) hr [.int .u8 (x.toNat : Int)] (by rfl) ⟨rfl, rfl, rfl, rfl⟩ (by rfl) (by simp [Value.oneCell']) (by unfold maxLen; omega) (by omega) (fun fo2 fc2 w3 h5 hc5 => ?_); refine hK _ _ ?_; clear hK K)
          go_roundw
          case rel =>
            have h1 := HTK.out
            rw [HM2.out] at h1
            rw [h1] at h5
            refine ⟨j3, _, fo2, fc2, rfl, rfl, by omega, by rw [HM.out], ?_⟩
            rw [HM.out] at h5 ⊢
            exact h5
          case measure => simp [intOf]
    · have hge : 0 ≤ p.parent := by omega
      have HW2 := Lib.hid hw2
      have hl2 : bs.length + 1 ≤ N := by simp at hlen; omega
      have hbl : bs.length ≤ 65536 := by omega
      clear hlen hw2 hwj
      go_wp2_with ((with_reducible refine wpList_plain (o := ⟨some 32, _, _, _, _, _⟩) rfl (fun K hK => ?_)); refine wp_append_one_h (w := wr) _ _ 58 (by rfl) 5 i5 (.int .u8 0) 1 1 Try.underlying58 hi5 hz0 hz1 hz2 (by rfl) ao bs.length cap _ (by rfl) hr [.int .u8 p.bit] (by rfl) ⟨rfl, rfl, rfl, rfl⟩ (by rfl) (by simp [Value.oneCell']) (by unfold maxLen; omega) (by omega) (fun fo2 fc2 w3 h5 hc5 => ?_); refine hK _ _ ?_; clear hK K; have k5 := h5.mv 1; obtain ⟨ao3, ac3, fo3, fc3, k6⟩ := ar_open k5; obtain ⟨rb3, rp3, rfl, G3⟩ := pl_at rcells8 HP.out rfl (k6.mv 1); have q3 : w3.cell? ⟨rb3, rp3 + j * 8 + 4, none⟩ = some (.int .i64 p.parent) := (G3 _ _ (k6.mv 1) 4 (by omega)).1; have q1 : w3.cell? ⟨b, 1, none⟩ = some (.slice (some ⟨rb3, rp3, none⟩) A.all.length ac3) := k6.cell 1; clear G3 k6 k5)
      go_roundw
      case rel =>
        rw [ub_put hb8] at h5
        have el : (bs ++ [UInt8.ofNat p.bit]).length = bs.length + 1 := by simp
        rw [← el] at h5
        exact ⟨u, ys2, bs ++ [UInt8.ofNat p.bit], fo2, fc2, rfl, by rw [el], HW2.out, by have := HXS.out; simpa using this, h5⟩
      case measure => simp [lenOfR]; omega

end Go.Proofs.Ytahhbbcgfhmmgaa
