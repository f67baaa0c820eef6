/- Contracts: Path. -/
import Derived.Test.YtahhbbcgfhmmgaaArK
open Go.RowKit Go.Own
namespace Go.Proofs.Ytahhbbcgfhmmgaa

/-- The bits from the root to a place. -/
inductive Way (l : List PL) : Nat → List UInt8 → Prop
  | root {i : Nat} {p : PL} : l[i]? = some p → p.parent < 0 → Way l i []
  | step {i u : Nat} {p : PL} {xs : List UInt8} : l[i]? = some p → p.parent = (u : Int) → Way l u xs → Way l i (xs ++ [UInt8.ofNat p.bit])
theorem Way.one {l : List PL} {i : Nat} {xs : List UInt8} (h : Way l i xs) : ∀ {ys : List UInt8}, Way l i ys → xs = ys := by
  induction h with
  | root h1 h2 =>
    intro ys hy
    cases hy with
    | root _ _ => rfl
    | step h3 h4 _ => rw [h1] at h3; simp at h3; subst h3; omega
  | step h1 h2 _ ih =>
    intro ys hy
    cases hy with
    | root h3 h4 => rw [h1] at h3; simp at h3; subst h3; omega
    | step h3 h4 h5 =>
      rw [h1] at h3; simp at h3; subst h3
      have hu : _ = _ := Int.ofNat.inj (h2.symm.trans h4)
      subst hu
      rw [ih h5]
theorem AI.way {A : AR} {born : Nat → Nat} (hI : AI A born) {i : Nat} {p : PL} (hp : A.all[i]? = some p) (ht : p.taken = true) : ∃ xs, Way A.all i xs ∧ xs.length < A.all.length := by
  have key : ∀ N i p, A.all[i]? = some p → p.taken = true → born i ≤ N → ∃ xs, Way A.all i xs ∧ ∃ az : List Nat, az.length = xs.length + 1 ∧ az.Nodup ∧ ∀ a ∈ az, a < A.all.length ∧ born a ≤ born i := by
    intro N
    induction N with
    | zero =>
      intro i p hp ht hN
      have hi : i < A.all.length := (List.getElem?_eq_some_iff.1 hp).1
      rcases hI.up i p hp ht with h | ⟨u, q, -, -, -, h4⟩
      · exact ⟨[], .root hp (by omega), [i], rfl, by simp, fun a ha => by simp at ha; subst ha; exact ⟨hi, Nat.le_refl _⟩⟩
      · omega
    | succ N ih =>
      intro i p hp ht hN
      have hi : i < A.all.length := (List.getElem?_eq_some_iff.1 hp).1
      rcases hI.up i p hp ht with h | ⟨u, q, h1, h2, h3, h4⟩
      · exact ⟨[], .root hp (by omega), [i], rfl, by simp, fun a ha => by simp at ha; subst ha; exact ⟨hi, Nat.le_refl _⟩⟩
      · obtain ⟨xs, g1, az, g2, g3, g4⟩ := ih u q h2 h3 (by omega)
        refine ⟨_, .step hp h1 g1, i :: az, by simp [g2], List.nodup_cons.2 ⟨fun ha => by have := (g4 i ha).2; omega, g3⟩, fun a ha => ?_⟩
        rcases List.mem_cons.1 ha with rfl | ha
        · exact ⟨hi, Nat.le_refl _⟩
        · have := g4 a ha
          exact ⟨this.1, by omega⟩
  obtain ⟨xs, g1, az, g2, g3, g4⟩ := key (born i) i p hp ht (Nat.le_refl _)
  have := pigeon A.all.length az g3 (fun a ha => (g4 a ha).1)
  exact ⟨xs, g1, by omega⟩
theorem bit_nat {n : Nat} (h : n ≤ 255) : (UInt8.ofNat n).toNat = n := by
  simp; omega

def PathRel (b : Nat) (A : AR) (N : Nat) (L : List Asn) (nv xv : Value) (wr : World) : Prop :=
  ∃ (k i : Nat) (ys : List UInt8), nv = .int .i64 k ∧ xv = .int .i64 i ∧ Way A.all i ys ∧ k + ys.length = N ∧ Hold wr (arA b A :: L)
def PathRel2 (b : Nat) (A : AR) (xs : List UInt8) (a2 : Option Addr) (N : Nat) (L : List Asn) (nv xv : Value) (wr : World) : Prop :=
  ∃ (k i : Nat) (zs : List Value), nv = .int .i64 k ∧ xv = .int .i64 i ∧ Way A.all i (xs.take k) ∧ k ≤ N ∧ zs.drop k = (ub xs).drop k ∧ Hold wr (rowA 5 1 a2 N N zs :: arA b A :: L)

/-- No arena of one's own, no such place: no way. -/
theorem path_no (b : Nat) (A : AR) (hc1 : 1 ≤ A.cap) (id : Int) (hv : hasA A id = false) (w : World) (L : List Asn) (h : Hold w (arA b A :: L)) :
    Calls Try.prog 22 #[.pointer (some ⟨b, 0, none⟩), .int .i64 id] w fun e w' => e = .returned (.tuple #[.slice none 0 0, .int .i64 120]) ∧ Hold w' (arA b A :: L) := by
  have P2 := has_ok b A hc1 id w L h
  obtain ⟨ao, ac, fo, fc, h1⟩ := ar_open h
  have g0 : w.cell? ⟨b, 0, none⟩ = some (.int .i64 A.cap) := h1.cell 0
  have P1 := none_ok b A.cap (by omega) w g0
  rw [hv] at P2
  clear hc1 g0 h1 hv
  go_enter Try.func22, Try.ntmps22
  go_wp2_with (first
    | (go_at_call 24; refine P1.mono ?_; rintro e w2 ⟨rfl, rfl⟩)
    | (go_at_call 26; refine P2.mono ?_; rintro e w3 ⟨rfl, rfl⟩))
  go_ret2
  exact ⟨rfl, h⟩

theorem way_cons {l : List PL} {i u : Nat} {p : PL} {ys : List UInt8} (h : Way l i ys) (hp : l[i]? = some p) (hu : p.parent = (u : Int)) : ∃ xs, ys = xs ++ [UInt8.ofNat p.bit] ∧ Way l u xs := by
  cases h with
  | root h1 h2 => rw [hp] at h1; simp at h1; subst h1; omega
  | step h1 h2 h3 =>
    rw [hp] at h1; simp at h1; subst h1
    have hu : _ = _ := Int.ofNat.inj (h2.symm.trans hu)
    subst hu
    exact ⟨_, rfl, h3⟩
theorem way_end {l : List PL} {i : Nat} {p : PL} {ys : List UInt8} (h : Way l i ys) (hp : l[i]? = some p) (hu : p.parent < 0) : ys = [] := by
  cases h with
  | root h1 h2 => rfl
  | step h1 h2 h3 => rw [hp] at h1; simp at h1; subst h1; omega
theorem way_view {l : List PL} {i : Nat} {ys : List UInt8} (h : Way l i ys) : ∃ p, l[i]? = some p ∧ ((p.parent < 0 ∧ ys = []) ∨ ∃ (u : Nat) (xs : List UInt8), p.parent = u ∧ ys = xs ++ [UInt8.ofNat p.bit] ∧ Way l u xs) := by
  cases h with
  | root h1 h2 => exact ⟨_, h1, .inl ⟨h2, rfl⟩⟩
  | step h1 h2 h3 => exact ⟨_, h1, .inr ⟨_, _, h2, rfl, h3⟩⟩

set_option maxHeartbeats 4000000 in
set_option maxRecDepth 20000 in
theorem path_ok (b : Nat) (A : AR) (born : Nat → Nat) (hI : AI A born) (i : Nat) (hv : hasA A (i : Int) = true) (xs : List UInt8) (hW : Way A.all i xs) (w : World) (L : List Asn) (h : Hold w (arA b A :: L)) :
    Calls Try.prog 22 #[.pointer (some ⟨b, 0, none⟩), .int .i64 i] w fun e w' => ∃ ao, e = .returned (.tuple #[.slice ao xs.length xs.length, .int .i64 0]) ∧ Hold w' (rowA 5 1 ao xs.length xs.length (ub xs) :: arA b A :: L) := by
  obtain ⟨i5, hi5, hz0, hz1, hz2⟩ := info_parts info5
  have hc1 := hI.cap1
  have P2 := has_ok b A hc1 (i : Int) w L h
  obtain ⟨ao, ac, fo, fc, h1⟩ := ar_open h
  have g0 : w.cell? ⟨b, 0, none⟩ = some (.int .i64 A.cap) := h1.cell 0
  have P1 := none_ok b A.cap (by omega) w g0
  rw [hv] at P2
  have hN : xs.length ≤ 65536 := by
    obtain ⟨i', p, e, hp, ht⟩ := has_yes hv
    have : i = i' := by omega
    subst this
    obtain ⟨ys, h2, h3⟩ := hI.way hp ht
    rw [hW.one h2]
    have := hI.len; have := hI.cap2; omega
  have HW := Lib.hid hW
  have HB := Lib.hid hI.nums
  obtain ⟨N, hNe⟩ : ∃ N, xs.length = N := ⟨_, rfl⟩
  have HN := Lib.hid hNe
  rw [hNe] at hN
  rw [hNe]
  clear hc1 g0 h1 hv hI hW hNe
  go_enter Try.func22, Try.ntmps22
  go_upto_region 6 with (first
    | (go_at_call 24; refine P1.mono ?_; rintro e w2 ⟨rfl, rfl⟩)
    | (go_at_call 26; refine P2.mono ?_; rintro e w3 ⟨rfl, rfl⟩))
  clear P1 P2
  go_wp2
  go_loopw [6, 7] (fun nv xv wr => PathRel b A N L nv xv wr) (fun nv _ _ => N - (intOf nv).toNat)
  case atStart => exact ⟨0, i, xs, rfl, rfl, HW.out, by rw [HN.out]; omega, h⟩
  case round =>
    clear h
    obtain ⟨k, j, ys, rfl, rfl, hwj, hkN, hr⟩ := hrel
    obtain ⟨p, hp, hview⟩ := way_view hwj
    obtain ⟨ao, ac, fo, fc, h1⟩ := ar_open hr
    have hjl : j < A.all.length := (List.getElem?_eq_some_iff.1 hp).1
    have hji : (j : Int) < (A.all.length : Int) := by omega
    have hj0 : 0 ≤ (j : Int) := by omega
    obtain ⟨rb, rp, rfl, G⟩ := pl_at cells8 hp rfl (h1.mv 1)
    obtain ⟨g3', -⟩ := G _ _ (h1.mv 1) 3 (by omega)
    have g3 : wr.cell? ⟨rb, rp + j * 8 + 3, none⟩ = some (.int .i64 p.parent) := g3'
    have g1 : wr.cell? ⟨b, 1, none⟩ = some (.slice (some ⟨rb, rp, none⟩) A.all.length ac) := h1.cell 1
    have hk6 : k ≤ 65536 := by omega
    have W1 : IntKind.i64.wrap ((k : Int) + 1) = (k : Int) + 1 := IntWalk.i64_in _ (by omega)
    have H := Lib.hid hr
    have HWJ := Lib.hid hwj
    clear g3' G hp h1 hr hwj
    rcases hview with ⟨hneg, rfl⟩ | ⟨u, ys2, hpar, rfl, hw2⟩
    · have hge : ¬ 0 ≤ p.parent := by omega
      obtain rfl : k = N := by simpa using hkN
      generalize hm : A.all.length = m at *
      clear hm
      go_upto_region 11 with ((with_reducible refine wpList_plain (o := ⟨some 37, _, _, _, _, _⟩) rfl (fun K hK => ?_)); refine wp_make_h _ _ 58 (by rfl) 5 i5 (.int .u8 0) 1 1 Try.underlying58 hi5 hz0 hz1 hz2 .i64 .i64 k k (by rfl) (by rfl) (by omega) (by omega) (by omega) (by omega) H.out (fun a2 w4 h4 => ?_); refine hK _ _ ?_; clear hK K; rw [Int.toNat_natCast] at h4)
      clear g1 g3 H HWJ hneg hge W1
      try simp only [Act.put, List.getElem_toArray, List.getElem_cons_zero, List.getElem_cons_succ, List.setIfInBounds_toArray, List.set_cons_zero, List.set_cons_succ]
      go_upto_region 11 with (fail)
      generalize hzz : List.take (k * 1) (madeCells (Value.int IntKind.u8 0).cells (k * 1)).toList = zs at h4
      have hzl : zs.length = k := by have := h4.bounds.1; omega
      clear hzz hi5 hz0 hz1 hz2
      have hk9 : (k : Int) ≤ 65536 := by omega
      go_wp2
      go_loopw [6, 9] (fun nv xv wr => PathRel2 b A xs a2 k L nv xv wr) (fun nv _ _ => (intOf nv).toNat)
      case atStart =>
        refine ⟨k, i, zs, rfl, rfl, by rw [List.take_of_length_le (by have := HN.out; omega)]; exact HW.out, Nat.le_refl _, ?_, h4⟩
        rw [List.drop_eq_nil_of_le (by omega), List.drop_eq_nil_of_le (by have := HN.out; simp; omega)]
      case round =>
        clear h4 hzl zs
        obtain ⟨k1, j1, zs, rfl, rfl, hw1, hk1, hzd, hr⟩ := hrel
        obtain ⟨p1, hp1, hview⟩ := way_view hw1
        have hX := hr.mv 1
        (try dsimp only [Go.Own.front, Go.Own.arrA, Go.Own.atA, Go.Own.dropA, List.length_cons, List.length_nil, Nat.zero_add, Nat.reduceAdd] at hX)
        obtain ⟨ao, ac, fo, fc, h1⟩ := ar_open hX
        have hjl : j1 < A.all.length := (List.getElem?_eq_some_iff.1 hp1).1
        have hji : (j1 : Int) < (A.all.length : Int) := by omega
        have hj0 : 0 ≤ (j1 : Int) := by omega
        obtain ⟨rb, rp, rfl, G⟩ := pl_at cells8 hp1 rfl (h1.mv 1)
        obtain ⟨g3', -⟩ := G _ _ (h1.mv 1) 3 (by omega)
        obtain ⟨g4', -⟩ := G _ _ (h1.mv 1) 4 (by omega)
        have g3 : wr.cell? ⟨rb, rp + j1 * 8 + 3, none⟩ = some (.int .i64 p1.parent) := g3'
        have g4 : wr.cell? ⟨rb, rp + j1 * 8 + 4, none⟩ = some (.int .u8 p1.bit) := g4'
        have g1 : wr.cell? ⟨b, 1, none⟩ = some (.slice (some ⟨rb, rp, none⟩) A.all.length ac) := h1.cell 1
        have hb8 := (HB.out j1 p1 hp1).2
        clear g3' g4'
        rcases hview with ⟨hneg, hnil⟩ | ⟨u, ys2, hpar, heq, hw2⟩
        · have hge : ¬ 0 ≤ p1.parent := by omega
          have hk0 : k1 = 0 := by
            have := congrArg List.length hnil
            have h2 := HN.out
            simp only [List.length_take, List.length_nil] at this; omega
          subst hk0
          have hzx : zs = ub xs := by simpa using hzd
          have H := Lib.hid hr
          have HZX := Lib.hid hzx
          clear hr h1 hX hp1 hw1 hnil hzd hzx G
          generalize hm : A.all.length = m at *
          go_wp2
          go_ret2
          refine ⟨a2, rfl, ?_⟩
          rw [← HZX.out]; exact H.out
        · have hge : 0 ≤ p1.parent := by omega
          have hlk := congrArg List.length heq
          have hxl := HN.out
          simp only [List.length_take, List.length_append, List.length_cons, List.length_nil] at hlk
          obtain ⟨k2, rfl⟩ : ∃ k2, k1 = k2 + 1 := ⟨k1 - 1, by omega⟩
          have hk2i : ((k2 + 1 : Nat) : Int) = (k2 : Int) + 1 := by omega
          have hy2 : ys2 = xs.take k2 := by
            have h1 := congrArg (List.take k2) heq
            rw [List.take_take, Nat.min_eq_left (by omega), List.take_left' (by omega)] at h1
            exact h1.symm
          have hxk : xs[k2]? = some (UInt8.ofNat p1.bit) := by
            have h1 := congrArg (fun l => l[k2]?) heq
            simp only [List.getElem?_take] at h1
            rw [if_pos (by omega), List.getElem?_append_right (by omega)] at h1
            rw [h1, show k2 - ys2.length = 0 by omega]; rfl
          have hzl : zs.length = k := by have := hr.bounds.1; omega
          obtain ⟨cb, co, rfl, hc, hfz⟩ := hr.at (by omega)
          have f5 := hfz (co + k2)
          have c5 : wr.cell? ⟨cb, co + k2, none⟩ = zs[k2]? := hc k2 (by omega)
          obtain ⟨z0, hz0'⟩ : ∃ z0, zs[k2]? = some z0 := ⟨zs[k2], List.getElem?_eq_getElem (by omega)⟩
          rw [hz0'] at c5
          have W2 : IntKind.i64.wrap (k2 : Int) = k2 := IntWalk.i64_in _ (by omega)
          have HS := hr.put k2 (by omega) (.int .u8 p1.bit)
          have hki : (k2 : Int) < (k : Int) := by omega
          have hnew : (zs.set k2 (.int .u8 p1.bit)).drop k2 = (ub xs).drop k2 := by
            have e1 : (ub xs)[k2]? = some (.int .u8 p1.bit) := by
              rw [ub, List.getElem?_map, hxk]
              simp only [Option.map_some]
              rw [bit_nat hb8]
            have e2 : (zs.set k2 (.int .u8 p1.bit))[k2]? = some (.int .u8 p1.bit) := List.getElem?_set_self (by omega)
            rw [List.drop_eq_getElem_cons (by rw [List.length_set]; omega), List.drop_eq_getElem_cons (l := ub xs) (by simp [ub]; omega)]
            rw [List.getElem?_eq_getElem (by rw [List.length_set]; omega)] at e2
            rw [List.getElem?_eq_getElem (by simp [ub]; omega)] at e1
            rw [Option.some.inj e1, Option.some.inj e2, List.drop_set_of_lt (by omega), hzd]
          have HNEW := Lib.hid hnew
          have HP := Lib.hid hp1
          have HW2 := Lib.hid (hy2 ▸ hw2)
          have HK := Lib.hid hk1
          clear hr h1 hX hp1 hw1 heq hzd G hnew hxk hy2 hw2 hc hfz hz0' hlk hxl hk1
          generalize hm : A.all.length = m at *
          have HM := Lib.hid hm
          clear hm
          go_upto_region 13 with (fail)
          refine gen_world HS (fun w7 HS => ?_)
          clear g1 g3 g4 c5 f5
          have hX := HS.mv 1
          (try dsimp only [Go.Own.front, Go.Own.arrA, Go.Own.atA, Go.Own.dropA, List.length_cons, List.length_nil, Nat.zero_add, Nat.reduceAdd] at hX)
          obtain ⟨ao, ac, fo, fc, h1⟩ := ar_open hX
          obtain ⟨rb2, rp2, rfl, G⟩ := pl_at cells8 HP.out rfl (h1.mv 1)
          obtain ⟨g3', -⟩ := G _ _ (h1.mv 1) 3 (by omega)
          have g3 : w7.cell? ⟨rb2, rp2 + j1 * 8 + 3, none⟩ = some (.int .i64 p1.parent) := g3'
          have g1 : w7.cell? ⟨b, 1, none⟩ = some (.slice (some ⟨rb2, rp2, none⟩) A.all.length ac) := h1.cell 1
          rw [HM.out] at g1
          clear g3' G h1 hX
          go_wp2
          go_roundw
          case rel => exact ⟨k2, u, _, rfl, rfl, HW2.out, by have := HK.out; omega, HNEW.out, HS⟩
          case measure => simp [intOf]
    · have hge : 0 ≤ p.parent := by omega
      have HW2 := Lib.hid hw2
      have hkl : k + 1 + ys2.length = N := by simp at hkN; omega
      clear hkN hw2
      go_wp2
      go_roundw
      case rel => exact ⟨k + 1, u, ys2, by go_num, rfl, HW2.out, by omega, H.out⟩
      case measure => simp [intOf]; omega

end Go.Proofs.Ytahhbbcgfhmmgaa
