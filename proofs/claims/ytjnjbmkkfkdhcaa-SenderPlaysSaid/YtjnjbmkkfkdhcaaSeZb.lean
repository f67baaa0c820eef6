/- Contracts: the law's held. -/
import Derived.Test.YtjnjbmkkfkdhcaaSeZ
open Go.RowKit Go.Own
namespace Go.Proofs.Ytjnjbmkkfkdhcaa

theorem M_mod (i : Nat) : ((100 : Int) + i) % 256 = ((M i).toNat : Nat) := by
  unfold M
  rw [UInt8.toNat_ofNat']
  omega
theorem M_wrap (i : Nat) (h : i ≤ 256) : IntKind.u8.wrap ((100 : Int) + i) = ((M i).toNat : Nat) := by
  rw [IntKind.wrap_u8]
  unfold M
  rw [UInt8.toNat_ofNat']
  omega

theorem wraps_all (n : Nat) (hn : n ≤ 256) : ∀ i0 : Nat, i0 ≤ n → IntKind.u8.wrap ((100 : Int) + i0) = ((M i0).toNat : Nat) ∧ wrap64 ((100 : Int) + i0) = (100 : Int) + i0 ∧ IntKind.i64.wrap ((100 : Int) + i0) = (100 : Int) + i0 ∧ ((100 : Int) + i0) % 256 = ((M i0).toNat : Nat) :=
  fun i0 h => ⟨M_wrap i0 (by omega), IntWalk.wrap64_in _ (by omega), IntWalk.i64_in _ (by omega), M_mod i0⟩

set_option maxHeartbeats 4000000 in
set_option maxRecDepth 20000 in
theorem heldl_ok (b c : Nat) (S : SS) (F : Nat) (G : List (List UInt8)) (hK : KI F S G) (w : World) (L : List Asn) (h : Hold w (snA b S :: rfA c S F G :: L)) :
    Calls Try.prog 22 #[.pointer (some ⟨b, 0, none⟩), .pointer (some ⟨c, 0, none⟩)] w fun e w' => e = .returned (.bool true) ∧ Hold w' (snA b S :: rfA c S F G :: L) := by
  obtain ⟨i5, hi, hz0, hz1, hz2⟩ := info_parts info5
  obtain ⟨i32, hi', hy0, hy1, hy2⟩ := info_parts info32
  have PH := fun w L h => held_ok b S hK.si w L h
  have PW := fun w L h => rheld_ok c S F G hK w L h
  have hn256 : S.L.length ≤ 256 := by have := hK.si.ll; have := hK.si.s256; omega
  have hsh := hK.si.short
  clear hK
  generalize S.L = X at *
  obtain ⟨n, hn⟩ : ∃ n, X.length = n := ⟨_, rfl⟩
  simp only [hn] at PH PW
  have HN := Lib.hid (And.intro hn (And.intro (hn ▸ hn256) hsh))
  have hni : (n : Int) ≤ 9223372036854775807 := by omega
  clear hn hn256 hsh
  go_enter Try.func22, Try.ntmps22
  go_upto_region 2 with (go_at_call 18; refine (PH _ _ h).mono ?_; rintro e w1 ⟨aa, ac, rfl, h1⟩)
  go_upto_region 3 with (go_at_call 18; refine (PH _ _ (h1.mv 1)).mono ?_; rintro e w2 ⟨ba, bc, rfl, h2⟩)
  go_upto_region 4 with (go_at_call 34; refine (PW _ _ (h2.mv 3)).mono ?_; rintro e w3 ⟨wa, wc, rfl, h3⟩)
  have h4 := h3.arr [4, 2, 0, 3, 1]
  (try dsimp only [Go.Own.front, Go.Own.arrA, Go.Own.atA, Go.Own.dropA, List.length_cons, List.length_nil, Nat.zero_add, Nat.reduceAdd] at h4)
  clear h h1 h2 h3
  have RA : ∀ k, RowsAt (w3.drewN k) aa n ac X := fun k => by have := RowsAt.own (h4.drewN k); rw [HN.out.1] at this; exact this
  have RB : ∀ k, RowsAt (w3.drewN k) ba n bc X := fun k => by have := RowsAt.own ((h4.drewN k).mv 1); rw [HN.out.1] at this; exact this
  have RW : ∀ k, RowsAt (w3.drewN k) wa n wc X := fun k => by have := RowsAt.own ((h4.drewN k).mv 2); rw [HN.out.1] at this; exact this
  have P1' := rows_ok X aa wa n ac wc hni w3 (RA 0) (RW 0)
  have P2' := fun k => rows_ok X ba wa n bc wc hni (w3.drewN k) (RB k) (RW k)
  clear RA RB RW
  go_upto_region 6 with (first
    | (go_at_call 17; with_reducible refine P1'.mono ?_; rintro e w4 ⟨rfl, k1, rfl⟩; clear P1')
    | (go_at_call 17; refine (P2' _).mono ?_; rintro e w5 ⟨rfl, k2, rfl⟩))
  refine gen_world (h4.drewN (k1 + k2)) (fun w6 h6 => ?_)
  clear h4 P2'
  have HWR : Hid (∀ i0 : Nat, i0 ≤ n → IntKind.u8.wrap ((100 : Int) + i0) = ((M i0).toNat : Nat) ∧ wrap64 ((100 : Int) + i0) = (100 : Int) + i0 ∧ IntKind.i64.wrap ((100 : Int) + i0) = (100 : Int) + i0 ∧ ((100 : Int) + i0) % 256 = ((M i0).toNat : Nat)) := Lib.hid (wraps_all n HN.out.2.1)
  have HX : Hid (∀ i, i < n → ∃ x, X[i]? = some x ∧ x.length ≤ 64) := Lib.hid (fun i hi => ⟨X[i]'(by rw [HN.out.1]; exact hi), List.getElem?_eq_getElem _, HN.out.2.2 _ (List.getElem_mem _)⟩)
  go_wp2
  go_loopw [8] (fun i wr => ∃ (i0 : Nat) (Y : List (List UInt8)), i0 ≤ n ∧ i = .int .i64 i0 ∧ P1 X Y i0 0 ∧ Hold wr (rowsA aa ac Y :: rowsA ba bc X :: rowsA wa wc X :: snA b S :: rfA c S F G :: L)) (fun i _ => n - (intOf i).toNat)
  case atStart => exact ⟨0, X, by omega, rfl, P1.start X, h6⟩
  case round =>
    clear h6
    obtain ⟨i0, Y, hi0, rfl, p1, hr⟩ := hrel
    have hi00 : 0 ≤ (i0 : Int) := by omega
    by_cases hlt : i0 < n
    · have hii : (i0 : Int) < n := by omega
      obtain ⟨x, hx, hx64⟩ := HX.out i0 hlt
      obtain ⟨W1, W2, W3, W4⟩ := HWR.out i0 hi0
      have HXX := Lib.hid (And.intro hx hx64)
      have HI := Lib.hid hlt
      clear hx hx64 hlt
      go_wp2
      go_loopw [9] (fun k wr => ∃ (k0 : Nat) (Y : List (List UInt8)), k0 ≤ x.length ∧ k = .int .i64 k0 ∧ P1 X Y i0 k0 ∧ Hold wr (rowsA aa ac Y :: rowsA ba bc X :: rowsA wa wc X :: snA b S :: rfA c S F G :: L)) (fun k _ => x.length - (intOf k).toNat)
      case atStart => exact ⟨0, Y, by omega, rfl, p1, hr⟩
      case round =>
        clear hr p1
        obtain ⟨k0, Y1, hk0, rfl, p1, hr⟩ := hrel
        have hlY : i0 < Y1.length := by rw [p1.len, HN.out.1]; exact HI.out
        obtain ⟨y, hy⟩ : ∃ y, Y1[i0]? = some y := ⟨Y1[i0], List.getElem?_eq_getElem hlY⟩
        have hyl := (p1.row _ _ _ HXX.out.1 hy).1
        obtain ⟨rb, ro, co, cc, rfl, cR, FK⟩ := rows_put hr hy
        rw [hyl] at cR
        have hk00 : 0 ≤ (k0 : Int) := by omega
        have hx9 : (x.length : Int) ≤ 9223372036854775807 := by have := HXX.out.2; omega
        by_cases hkl : k0 < x.length
        · have hki : (k0 : Int) < x.length := by omega
          obtain ⟨cb, cp, rfl, cK, fK, hS⟩ := FK k0 (by omega)
          have HS := hS (M i0)
          have HP := Lib.hid (p1.set HXX.out.1 hy hkl)
          have HKL := Lib.hid hkl
          generalize y[k0].toNat = z at cK
          clear hS FK p1 hy hyl hkl hlY
          go_wp2
          go_roundw
          case rel => exact ⟨k0 + 1, _, HKL.out, by go_num, HP.out, HS⟩
          case measure => have := HKL.out; simp [intOf]; omega
        · obtain rfl : k0 = x.length := by omega
          have HP := Lib.hid (p1.next HXX.out.1)
          clear FK p1 hy hyl hkl hlY
          go_wp2
          go_roundw
          case rel => exact ⟨i0 + 1, Y1, HI.out, by go_num, HP.out, hr⟩
          case measure => have := HI.out; simp [intOf]; omega
    · obtain rfl : n = i0 := by omega
      have p2 := P2.start (by rw [HN.out.1]; exact p1 : P1 X Y X.length 0)
      clear p1 hlt
      go_wp2
      go_loopw [10] (fun i wr => ∃ (i0 : Nat) (Y : List (List UInt8)), i0 ≤ n ∧ i = .int .i64 i0 ∧ P2 X Y i0 0 ∧ Hold wr (rowsA aa ac Y :: rowsA ba bc X :: rowsA wa wc X :: snA b S :: rfA c S F G :: L)) (fun i _ => n - (intOf i).toNat)
      case atStart => exact ⟨0, Y, by omega, rfl, p2, hr⟩
      case round =>
        clear hr p2
        obtain ⟨i0, Y, hi0, rfl, p2, hr⟩ := hrel
        have hi00 : 0 ≤ (i0 : Int) := by omega
        by_cases hlt : i0 < n
        · have hii : (i0 : Int) < n := by omega
          obtain ⟨x, hx, hx64⟩ := HX.out i0 hlt
          have HXX := Lib.hid (And.intro hx hx64)
          have HI := Lib.hid hlt
          clear hx hx64 hlt
          go_wp2
          go_loopw [11] (fun k wr => ∃ (k0 : Nat) (Y : List (List UInt8)), k0 ≤ 64 ∧ k = .int .i64 k0 ∧ P2 X Y i0 k0 ∧ Hold wr (rowsA aa ac Y :: rowsA ba bc X :: rowsA wa wc X :: snA b S :: rfA c S F G :: L)) (fun k _ => 64 - (intOf k).toNat)
          case atStart => exact ⟨0, Y, by omega, rfl, p2, hr⟩
          case round =>
            clear hr p2
            obtain ⟨k0, Y1, hk0, rfl, p2, hr⟩ := hrel
            by_cases hkl : k0 < 64
            · have hki : (k0 : Int) < 64 := by omega
              have hlY : i0 < Y1.length := by rw [p2.len, HN.out.1]; exact HI.out
              obtain ⟨y, hy⟩ : ∃ y, Y1[i0]? = some y := ⟨Y1[i0], List.getElem?_eq_getElem hlY⟩
              obtain ⟨-, hyl, -⟩ := p2.row _ _ _ HXX.out.1 hy
              rw [if_neg (by omega), if_pos rfl] at hyl
              have hy128 : y.length ≤ 128 := by have := HXX.out.2; omega
              obtain ⟨rb, ro, co, cc, Z, rfl, ht, FZ, FS⟩ := rows_take hr hy
              obtain ⟨cR, -⟩ := FZ _ _ ht
              have HP := Lib.hid (p2.app hy 99)
              have HKL := Lib.hid (And.intro hkl hy128)
              have HFZ := Lib.hid FZ
              have HFS := Lib.hid FS
              have cR' : (wr.alloc (.cells #[.int .u8 99] 5)).cell? ⟨rb, ro + i0, none⟩ = some (.slice co y.length cc) := (FZ _ _ (ht.junk (.cells #[.int .u8 99] 5))).1
              clear FZ FS p2 hy hyl hlY hkl hk0 hy128 hr
              go_upto_region 18 with ((with_reducible refine wpList_plain (o := ⟨some 72, _, _, _, _, _⟩) rfl (fun K hK => ?_)); refine wp_append_one_h (w := wr) _ _ 32 (by rfl) 5 i5 (.int .u8 0) 1 1 Try.underlying32 hi hz0 hz1 hz2 (by rfl) _ y.length _ _ (by rfl) ht [.int .u8 99] (by rfl) ⟨rfl, rfl, rfl, rfl⟩ (by rfl) (by simp [Value.oneCell']) (by unfold maxLen; have := HKL.out.2; omega) (by have := HKL.out.2; omega) (fun c2 d2 w9 h9 hc9 => ?_); refine hK _ _ ?_; clear hK K; obtain ⟨cZ, fZ⟩ := HFZ.out _ _ h9)
              have e9 : ub (y ++ [99]) = ub y ++ [.int .u8 99] := by rw [ub_append]; rfl
              have h9' : Hold w9 (rowA 5 1 c2 (y ++ [99]).length d2 (ub (y ++ [99])) :: Z ++ (rowsA ba bc X :: rowsA wa wc X :: snA b S :: rfA c S F G :: L)) := by rw [e9, List.length_append]; exact h9
              have HS := HFS.out w9 c2 d2 (y ++ [99]) h9'
              rw [List.length_append] at HS
              refine gen_world HS (fun w10 HS => ?_)
              clear cR cR' cZ fZ h9 h9' ht e9
              go_wp2
              go_roundw
              case rel => exact ⟨k0 + 1, _, HKL.out.1, by go_num, HP.out, HS⟩
              case measure => have := HKL.out.1; simp [intOf]; omega
            · obtain rfl : 64 = k0 := by omega
              have HP := Lib.hid p2.next
              clear p2 hkl hk0
              go_wp2
              go_roundw
              case rel => exact ⟨i0 + 1, Y1, HI.out, by go_num, HP.out, hr⟩
              case measure => have := HI.out; simp [intOf]; omega
        · obtain rfl : n = i0 := by omega
          have HP := Lib.hid p2
          clear p2 hlt
          go_wp2
          go_loopw [12] (fun i wr => ∃ i0 : Nat, i0 ≤ n ∧ i = .int .i64 i0 ∧ Hold wr (rowsA aa ac Y :: rowsA ba bc X :: rowsA wa wc X :: snA b S :: rfA c S F G :: L)) (fun i _ => n - (intOf i).toNat)
          case atStart => exact ⟨0, by omega, rfl, hr⟩
          case round =>
            clear hr
            obtain ⟨i0, hi0, rfl, hr⟩ := hrel
            have hi00 : 0 ≤ (i0 : Int) := by omega
            by_cases hlt : i0 < n
            · have hii : (i0 : Int) < n := by omega
              obtain ⟨x, hx, hx64⟩ := HX.out i0 hlt
              have hlY : i0 < Y.length := by rw [HP.out.len, HN.out.1]; exact hlt
              obtain ⟨y, hy⟩ : ∃ y, Y[i0]? = some y := ⟨Y[i0], List.getElem?_eq_getElem hlY⟩
              obtain ⟨W1, W2, W3, W4⟩ := HWR.out i0 hi0
              have HXX := Lib.hid (And.intro hx (And.intro hx64 hy))
              have HI := Lib.hid hlt
              clear hx hx64 hy hlt hlY
              go_wp2
              go_loopw [13] (fun k wr => ∃ k0 : Nat, k0 ≤ x.length ∧ k = .int .i64 k0 ∧ Hold wr (rowsA aa ac Y :: rowsA ba bc X :: rowsA wa wc X :: snA b S :: rfA c S F G :: L)) (fun k _ => x.length - (intOf k).toNat)
              case atStart => exact ⟨0, by omega, rfl, hr⟩
              case round =>
                clear hr
                obtain ⟨k0, hk0, rfl, hr⟩ := hrel
                obtain ⟨rb, ro, co, cc, rfl, cR, FK⟩ := rows_put hr HXX.out.2.2
                obtain ⟨wb, wo, vo, vc, rfl, cW, -⟩ := rows_put (hr.mv 2) HXX.out.1
                have hk00 : 0 ≤ (k0 : Int) := by omega
                have hx9 : (x.length : Int) ≤ 9223372036854775807 := by have := HXX.out.2.1; omega
                by_cases hkl : k0 < x.length
                · have hki : (k0 : Int) < x.length := by omega
                  obtain ⟨q1, -, q3⟩ := HP.out.row _ _ _ HXX.out.1 HXX.out.2.2
                  have hky : (k0 : Int) < y.length := by omega
                  obtain ⟨cb, cp, rfl, cK, -, -⟩ := FK k0 (by omega)
                  have hyk : y[k0]'(by omega) = M i0 := by have := q3 k0 hkl; rw [List.getElem?_eq_getElem (by omega)] at this; simpa using this
                  rw [hyk] at cK
                  have HKL := Lib.hid hkl
                  clear FK q1 q3 hyk hkl
                  go_wp2
                  go_roundw
                  case rel => exact ⟨k0 + 1, HKL.out, by go_num, hr⟩
                  case measure => have := HKL.out; simp [intOf]; omega
                · obtain rfl : k0 = x.length := by omega
                  clear FK hkl
                  go_wp2
                  go_roundw
                  case rel => exact ⟨i0 + 1, HI.out, by go_num, hr⟩
                  case measure => have := HI.out; simp [intOf]; omega
            · obtain rfl : n = i0 := by omega
              have hYn : Y.length = n := by rw [HP.out.len, HN.out.1]
              have HYn := Lib.hid hYn
              clear hlt HP hYn
              go_wp2
              go_loopw [14, 5] (fun k av wr => ∃ (k0 : Nat) (Y : List (List UInt8)) (aa : Option Addr) (ac : Nat), k0 ≤ 8 ∧ k = .int .i64 k0 ∧ av = .slice aa Y.length ac ∧ Y.length ≤ 256 + k0 ∧ Hold wr (rowsA aa ac Y :: rowsA ba bc X :: rowsA wa wc X :: snA b S :: rfA c S F G :: L)) (fun k _ _ => 8 - (intOf k).toNat)
              case atStart => exact ⟨0, Y, aa, ac, by omega, rfl, by rw [HYn.out], by have := HYn.out; have := HN.out.2.1; omega, hr⟩
              case round =>
                clear hr
                obtain ⟨k0, Y1, a1, c1, hk0, rfl, rfl, hY1, hr⟩ := hrel
                by_cases hkl : k0 < 8
                · have hki : (k0 : Int) < 8 := by omega
                  have HKL := Lib.hid (And.intro hkl hY1)
                  clear hkl hk0 hY1
                  obtain ⟨n9, hn9⟩ : ∃ q, wr.heap.size = q := ⟨_, rfl⟩
                  have HS9 : Hid ((wr.alloc (.cells #[.int .u8 98] 5)).heap.size = n9 + 1) := Lib.hid (by simp [hn9])
                  have h1 := oneRow hr 5 (.int .u8 98)
                  simp only [hn9] at h1
                  obtain ⟨vs, hvl, h2⟩ := rows_open (h1.mv 1)
                  (try dsimp only [Go.Own.front, Go.Own.arrA, Go.Own.atA, Go.Own.dropA, List.length_cons, List.length_nil, Nat.zero_add, Nat.reduceAdd] at h2)
                  go_upto_region 30 with ((with_reducible refine wpList_plain (o := ⟨some 107, _, _, _, _, _⟩) rfl (fun K hK => ?_)); refine wp_append_one_h (w := wr.alloc (.cells #[.int .u8 98] 5)) _ _ 47 (by rfl) 32 i32 (.slice none 0 0) 1 24 Try.underlying47 hi' hy0 hy1 hy2 (by rfl) _ Y1.length _ _ (by rfl) h2 [.slice (some ⟨n9, 0, none⟩) 1 1] (by rw [HS9.out]; rfl) ⟨rfl, rfl, rfl, rfl⟩ (by rfl) (by simp [Value.oneCell']) (by unfold maxLen; have := HKL.out; omega) (by have := HKL.out; omega) (fun c2 d2 w9 h9 hc9 => ?_); refine hK _ _ ?_; clear hK K)
                  have h10 := h9.arr [0, 1, 2]
                  (try dsimp only [Go.Own.front, Go.Own.arrA, Go.Own.atA, Go.Own.dropA, List.length_cons, List.length_nil, Nat.zero_add, Nat.reduceAdd] at h10)
                  have h11 : Hold w9 (rowsA c2 d2 (Y1 ++ [[98]]) :: rowsA ba bc X :: rowsA wa wc X :: snA b S :: rfA c S F G :: L) := rows_more (x := [98]) hvl h10
                  have HH := Lib.hid h11
                  clear h1 h2 h9 h10 h11 hn9
                  go_wp2
                  go_roundw
                  case rel => exact ⟨k0 + 1, Y1 ++ [[98]], c2, d2, HKL.out.1, by go_num, by simp, by have := HKL.out.2; simp; omega, HH.out⟩
                  case measure => have := HKL.out.1; simp [intOf]; omega
                · obtain rfl : 8 = k0 := by omega
                  clear hkl hk0 hY1
                  have h1 := hr.mv 1
                  (try dsimp only [Go.Own.front, Go.Own.arrA, Go.Own.atA, Go.Own.dropA, List.length_cons, List.length_nil, Nat.zero_add, Nat.reduceAdd] at h1)
                  have hBn : RowsAt wr ba n bc X := by have := RowsAt.own h1; rw [HN.out.1] at this; exact this
                  have h2 := h1.mv 2
                  (try dsimp only [Go.Own.front, Go.Own.arrA, Go.Own.atA, Go.Own.dropA, List.length_cons, List.length_nil, Nat.zero_add, Nat.reduceAdd] at h2)
                  have hWn : RowsAt wr wa n wc X := by have := RowsAt.own h2; rw [HN.out.1] at this; exact this
                  have Q1 := rows_ok X ba wa n bc wc hni wr hBn hWn
                  have h3 := hr.mv 3
                  (try dsimp only [Go.Own.front, Go.Own.arrA, Go.Own.atA, Go.Own.dropA, List.length_cons, List.length_nil, Nat.zero_add, Nat.reduceAdd] at h3)
                  have Q2 : ∀ ha hc w7 R', Hold w7 (rowsA ha hc X :: snA b S :: rowsA a1 c1 Y1 :: rowsA ba bc X :: rowsA wa wc X :: R') → Calls Try.prog 17 #[.slice ha n hc, .slice wa n wc] w7 fun e w' => e = .returned (.bool true) ∧ ∃ k, w' = w7.drewN k := fun ha hc w7 R' h7 =>
                    rows_ok X ha wa n hc wc hni w7 (by have := RowsAt.own h7; rw [HN.out.1] at this; exact this) (by have := RowsAt.own (h7.mv 4); rw [HN.out.1] at this; exact this)
                  clear hBn hWn h1 h2
                  go_wp2_with (first
                    | (go_at_call 17; with_reducible refine Q1.mono ?_; rintro e w4 ⟨rfl, k1, rfl⟩; clear Q1)
                    | (go_at_call 18; refine (PH _ _ (h3.drewN k1)).mono ?_; rintro e w7 ⟨ha, hc, rfl, h7⟩)
                    | (go_at_call 17; refine (Q2 _ _ _ _ h7).mono ?_; rintro e w5 ⟨rfl, k2, rfl⟩))
                  go_ret
                  refine ⟨rfl, ?_⟩
                  have h8 := (h7.drewN k2).arr [0, 2, 3, 4, 1]
                  (try dsimp only [Go.Own.front, Go.Own.arrA, Go.Own.atA, Go.Own.dropA, List.length_cons, List.length_nil, Nat.zero_add, Nat.reduceAdd] at h8)
                  exact h8.drop.drop.drop.drop

end Go.Proofs.Ytjnjbmkkfkdhcaa
