/- Contracts of the law: looks, named. -/
import Derived.Test.YtahhbbcgfhmmgaaArU
import Derived.Test.YtahhbbcgfhmmgaaArP
open Go.RowKit Go.Own
namespace Go.Proofs.Ytahhbbcgfhmmgaa

theorem node_view (A : AR) (id : Int) : ∃ (s : Nat) (d m : Int), nodeR A id = [.int .u32 s, .int .i64 d, .int .i64 m] := by
  unfold nodeR
  split
  · exact ⟨_, _, _, rfl⟩
  · exact ⟨_, _, _, rfl⟩

set_option maxHeartbeats 4000000 in
set_option maxRecDepth 20000 in
theorem looks_ok (b c : Nat) (A : AR) (born : Nat → Nat) (hI : AI A born) (id : Int) (w : World) (L : List Asn) (h : Hold w (arA b A :: rrA c A :: L)) :
    Calls Try.prog 32 #[.pointer (some ⟨b, 0, none⟩), .pointer (some ⟨c, 0, none⟩), .int .i64 id] w fun e w' => e = .returned (.bool true) ∧ Hold w' (arA b A :: rrA c A :: L) := by
  have htc : A.taken ≤ A.cap := by have := hI.count; have := hI.len; omega
  have P1 := fun w L h => node_ok b A hI.cap1 id w L h
  have P2 := fun w L h => rnode_ok c A id w L h
  have P3 := fun w L h => parent_ok b A hI.cap1 id w L h
  have P4 := fun w L h => rparent_ok c A id w L h
  have P5 := fun w L h => kids_ok b A hI.cap1 id w L h
  have P6 := fun w L h => rkids_ok c A id w L h
  have P7 := fun w L h => len_ok b A hI.cap1 w L h
  have P8 := fun w L h => rlen_ok c A w L h
  have P9 := fun w L h => room_ok b A hI.cap1 hI.cap2 htc w L h
  have P10 := fun w L h => rroom_ok c A hI.cap2 htc w L h
  obtain ⟨s, d, m, en⟩ := node_view A id
  rw [en] at P1 P2
  clear hI htc en
  go_enter Try.func32, Try.ntmps32
  go_upto_region 2 with (go_at_call 27; refine (P1 _ _ h).mono ?_; rintro e w1 ⟨rfl, h1⟩)
  obtain ⟨q, hq⟩ : ∃ q, w1.heap.size = q := ⟨_, rfl⟩
  have hb := h1.box 32 [.int .u32 s, .int .i64 d, .int .i64 m]
  simp only [hq] at hb ⊢
  refine gen_world hb (fun w2 hb => ?_)
  clear h h1 hq P1
  have h2 := hb.mv 2
  (try dsimp only [Go.Own.front, Go.Own.arrA, Go.Own.atA, Go.Own.dropA, List.length_cons, List.length_nil, Nat.zero_add, Nat.reduceAdd] at h2)
  go_upto_region 3 with (go_at_call 37; refine (P2 _ _ h2).mono ?_; rintro e w3 ⟨rfl, h3⟩)
  obtain ⟨q2, hq2⟩ : ∃ q, w3.heap.size = q := ⟨_, rfl⟩
  have hb2 := h3.box 32 [.int .u32 s, .int .i64 d, .int .i64 m]
  simp only [hq2] at hb2 ⊢
  refine gen_world hb2 (fun w4 hb2 => ?_)
  clear hb h2 h3 hq2 P2
  have h4 := hb2.mv 3
  (try dsimp only [Go.Own.front, Go.Own.arrA, Go.Own.atA, Go.Own.dropA, List.length_cons, List.length_nil, Nat.zero_add, Nat.reduceAdd] at h4)
  clear hb2
  go_upto_region 4 with (go_at_call 28; refine (P3 _ _ h4).mono ?_; rintro e w5 ⟨rfl, h5⟩)
  have h6 := h5.mv 2
  (try dsimp only [Go.Own.front, Go.Own.arrA, Go.Own.atA, Go.Own.dropA, List.length_cons, List.length_nil, Nat.zero_add, Nat.reduceAdd] at h6)
  clear h5 h4 P3
  go_upto_region 5 with (go_at_call 38; refine (P4 _ _ h6).mono ?_; rintro e w6 ⟨rfl, h7⟩)
  have h8 := h7.mv 3
  (try dsimp only [Go.Own.front, Go.Own.arrA, Go.Own.atA, Go.Own.dropA, List.length_cons, List.length_nil, Nat.zero_add, Nat.reduceAdd] at h8)
  have h9 := h7.mv 2
  (try dsimp only [Go.Own.front, Go.Own.arrA, Go.Own.atA, Go.Own.dropA, List.length_cons, List.length_nil, Nat.zero_add, Nat.reduceAdd] at h9)
  have h10 := h7.mv 1
  (try dsimp only [Go.Own.front, Go.Own.arrA, Go.Own.atA, Go.Own.dropA, List.length_cons, List.length_nil, Nat.zero_add, Nat.reduceAdd] at h10)
  clear h6 P4
  go_wp2_with (first
    | ((with_reducible refine wpList_yw (o := ⟨some 39, _, _, _, _, _⟩) (v := .agg #[.int .u32 s, .int .i64 d, .int .i64 m]) ?_ ?_ ?_); (focus rfl); (focus exact exec_load32 (by rfl) (by rfl) (h8.range 0 _ (by rfl))))
    | ((with_reducible refine wpList_yw (o := ⟨some 40, _, _, _, _, _⟩) (v := .agg #[.int .u32 s, .int .i64 d, .int .i64 m]) ?_ ?_ ?_); (focus rfl); (focus exact exec_load32 (by rfl) (by rfl) (h9.range 0 _ (by rfl))))
    | (go_at_call 34; refine (P5 _ _ h10).mono ?_; rintro e w7 ⟨rfl, h11⟩)
    | (go_at_call 39; refine (P6 _ _ (h11.mv 1)).mono ?_; rintro e w8 ⟨rfl, h12⟩)
    | (go_at_call 13; refine (P7 _ _ (h12.mv 1)).mono ?_; rintro e w9 ⟨rfl, h13⟩)
    | (go_at_call 40; refine (P8 _ _ (h13.mv 1)).mono ?_; rintro e w10 ⟨rfl, h14⟩)
    | (go_at_call 14; refine (P9 _ _ (h14.mv 1)).mono ?_; rintro e w11 ⟨rfl, h15⟩)
    | (go_at_call 41; refine (P10 _ _ (h15.mv 1)).mono ?_; rintro e w12 ⟨rfl, h16⟩))
  go_ret
  have h17 := (((h16.mv 2).drop).mv 2).drop
  (try dsimp only [Go.Own.front, Go.Own.arrA, Go.Own.atA, Go.Own.dropA, List.length_cons, List.length_nil, Nat.zero_add, Nat.reduceAdd] at h17)
  have h18 := h17.mv 1
  (try dsimp only [Go.Own.front, Go.Own.arrA, Go.Own.atA, Go.Own.dropA, List.length_cons, List.length_nil, Nat.zero_add, Nat.reduceAdd] at h18)
  exact ⟨rfl, h18⟩

theorem nums_at {l : List Nat} {k i : Nat} (h : l[k]? = some i) : (nums l)[k]? = some (.int .i64 (i : Int)) := by
  rw [nums, List.getElem?_map, h]; rfl

/-- The number that a call is on: some number. -/
theorem named_ok (T : List Nat) (ao : Option Addr) (cap : Nat) (hT : T.length ≤ 9223372036854775807) (k : Int) (told : Bool) (on : Int) (bit s : Nat) (d m : Int) (w : World) (L : List Asn) (h : Hold w (rowA 3 1 ao T.length cap (nums T) :: L)) (hS : T.length ≤ 4611686018427387903) :
    Calls Try.prog 15 #[.slice ao T.length cap, .agg #[.int .i64 k, .bool told, .int .i64 on, .int .u8 bit, .int .u32 s, .int .i64 d, .int .i64 m]] w fun e w' => ∃ id : Int, e = .returned (.int .i64 id) ∧ Hold w' (rowA 3 1 ao T.length cap (nums T) :: L) := by
  have hb := h.box 34 [.int .i64 k, .bool told, .int .i64 on, .int .u8 bit, .int .u32 s, .int .i64 d, .int .i64 m]
  obtain ⟨q, hq⟩ : ∃ q, w.heap.size = q := ⟨_, rfl⟩
  simp only [hq] at hb
  go_enter Try.func15, Try.ntmps15
  go_upto_region 1 with (fail)
  refine gen_world hb (fun w1 hb => ?_)
  try simp only [hq]
  clear hq h
  have g1 : w1.cell? ⟨q, 1, none⟩ = some (.bool told) := hb.cell 1
  have g2 : w1.cell? ⟨q, 2, none⟩ = some (.int .i64 on) := hb.cell 2
  by_cases h0 : T.length = 0
  · have h0i : ((T.length : Int) == 0) = true := by rw [beq_iff_eq]; omega
    have HB := Lib.hid hb.drop
    have H0 := Lib.hid h0
    clear h0 hb
    cases told
    · go_wp2
      go_ret
      exact ⟨_, rfl, HB.out⟩
    · go_wp2
      go_ret
      exact ⟨_, rfl, HB.out⟩
  · have h0i : ((T.length : Int) == 0) = false := by rw [beq_eq_false_iff_ne]; omega
    cases told
    · go_wp2
      go_ret
      exact ⟨_, rfl, hb.drop⟩
    · obtain ⟨r, q2, hr1, hr2, hr3, hr4, hr5, hq2⟩ := round_ on T.length (by omega) hS
      obtain ⟨i, hi⟩ : ∃ i, T[q2]? = some i := ⟨T[q2], List.getElem?_eq_getElem hq2⟩
      obtain ⟨cb, co, rfl, hc, -⟩ := (hb.mv 1).at (by omega)
      have c5 : w1.cell? ⟨cb, co + q2, none⟩ = some (.int .i64 i) := by rw [hc q2 (by omega)]; exact nums_at hi
      have hqi : (q2 : Int) < (T.length : Int) := by omega
      have hq0 : 0 ≤ (q2 : Int) := by omega
      clear hi hc hT hS
      go_wp2
      go_ret
      exact ⟨_, rfl, hb.drop⟩

end Go.Proofs.Ytahhbbcgfhmmgaa
