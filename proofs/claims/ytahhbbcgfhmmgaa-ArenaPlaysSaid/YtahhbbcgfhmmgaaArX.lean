/- Contracts of the law: does. -/
import Derived.Test.YtahhbbcgfhmmgaaArW
open Go.RowKit Go.Own
namespace Go.Proofs.Ytahhbbcgfhmmgaa

/-- Behind a call: both arenas alike, what was told. -/
def DoesPost (b c n : Nat) (L : List Asn) (e : Ending) (w' : World) : Prop :=
  ∃ (A : AR) (T : List Nat) (ao : Option Addr) (cap : Nat), e = .returned (.tuple #[.slice ao T.length cap, .bool true]) ∧ (∃ born, AI A born) ∧ T.length ≤ n + 1 ∧ Hold w' (arA b A :: rrA c A :: rowA 3 1 ao T.length cap (nums T) :: L)
def LookRel (A : AR) (R : List Asn) (iv : Value) (wr : World) : Prop :=
  ∃ k : Nat, k ≤ A.all.length ∧ iv = .int .i64 k ∧ Hold wr R

set_option maxHeartbeats 4000000 in
set_option maxRecDepth 20000 in
theorem does_ok (b c : Nat) (A : AR) (hA : ∃ born, AI A born) (T : List Nat) (ao : Option Addr) (cap : Nat) (hT : T.length ≤ 4398046511104) (k : Int) (told : Bool) (on : Int) (bit s : Nat) (hs : s ≤ 4294967295) (d m : Int) (w : World) (L : List Asn) (h : Hold w (arA b A :: rrA c A :: rowA 3 1 ao T.length cap (nums T) :: L)) :
    Calls Try.prog 20 #[.pointer (some ⟨b, 0, none⟩), .pointer (some ⟨c, 0, none⟩), .agg #[.int .i64 k, .bool told, .int .i64 on, .int .u8 bit, .int .u32 s, .int .i64 d, .int .i64 m], .slice ao T.length cap] w (DoesPost b c T.length L) := by
  obtain ⟨born, hI⟩ := hA
  obtain ⟨i3, hi3, hz0, hz1, hz2⟩ := info_parts info3
  have hb := h.box 34 [.int .i64 k, .bool told, .int .i64 on, .int .u8 bit, .int .u32 s, .int .i64 d, .int .i64 m]
  obtain ⟨q, hq⟩ : ∃ q, w.heap.size = q := ⟨_, rfl⟩
  simp only [hq] at hb
  have HI := Lib.hid hI
  have HS := Lib.hid hs
  have PN := fun w L h => named_ok T ao cap (by omega) k told on bit s d m w L h (by omega)
  clear h hI hs
  go_enter Try.func20, Try.ntmps20
  go_upto_region 1 with (fail)
  refine gen_world hb (fun w1 hb => ?_)
  try simp only [hq]
  clear hq
  have h1 := hb.mv 3
  (try dsimp only [Go.Own.front, Go.Own.arrA, Go.Own.atA, Go.Own.dropA, List.length_cons, List.length_nil, Nat.zero_add, Nat.reduceAdd] at h1)
  have h1r := (h1.mv 1).range 0 [.int .i64 k, .bool told, .int .i64 on, .int .u8 bit, .int .u32 s, .int .i64 d, .int .i64 m] (by rfl)
  go_upto_region 2 with (first
    | (refine wpList_loadAll_h (by rfl) 34 _ (by rfl) q (by rfl) (h1.mv 1) _ Try.underlying34 (by rfl) (by kernel_rfl) ?_)
    | (go_at_call 15; refine (PN _ _ h1).mono ?_; rintro e w2 ⟨id, rfl, h2⟩))
  clear PN hb h1 h1r
  have h3 := h2.mv 1
  (try dsimp only [Go.Own.front, Go.Own.arrA, Go.Own.atA, Go.Own.dropA, List.length_cons, List.length_nil, Nat.zero_add, Nat.reduceAdd] at h3)
  clear h2
  have g0 : w2.cell? ⟨q, 0, none⟩ = some (.int .i64 k) := h3.cell 0
  have g3 : w2.cell? ⟨q, 3, none⟩ = some (.int .u8 bit) := h3.cell 3
  have gR : w2.rangeAt q 4 [.int .u32 s, .int .i64 d, .int .i64 m] := h3.range 4 [.int .u32 s, .int .i64 d, .int .i64 m] (by rfl)
  have h4 := h3.arr [2, 3, 1, 0]
  (try dsimp only [Go.Own.front, Go.Own.arrA, Go.Own.atA, Go.Own.dropA, List.length_cons, List.length_nil, Nat.zero_add, Nat.reduceAdd] at h4)
  have HR : ∀ W L, Hold W (cellsA q 34 [.int .i64 k, .bool told, .int .i64 on, .int .u8 bit, .int .u32 s, .int .i64 d, .int .i64 m] :: L) → W.cell? ⟨q, 3, none⟩ = some (.int .u8 bit) ∧ W.rangeAt q 4 [.int .u32 s, .int .i64 d, .int .i64 m] := fun W L hW => ⟨hW.cell 3, hW.range 4 [.int .u32 s, .int .i64 d, .int .i64 m] (by rfl)⟩
  have HHR := Lib.hid HR
  clear h3 HR
  have hid9 := hT
  by_cases hk1 : k = 1
  · subst hk1
    have P1 := root_ok b A _ HI.out s d m _ _ h4
    have P2 := fun w L h => rroot_ok c A _ HI.out s d m w L h
    have hAI := HI.out.root HS.out d m
    generalize rootA A s d m = R at *
    obtain ⟨id1, e1, A1⟩ := R
    have HAI := Lib.hid hAI
    simp only at P1 P2
    clear hAI
    by_cases he : e1 = 0
    · subst he
      as_aux_lemma =>
        go_wp2_with (first
          | ((with_reducible refine wpList_yw (o := ⟨some 34, _, _, _, _, _⟩) (v := .agg #[.int .u32 s, .int .i64 d, .int .i64 m]) ?_ ?_ ?_); (focus rfl); (focus exact exec_load32 (by rfl) (by rfl) gR))
          | (go_at_call 10; refine P1.mono ?_; rintro e w5 ⟨rfl, h5⟩; have f5 := HHR.out _ _ (h5.mv 3))
          | ((with_reducible refine wpList_yw (o := ⟨some 41, _, _, _, _, _⟩) (v := .agg #[.int .u32 s, .int .i64 d, .int .i64 m]) ?_ ?_ ?_); (focus rfl); (focus exact exec_load32 (by rfl) (by rfl) f5.2))
          | (go_at_call 29; refine (P2 _ _ (h5.mv 1)).mono ?_; rintro e w6 ⟨rfl, h6⟩; have h6' := h6.mv 2)
          | ((with_reducible refine wpList_plain (o := ⟨some 50, _, _, _, _, _⟩) rfl (fun K hK => ?_)); refine wp_append_one_h (w := w6) _ _ 23 (by rfl) 3 i3 (.int .i64 0) 1 8 Try.underlying23 hi3 hz0 hz1 hz2 (by rfl) ao T.length cap _ (by rfl) h6' [.int .i64 id1] (by rfl) ⟨rfl, rfl, rfl, rfl⟩ (by rfl) (by simp [Value.oneCell']) (by unfold maxLen; omega) (by omega) (fun fo2 fc2 w7 h7 hc5 => ?_); refine hK _ _ ?_; clear hK K)
          | (go_at_call 8; refine (num_any _ _).mono ?_; rintro e w8 ⟨rfl, rfl⟩))
        go_ret2
        have e2 : nums T ++ [.int .i64 (id1 : Int)] = nums (T ++ [id1]) := by simp [nums]
        have el : (T ++ [id1]).length = T.length + 1 := by simp
        rw [e2, ← el] at h7
        have h8 := ((h7.mv 3).drop).arr [2, 1, 0]
        (try dsimp only [Go.Own.front, Go.Own.arrA, Go.Own.atA, Go.Own.dropA, List.length_cons, List.length_nil, Nat.zero_add, Nat.reduceAdd] at h8)
        exact ⟨A1, T ++ [id1], fo2, fc2, by rw [el]; rfl, HAI.out, by rw [el]; omega, h8⟩
    · have hef : ((e1 : Int) == 0) = false := by rw [beq_eq_false_iff_ne]; omega
      as_aux_lemma =>
        go_wp2_with (first
          | ((with_reducible refine wpList_yw (o := ⟨some 34, _, _, _, _, _⟩) (v := .agg #[.int .u32 s, .int .i64 d, .int .i64 m]) ?_ ?_ ?_); (focus rfl); (focus exact exec_load32 (by rfl) (by rfl) gR))
          | (go_at_call 10; refine P1.mono ?_; rintro e w5 ⟨rfl, h5⟩; have f5 := HHR.out _ _ (h5.mv 3))
          | ((with_reducible refine wpList_yw (o := ⟨some 41, _, _, _, _, _⟩) (v := .agg #[.int .u32 s, .int .i64 d, .int .i64 m]) ?_ ?_ ?_); (focus rfl); (focus exact exec_load32 (by rfl) (by rfl) f5.2))
          | (go_at_call 29; refine (P2 _ _ (h5.mv 1)).mono ?_; rintro e w6 ⟨rfl, h6⟩)
          | (go_at_call 8; refine (num_any _ _).mono ?_; rintro e w8 ⟨rfl, rfl⟩))
        go_ret2
        have h8 := ((h6.mv 3).drop).arr [1, 0, 2]
        (try dsimp only [Go.Own.front, Go.Own.arrA, Go.Own.atA, Go.Own.dropA, List.length_cons, List.length_nil, Nat.zero_add, Nat.reduceAdd] at h8)
        exact ⟨A1, T, ao, cap, rfl, HAI.out, by omega, h8⟩
  have hk1f : (k == 1) = false := by rw [beq_eq_false_iff_ne]; exact hk1
  by_cases hk2 : k = 2
  · subst hk2
    have P1 := child_ok b A _ HI.out id bit s d m _ _ h4
    have P2 := fun w L h => rchild_ok c A _ HI.out id bit s d m w L h
    have hAI := HI.out.child id (bit := bit) HS.out d m
    generalize childA A id bit s d m = R at *
    obtain ⟨id1, e1, A1⟩ := R
    have HAI := Lib.hid hAI
    simp only at P1 P2
    clear hAI
    by_cases he : e1 = 0
    · subst he
      as_aux_lemma =>
        go_wp2_with (first
          | ((with_reducible refine wpList_yw (o := ⟨some 69, _, _, _, _, _⟩) (v := .agg #[.int .u32 s, .int .i64 d, .int .i64 m]) ?_ ?_ ?_); (focus rfl); (focus exact exec_load32 (by rfl) (by rfl) gR))
          | (go_at_call 11; refine P1.mono ?_; rintro e w5 ⟨rfl, h5⟩; have f5 := HHR.out _ _ (h5.mv 3))
          | ((with_reducible refine wpList_yw (o := ⟨some 79, _, _, _, _, _⟩) (v := .agg #[.int .u32 s, .int .i64 d, .int .i64 m]) ?_ ?_ ?_); (focus rfl); (focus exact exec_load32 (by rfl) (by rfl) f5.2))
          | (go_at_call 30; refine (P2 _ _ (h5.mv 1)).mono ?_; rintro e w6 ⟨rfl, h6⟩; have h6' := h6.mv 2)
          | ((with_reducible refine wpList_plain (o := ⟨some 88, _, _, _, _, _⟩) rfl (fun K hK => ?_)); refine wp_append_one_h (w := w6) _ _ 23 (by rfl) 3 i3 (.int .i64 0) 1 8 Try.underlying23 hi3 hz0 hz1 hz2 (by rfl) ao T.length cap _ (by rfl) h6' [.int .i64 id1] (by rfl) ⟨rfl, rfl, rfl, rfl⟩ (by rfl) (by simp [Value.oneCell']) (by unfold maxLen; omega) (by omega) (fun fo2 fc2 w7 h7 hc5 => ?_); refine hK _ _ ?_; clear hK K)
          | (go_at_call 8; refine (num_any _ _).mono ?_; rintro e w8 ⟨rfl, rfl⟩))
        go_ret2
        have e2 : nums T ++ [.int .i64 (id1 : Int)] = nums (T ++ [id1]) := by simp [nums]
        have el : (T ++ [id1]).length = T.length + 1 := by simp
        rw [e2, ← el] at h7
        have h8 := ((h7.mv 3).drop).arr [2, 1, 0]
        (try dsimp only [Go.Own.front, Go.Own.arrA, Go.Own.atA, Go.Own.dropA, List.length_cons, List.length_nil, Nat.zero_add, Nat.reduceAdd] at h8)
        exact ⟨A1, T ++ [id1], fo2, fc2, by rw [el]; rfl, HAI.out, by rw [el]; omega, h8⟩
    · have hef : ((e1 : Int) == 0) = false := by rw [beq_eq_false_iff_ne]; omega
      as_aux_lemma =>
        go_wp2_with (first
          | ((with_reducible refine wpList_yw (o := ⟨some 69, _, _, _, _, _⟩) (v := .agg #[.int .u32 s, .int .i64 d, .int .i64 m]) ?_ ?_ ?_); (focus rfl); (focus exact exec_load32 (by rfl) (by rfl) gR))
          | (go_at_call 11; refine P1.mono ?_; rintro e w5 ⟨rfl, h5⟩; have f5 := HHR.out _ _ (h5.mv 3))
          | ((with_reducible refine wpList_yw (o := ⟨some 79, _, _, _, _, _⟩) (v := .agg #[.int .u32 s, .int .i64 d, .int .i64 m]) ?_ ?_ ?_); (focus rfl); (focus exact exec_load32 (by rfl) (by rfl) f5.2))
          | (go_at_call 30; refine (P2 _ _ (h5.mv 1)).mono ?_; rintro e w6 ⟨rfl, h6⟩)
          | (go_at_call 8; refine (num_any _ _).mono ?_; rintro e w8 ⟨rfl, rfl⟩))
        go_ret2
        have h8 := ((h6.mv 3).drop).arr [1, 0, 2]
        (try dsimp only [Go.Own.front, Go.Own.arrA, Go.Own.atA, Go.Own.dropA, List.length_cons, List.length_nil, Nat.zero_add, Nat.reduceAdd] at h8)
        exact ⟨A1, T, ao, cap, rfl, HAI.out, by omega, h8⟩
  have hk2f : (k == 2) = false := by rw [beq_eq_false_iff_ne]; exact hk2
  by_cases hk3 : k = 3
  · subst hk3
    have P1 := drop_ok b A _ HI.out id _ _ h4
    have P2 := fun w L h => rdrop_ok c A _ HI.out id w L h
    have HAI := Lib.hid (HI.out.drop id)
    generalize dropA A id = R at *
    obtain ⟨id1, e1, A1⟩ := R
    simp only at P1 P2
    as_aux_lemma =>
      go_wp2_with (first
        | (go_at_call 12; refine P1.mono ?_; rintro e w5 ⟨rfl, h5⟩)
        | (go_at_call 31; refine (P2 _ _ (h5.mv 1)).mono ?_; rintro e w6 ⟨rfl, h6⟩)
        | (go_at_call 8; refine (num_any _ _).mono ?_; rintro e w8 ⟨rfl, rfl⟩))
      go_ret2
      have h8 := ((h6.mv 3).drop).arr [1, 0, 2]
      (try dsimp only [Go.Own.front, Go.Own.arrA, Go.Own.atA, Go.Own.dropA, List.length_cons, List.length_nil, Nat.zero_add, Nat.reduceAdd] at h8)
      exact ⟨A1, T, ao, cap, rfl, ⟨_, HAI.out⟩, by omega, h8⟩
  have hk3f : (k == 3) = false := by rw [beq_eq_false_iff_ne]; exact hk3
  have PL := fun i w L h => looks_ok b c A _ HI.out i w L h
  by_cases hk4 : k = 4
  · subst hk4
    as_aux_lemma =>
      go_wp2_with (go_at_call 32; refine (PL _ _ _ h4).mono ?_; rintro e w5 ⟨rfl, h5⟩)
      go_ret2
      have h8 := ((h5.mv 3).drop).arr [0, 1, 2]
      (try dsimp only [Go.Own.front, Go.Own.arrA, Go.Own.atA, Go.Own.dropA, List.length_cons, List.length_nil, Nat.zero_add, Nat.reduceAdd] at h8)
      exact ⟨A, T, ao, cap, rfl, ⟨_, HI.out⟩, by omega, h8⟩
  have hk4f : (k == 4) = false := by rw [beq_eq_false_iff_ne]; exact hk4
  by_cases hk5 : k = 5
  · subst hk5
    have PP := paths_ok b c A _ HI.out id _ _ h4
    as_aux_lemma =>
      go_wp2_with (go_at_call 33; refine PP.mono ?_; rintro e w5 ⟨rfl, h5⟩)
      go_ret2
      have h8 := ((h5.mv 3).drop).arr [0, 1, 2]
      (try dsimp only [Go.Own.front, Go.Own.arrA, Go.Own.atA, Go.Own.dropA, List.length_cons, List.length_nil, Nat.zero_add, Nat.reduceAdd] at h8)
      exact ⟨A, T, ao, cap, rfl, ⟨_, HI.out⟩, by omega, h8⟩
  have hk5f : (k == 5) = false := by rw [beq_eq_false_iff_ne]; exact hk5
  have hn6 : A.all.length ≤ 65536 := by have := HI.out.len; have := HI.out.cap2; omega
  go_upto_region 23 with (fail)
  go_wp2
  go_loopw [23] (fun iv wr => LookRel A (arA b A :: rrA c A :: rowA 3 1 ao T.length cap (nums T) :: cellsA q 34 [.int .i64 k, .bool told, .int .i64 on, .int .u8 bit, .int .u32 s, .int .i64 d, .int .i64 m] :: L) iv wr) (fun iv _ => A.all.length - (intOf iv).toNat)
  case atStart => exact ⟨0, Nat.zero_le _, rfl, h4⟩
  case round =>
    clear h4 g0 g3 gR
    obtain ⟨j, hj, rfl, hr⟩ := hrel
    obtain ⟨ra, rc, fo, fc, h5⟩ := ar_open (hr.mv 1)
    have g1 : wr.cell? ⟨c, 1, none⟩ = some (.slice ra A.all.length rc) := h5.cell 1
    obtain ⟨N, hN⟩ : ∃ N, A.all.length = N := ⟨_, rfl⟩
    rw [hN] at hj hn6 g1
    have HN := Lib.hid hN
    clear h5
    by_cases hlt : j < N
    · have hji : (j : Int) < (N : Int) := by omega
      have W1 : IntKind.i64.wrap ((j : Int) + 1) = (j : Int) + 1 := IntWalk.i64_in _ (by omega)
      as_aux_lemma =>
        go_wp2_with (go_at_call 32; refine (PL _ _ _ hr).mono ?_; rintro e w5 ⟨rfl, h5⟩)
        go_roundw
        case rel => exact ⟨j + 1, by rw [HN.out]; omega, by go_num, h5⟩
        case measure => simp [intOf]; have := HN.out; omega
    · obtain rfl : j = N := by omega
      as_aux_lemma =>
        go_wp2_with (first
          | (go_at_call 32; (with_reducible refine (PL (-1) _ _ hr).mono ?_); rintro e w5 ⟨rfl, h5⟩; obtain ⟨ra2, rc2, fo2, fc2, h6⟩ := ar_open (h5.mv 1); have g2 : w5.cell? ⟨c, 1, none⟩ = some (.slice ra2 A.all.length rc2) := h6.cell 1)
          | (go_at_call 32; refine (PL _ _ _ h5).mono ?_; rintro e w7 ⟨rfl, h7⟩))
        go_ret2
        have h8 := ((h7.mv 3).drop).arr [0, 1, 2]
        (try dsimp only [Go.Own.front, Go.Own.arrA, Go.Own.atA, Go.Own.dropA, List.length_cons, List.length_nil, Nat.zero_add, Nat.reduceAdd] at h8)
        exact ⟨A, T, ao, cap, rfl, ⟨_, HI.out⟩, by omega, h8⟩

end Go.Proofs.Ytahhbbcgfhmmgaa
