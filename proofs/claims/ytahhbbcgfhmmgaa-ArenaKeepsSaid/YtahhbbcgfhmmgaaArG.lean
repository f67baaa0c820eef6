/- Contracts: take where it is full; Root. -/
import Derived.Test.YtahhbbcgfhmmgaaArF
open Go.RowKit Go.Own
namespace Go.Proofs.Ytahhbbcgfhmmgaa

set_option maxHeartbeats 4000000 in
set_option maxRecDepth 20000 in
theorem take_full (b : Nat) (A : AR) (ht : A.taken = A.cap) (p : PL) (w : World) (L : List Asn) (h : Hold w (arA b A :: L)) :
    Calls Try.prog 25 #[.pointer (some ⟨b, 0, none⟩), .agg p.cells.toArray] w fun e w' => e = .returned (.tuple #[.int .i64 0, .int .i64 2]) ∧ Hold w' (arA b A :: L) := by
  have hb := h.junk (.cells p.cells.toArray 64)
  have hne : ((A.taken : Int) == A.cap) = true := by rw [beq_iff_eq]; omega
  clear h
  go_enter Try.func25, Try.ntmps25
  go_upto_region 1 with (fail)
  refine gen_world hb (fun w1 hb => ?_)
  obtain ⟨ao, ac, fo, fc, h1⟩ := ar_open hb
  have hS := h1.drew
  have g0 : w1.drew.cell? ⟨b, 0, none⟩ = some (.int .i64 A.cap) := hS.cell 0
  have g3 : w1.drew.cell? ⟨b, 3, none⟩ = some (.int .i64 A.taken) := hS.cell 3
  clear ht
  refine wp_region_Z (fun W => W.cell? ⟨b, 0, none⟩ = some (.int .i64 A.cap) ∧ W.cell? ⟨b, 3, none⟩ = some (.int .i64 A.taken)) [3, 7] [] [0, 1, 2, 4, 5, 6, 8] [0, 1, 2, 3, 4, 5, 6, 7, 8] (by kernel_rfl) (by kernel_rfl) ?_
  (repeat (first | (refine wpZ_st (v := ?_) _ (by rfl) (by rfl) (by rfl) (fun W hW => ?_) (by exact ⟨g0, g3⟩) ?_; (rotate_left; (focus ((try dsimp only at hW); go_simp; (try with_reducible rfl); done))); try simp only [Act.put, List.getElem_toArray, List.getElem_cons_zero, List.getElem_cons_succ, List.setIfInBounds_toArray, List.set_cons_zero, List.set_cons_succ]) | (refine wpZ_pu (v := ?_) _ (by rfl) (by rfl) (by rfl) (by rfl) (fun W => ?_) ?_; (rotate_left; (focus ((try dsimp only at hW); go_simp; (try with_reducible rfl); done))); try simp only [Act.put, List.getElem_toArray, List.getElem_cons_zero, List.getElem_cons_succ, List.setIfInBounds_toArray, List.set_cons_zero, List.set_cons_succ]) | (refine wpZ_no _ (by rfl) (by rfl) (by rfl) (by rfl) ?_; try simp only [Act.put, List.getElem_toArray, List.getElem_cons_zero, List.getElem_cons_succ, List.setIfInBounds_toArray, List.set_cons_zero, List.set_cons_succ]) | (refine wpZ_noS _ (by rfl) (by rfl) (by rfl) (by exact ⟨g0, g3⟩) ?_; try simp only [Act.put, List.getElem_toArray, List.getElem_cons_zero, List.getElem_cons_succ, List.setIfInBounds_toArray, List.set_cons_zero, List.set_cons_succ])))
  (simp only [wpZ])
  go_wp2
  go_ret2
  exact ⟨rfl, hb.drew⟩


def rootP (s : Nat) (d m : Int) : PL := ⟨s, d, m, -1, 0, 0, false, false⟩
def rootA (A : AR) (s : Nat) (d m : Int) : Nat × Nat × AR := if A.taken = A.cap then (0, 2, A) else ((takeA A (rootP s d m)).1, 0, (takeA A (rootP s d m)).2)

set_option maxHeartbeats 4000000 in
set_option maxRecDepth 20000 in
theorem root_ok (b : Nat) (A : AR) (way : Nat → Nat) (hI : AI A way) (s : Nat) (d m : Int) (w : World) (L : List Asn) (h : Hold w (arA b A :: L)) :
    Calls Try.prog 10 #[.pointer (some ⟨b, 0, none⟩), .agg #[.int .u32 s, .int .i64 d, .int .i64 m]] w fun e w' => e = .returned (.tuple #[.int .i64 (rootA A s d m).1, .int .i64 (rootA A s d m).2.1]) ∧ Hold w' (arA b (rootA A s d m).2.2 :: L) := by
  have hb := (h.box 32 [.int .u32 s, .int .i64 d, .int .i64 m]).arr [1, 0]
  (try dsimp only [Go.Own.front, Go.Own.arrA, Go.Own.atA, Go.Own.dropA, List.length_cons, List.length_nil, Nat.zero_add, Nat.reduceAdd] at hb)
  obtain ⟨q, hq⟩ : ∃ q, w.heap.size = q := ⟨_, rfl⟩
  simp only [hq] at hb
  have hc1 := hI.cap1
  have hT : ∀ W L, Hold W (arA b A :: L) → Calls Try.prog 25 #[.pointer (some ⟨b, 0, none⟩), .agg (rootP s d m).cells.toArray] W fun e w' => e = .returned (.tuple #[.int .i64 (rootA A s d m).1, .int .i64 (rootA A s d m).2.1]) ∧ Hold w' (arA b (rootA A s d m).2.2 :: L) := by
    intro W L hW
    unfold rootA
    by_cases hf : A.taken = A.cap
    · rw [if_pos hf]
      exact take_full b A hf _ W L hW
    · rw [if_neg hf]
      have hlt : A.taken < A.cap := by have := hI.count; have := hI.len; omega
      exact take_ok b A way hI hlt _ W L hW
  have hc1' : 1 ≤ (A.cap : Int) := by omega
  clear h hI hc1
  go_enter Try.func10, Try.ntmps10
  go_upto_region 1 with (fail)
  refine gen_world hb (fun w1 hb => ?_)
  try simp only [hq]
  clear hq
  obtain ⟨ao, ac, fo, fc, h1⟩ := ar_open hb
  have g0 : w1.cell? ⟨b, 0, none⟩ = some (.int .i64 A.cap) := h1.cell 0
  have P1 := none_ok b A.cap hc1' w1 g0
  have h3 := hb.mv 1
  (try dsimp only [Go.Own.front, Go.Own.arrA, Go.Own.atA, Go.Own.dropA, List.length_cons, List.length_nil, Nat.zero_add, Nat.reduceAdd] at h3)
  have P2 := hT w1 _ hb
  clear hT h1 g0 hb
  go_wp2_with (first
    | (go_at_call 24; refine P1.mono ?_; rintro e w2 ⟨rfl, rfl⟩)
    | (refine wpList_loadAll_h (by rfl) 32 _ (by rfl) q (by rfl) h3 _ Try.underlying32 (by rfl) (by rw [i32]; rfl) ?_)
    | (go_at_call 25; refine P2.mono ?_; rintro e w3 ⟨rfl, h4⟩))
  go_ret2
  have h5 := (h4.mv 1).drop
  (try dsimp only [Go.Own.front, Go.Own.arrA, Go.Own.atA, Go.Own.dropA, List.length_cons, List.length_nil, Nat.zero_add, Nat.reduceAdd] at h5)
  exact ⟨rfl, h5⟩

end Go.Proofs.Ytahhbbcgfhmmgaa
