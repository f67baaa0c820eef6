/- Contracts: the reference's sender: in memory; New, End, Ack. -/
import Derived.Test.YtjnjbmkkfkdhcaaSeS
import Derived.Test.YtjnjbmkkfkdhcaaRegion4
open Go.RowKit Go.Own
namespace Go.Proofs.Ytjnjbmkkfkdhcaa

def rcells (S : SS) (F : Nat) (v : Value) : List Value := [.int .i64 S.window, .int .i64 S.store, .int .i64 S.timeout, .int .u64 F, v, .int .u64 S.base, .int .u64 S.next, .int .u64 S.top, .int .i64 S.timer]
/-- The reference's sender at block b. -/
def rfA (b : Nat) (S : SS) (F : Nat) (G : List (List UInt8)) : Asn := exA fun p : Option Addr × Nat => starA (cellsA b 65 (rcells S F (.slice p.1 G.length p.2))) (rowsA p.1 p.2 G)
theorem rf_open {w : World} {b : Nat} {S : SS} {F : Nat} {G : List (List UInt8)} {L : List Asn} (h : Hold w (rfA b S F G :: L)) : ∃ ro rc, Hold w (cellsA b 65 (rcells S F (.slice ro G.length rc)) :: rowsA ro rc G :: L) := by
  obtain ⟨⟨ro, rc⟩, h1⟩ := Hold.ex.1 h
  exact ⟨ro, rc, Hold.star.1 h1⟩
theorem rf_close {w : World} {b : Nat} {S : SS} {F : Nat} {G : List (List UInt8)} {L : List Asn} {ro : Option Addr} {rc : Nat} (h : Hold w (cellsA b 65 (rcells S F (.slice ro G.length rc)) :: rowsA ro rc G :: L)) : Hold w (rfA b S F G :: L) :=
  Hold.ex.2 ⟨(ro, rc), Hold.star.2 h⟩
theorem rfM {w : World} {b : Nat} {S : SS} {F : Nat} {v : Value} {L : List Asn} (h : Hold w (cellsA b 65 (rcells S F v) :: L)) :
    w.cell? ⟨b, 0, none⟩ = some (.int .i64 S.window) ∧ w.cell? ⟨b, 1, none⟩ = some (.int .i64 S.store) ∧ w.cell? ⟨b, 2, none⟩ = some (.int .i64 S.timeout) ∧ w.cell? ⟨b, 3, none⟩ = some (.int .u64 F) ∧ w.cell? ⟨b, 4, none⟩ = some v ∧ w.cell? ⟨b, 5, none⟩ = some (.int .u64 S.base) ∧
    w.cell? ⟨b, 6, none⟩ = some (.int .u64 S.next) ∧ w.cell? ⟨b, 7, none⟩ = some (.int .u64 S.top) ∧ w.cell? ⟨b, 8, none⟩ = some (.int .i64 S.timer) :=
  ⟨h.cell 0, h.cell 1, h.cell 2, h.cell 3, h.cell 4, h.cell 5, h.cell 6, h.cell 7, h.cell 8⟩

theorem rend_cells (b : Nat) (S : SS) (F : Nat) (G : List (List UInt8)) (hK : KI F S G) (ro : Option Addr) (rc : Nat) (w : World) (L : List Asn) (h : Hold w (cellsA b 65 (rcells S F (.slice ro G.length rc)) :: L)) :
    Calls Try.prog 33 #[.pointer (some ⟨b, 0, none⟩)] w fun e w' => e = .returned (.int .u64 S.fin) ∧ w' = w.drew := by
  have hfin := hK.fin
  have hmx := hK.si.max
  obtain ⟨E, hE⟩ : ∃ E : Int, (S.fin : Int) = E := ⟨_, rfl⟩
  have WG : IntKind.u64.wrap (G.length : Int) = G.length := IntWalk.u64_in _ (by omega)
  have WE : IntKind.u64.wrap ((F : Int) + G.length) = E := by rw [show (F : Int) + G.length = E by omega]; exact IntWalk.u64_in _ (by omega)
  have hS := h.drew
  obtain ⟨-, -, -, g3, g4, -⟩ := rfM hS
  simp only [hE]
  clear hfin hmx hE hK
  go_enter Try.func33, Try.ntmps33
  go_upto_region 1 with (fail)
  refine wp_region_Z (fun W => W.cell? ⟨b, 3, none⟩ = some (.int .u64 F) ∧ W.cell? ⟨b, 4, none⟩ = some (.slice ro G.length rc)) [3, 7, 9] [] [0, 1, 2, 4, 5, 6, 8, 10, 11] [0, 1, 2, 3, 4, 5, 6, 7, 8, 9, 10, 11] (by kernel_rfl) (by kernel_rfl) ?_
  (repeat (first | (refine wpZ_st (v := ?_) _ (by rfl) (by rfl) (by rfl) (fun W hW => ?_) (by exact ⟨g3, g4⟩) ?_; (rotate_left; (focus ((try dsimp only at hW); go_simp; (try with_reducible rfl); done))); try simp only [Act.put, List.getElem_toArray, List.getElem_cons_zero, List.getElem_cons_succ, List.setIfInBounds_toArray, List.set_cons_zero, List.set_cons_succ]) | (refine wpZ_pu (v := ?_) _ (by rfl) (by rfl) (by rfl) (by rfl) (fun W => ?_) ?_; (rotate_left; (focus ((try dsimp only at hW); go_simp; (try with_reducible rfl); done))); try simp only [Act.put, List.getElem_toArray, List.getElem_cons_zero, List.getElem_cons_succ, List.setIfInBounds_toArray, List.set_cons_zero, List.set_cons_succ]) | (refine wpZ_no _ (by rfl) (by rfl) (by rfl) (by rfl) ?_; try simp only [Act.put, List.getElem_toArray, List.getElem_cons_zero, List.getElem_cons_succ, List.setIfInBounds_toArray, List.set_cons_zero, List.set_cons_succ]) | (refine wpZ_noS _ (by rfl) (by rfl) (by rfl) (by exact ⟨g3, g4⟩) ?_; try simp only [Act.put, List.getElem_toArray, List.getElem_cons_zero, List.getElem_cons_succ, List.setIfInBounds_toArray, List.set_cons_zero, List.set_cons_succ])))
  (simp only [wpZ])
  go_wp2
  go_ret
  exact ⟨rfl, rfl⟩
theorem rend_ok (b : Nat) (S : SS) (F : Nat) (G : List (List UInt8)) (hK : KI F S G) (w : World) (L : List Asn) (h : Hold w (rfA b S F G :: L)) :
    Calls Try.prog 33 #[.pointer (some ⟨b, 0, none⟩)] w fun e w' => e = .returned (.int .u64 S.fin) ∧ w' = w.drew := by
  obtain ⟨ro, rc, h1⟩ := rf_open h
  exact rend_cells b S F G hK ro rc w _ h1

set_option maxRecDepth 20000 in
theorem rnew_good (W S T F : Nat) (hF : F ≤ 4294967295) (hf : fitsN W S T) (w : World) (L : List Asn) (h : Hold w L) :
    Calls Try.prog 19 #[.int .i64 W, .int .i64 S, .int .i64 T, .int .u32 F] w fun e w' => ∃ b, e = .returned (.tuple #[.pointer (some ⟨b, 0, none⟩), .int .i64 0]) ∧ Hold w' (rfA b (newS W S T F) F [] :: L) := by
  obtain ⟨f1, f2, f3, f4, f5, f6⟩ := hf
  have WF : IntKind.u64.wrap (F : Int) = F := IntWalk.u64_in _ (by omega)
  clear hF
  have h1 : Hold w (rowsA none 0 [] :: L) := rows_close (vs := []) rfl (by simpa [sl, rws] using (h.nilL).nilRow 32 1)
  have h5 := h1.box 65 (rcells (newS W S T F) F (.slice none 0 0))
  go_enter Try.func19, Try.ntmps19
  go_wp2
  go_ret2
  exact ⟨w.heap.size, rfl, rf_close (ro := none) (rc := 0) h5⟩

set_option maxRecDepth 20000 in
theorem rnew_bad (W S T F : Int) (hf : ¬ fitsN W S T) (w : World) :
    Calls Try.prog 19 #[.int .i64 W, .int .i64 S, .int .i64 T, .int .u32 F] w fun e w' => e = .returned (.tuple #[.pointer none, .int .i64 1]) ∧ w = w' := by
  rcases not_fits hf with h | ⟨h1, h⟩ | ⟨h1, h2, h⟩ | ⟨h1, h2, h3, h⟩ | ⟨h1, h2, h3, h4, h⟩ | ⟨h1, h2, h3, h4, h5, h⟩
  all_goals
    clear hf
    go_enter Try.func19, Try.ntmps19
    go_wp2
    go_ret2
    exact ⟨rfl, rfl⟩

set_option maxHeartbeats 1000000 in
set_option maxRecDepth 20000 in
theorem rack_ok (b : Nat) (S : SS) (F : Nat) (G : List (List UInt8)) (hK : KI F S G) (n : Nat) (hn4 : n ≤ 4294967295) (w : World) (L : List Asn) (h : Hold w (rfA b S F G :: L)) :
    Calls Try.prog 32 #[.pointer (some ⟨b, 0, none⟩), .int .u32 n] w fun e w' => e = .returned (.int .i64 (ackN S n)) ∧ Hold w' (rfA b (ackS S n) F G :: L) := by
  obtain ⟨ro, rc, h1⟩ := rf_open h
  obtain ⟨-, -, -, -, -, g5, g6, g7, -⟩ := rfM h1
  have HH := Lib.hid h
  have q0 : IntKind.u64.wrap (n : Int) = n := IntWalk.u64_in _ (by omega)
  by_cases hb1 : n ≤ S.base
  · have e1 : ackN S n = 0 := by unfold ackN; rw [if_pos (.inl hb1)]
    have e2 : ackS S n = S := by unfold ackS; rw [if_pos (.inl hb1)]
    rw [e1, e2]
    have hd1 : decide (n ≤ S.base) = true := decide_eq_true hb1
    clear e1 e2 h1 h hK hn4 hb1
    go_enter Try.func32, Try.ntmps32
    go_wp2
    go_ret
    exact ⟨rfl, HH.out⟩
  by_cases hb2 : S.top < n
  · have e1 : ackN S n = 0 := by unfold ackN; rw [if_pos (.inr hb2)]
    have e2 : ackS S n = S := by unfold ackS; rw [if_pos (.inr hb2)]
    rw [e1, e2]
    have hd1 : decide (n ≤ S.base) = false := decide_eq_false hb1
    have hd2 : decide (S.top < n) = true := decide_eq_true hb2
    clear e1 e2 h1 h hK hn4 hb1 hb2
    go_enter Try.func32, Try.ntmps32
    go_wp2
    go_ret
    exact ⟨rfl, HH.out⟩
  have hno : ¬ (n ≤ S.base ∨ S.top < n) := by omega
  have e1 : ackN S n = n - S.base := by unfold ackN; rw [if_neg hno]
  have e2 : ackS S n = { S with base := n, next := max S.next n, timer := 0, L := S.L.drop (n - S.base) } := by unfold ackS; rw [if_neg hno]
  have hd1 : decide (n ≤ S.base) = false := decide_eq_false hb1
  have hd2 : decide (S.top < n) = false := decide_eq_false hb2
  have hcast : ((n - S.base : Nat) : Int) = (n : Int) - S.base := by omega
  rw [e1, e2, hcast]
  have W1 : IntKind.u64.wrap ((n : Int) - S.base) = (n : Int) - S.base := IntWalk.u64_in _ (by omega)
  have W2 : IntKind.i64.wrap ((n : Int) - S.base) = (n : Int) - S.base := IntWalk.i64_in _ (by omega)
  have f5 := h1.frozen 5
  have f6 := h1.frozen 6
  have f8 := h1.frozen 8
  have g8 : w.cell? ⟨b, 8, none⟩ = some (.int .i64 S.timer) := h1.cell 8
  by_cases hnx : S.next < n
  · have hd3 : decide (S.next < n) = true := decide_eq_true hnx
    have hmx : max S.next n = n := by omega
    rw [hmx]
    have HV := ((h1.st 5 (.int .u64 n)).st 6 (.int .u64 n)).st 8 (.int .i64 0)
    clear e1 e2 h h1 hK hn4 hcast hno hb1 hb2 hmx hnx
    go_enter Try.func32, Try.ntmps32
    go_wp2
    go_ret
    refine ⟨rfl, rf_close (ro := ro) (rc := rc) ?_⟩
    exact HV.as (by simp only [rcells, List.set_cons_succ, List.set_cons_zero]; rfl)
  · have hd3 : decide (S.next < n) = false := decide_eq_false hnx
    have hmx : max S.next n = S.next := by omega
    rw [hmx]
    have HV := (h1.st 5 (.int .u64 n)).st 8 (.int .i64 0)
    clear e1 e2 h h1 hK hn4 hcast hno hb1 hb2 hmx hnx
    go_enter Try.func32, Try.ntmps32
    go_wp2
    go_ret
    refine ⟨rfl, rf_close (ro := ro) (rc := rc) ?_⟩
    exact HV.as (by simp only [rcells, List.set_cons_succ, List.set_cons_zero]; rfl)

end Go.Proofs.Ytjnjbmkkfkdhcaa
