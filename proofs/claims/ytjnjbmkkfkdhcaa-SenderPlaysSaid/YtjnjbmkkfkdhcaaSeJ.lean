/- Contracts: Ack. -/
import Derived.Test.YtjnjbmkkfkdhcaaSeI
open Go.RowKit Go.Own
namespace Go.Proofs.Ytjnjbmkkfkdhcaa

set_option maxHeartbeats 1000000 in
set_option maxRecDepth 20000 in
theorem ack_ok (b : Nat) (S : SS) (hSI : SI S) (n : Nat) (w : World) (L : List Asn) (h : Hold w (snA b S :: L)) :
    Calls Try.prog 13 #[.pointer (some ⟨b, 0, none⟩), .int .u32 n] w fun e w' => e = .returned (.int .i64 (ackN S n)) ∧ Hold w' (snA b (ackS S n) :: L) := by
  obtain ⟨f, rows, ro, rc, vs, hRg, hm, hl, h1⟩ := sn_open h
  have P := none_h b S hSI w _ _ _ _ h1
  obtain ⟨-, -, -, -, -, g5, g6, g7, -⟩ := snM h1
  have HSI := Lib.hid hSI
  have HH := Lib.hid h
  by_cases hb1 : n ≤ S.base
  · have e1 : ackN S n = 0 := by unfold ackN; rw [if_pos (.inl hb1)]
    have e2 : ackS S n = S := by unfold ackS; rw [if_pos (.inl hb1)]
    rw [e1, e2]
    have hd1 : decide (n ≤ S.base) = true := decide_eq_true hb1
    clear e1 e2 hRg hm hl h1 h hSI
    go_enter Try.func13, Try.ntmps13
    go_wp2_with (go_at_call 25; with_reducible refine P.mono ?_; rintro e w1 ⟨rfl, rfl⟩)
    go_ret
    exact ⟨rfl, HH.out⟩
  by_cases hb2 : S.top < n
  · have e1 : ackN S n = 0 := by unfold ackN; rw [if_pos (.inr hb2)]
    have e2 : ackS S n = S := by unfold ackS; rw [if_pos (.inr hb2)]
    rw [e1, e2]
    have hd1 : decide (n ≤ S.base) = false := decide_eq_false hb1
    have hd2 : decide (S.top < n) = true := decide_eq_true hb2
    clear e1 e2 hRg hm hl h1 h hSI
    go_enter Try.func13, Try.ntmps13
    go_wp2_with (go_at_call 25; with_reducible refine P.mono ?_; rintro e w1 ⟨rfl, rfl⟩)
    go_ret
    exact ⟨rfl, HH.out⟩
  have hno : ¬ (n ≤ S.base ∨ S.top < n) := by omega
  have e1 : ackN S n = n - S.base := by unfold ackN; rw [if_neg hno]
  have e2 : ackS S n = { S with base := n, next := max S.next n, timer := 0, L := S.L.drop (n - S.base) } := by unfold ackS; rw [if_neg hno]
  have hd1 : decide (n ≤ S.base) = false := decide_eq_false hb1
  have hd2 : decide (S.top < n) = false := decide_eq_false hb2
  have hfin := hSI.fin
  have hmax := hSI.max
  have htf := hSI.tf
  have hs2 := hSI.s256
  have hll := hSI.ll
  have hkn : n - S.base ≤ S.L.length := by omega
  have hcast : ((n - S.base : Nat) : Int) = (n : Int) - S.base := by omega
  have PC := cut_ok b S f S.store rc (n - S.base) ro rows vs hRg hm hl hs2 hkn w L h1
  rw [e1, e2, hcast]
  rw [hcast] at PC
  have W1 : IntKind.u32.wrap ((n : Int) - S.base) = (n : Int) - S.base := IntWalk.u32_in _ (by omega)
  have W2 : IntKind.i64.wrap ((n : Int) - S.base) = (n : Int) - S.base := IntWalk.i64_in _ (by omega)
  have hmx : ∀ w, (Builtin.max_ #[22, 22] 22 #[.int .u32 S.next, .int .u32 n]).run Try.prog w = .ok (.int .u32 (max S.next n : Nat)) w := fun w => by
    rw [Go.run_max_int2]; congr 2; split <;> omega
  have hb1' : (S.base : Int) < n := by omega
  clear e1 e2 hRg hm hl h1 h hSI hfin hmax htf hs2 hll hkn hcast hno hb1 hb2
  go_enter Try.func13, Try.ntmps13
  go_upto_region 5 with (first
    | (go_at_call 25; with_reducible refine P.mono ?_; rintro e w1 ⟨rfl, rfl⟩)
    | (go_at_call 29; with_reducible refine PC.mono ?_; rintro e w2 ⟨rfl, f', rows', vs', q1, q2, q3, h2⟩))
  clear P PC g5 g6 g7
  obtain ⟨-, -, -, -, -, g5, g6, g7, -, g9⟩ := snM h2
  have f5 := h2.frozen 5
  have f6 := h2.frozen 6
  have f9 := h2.frozen 9
  have HV := ((h2.st 5 (.int .u32 n)).st 6 (.int .u32 (max S.next n : Nat))).st 9 (.int .i64 0)
  have HQ := Lib.hid (And.intro q1 (And.intro q2 q3))
  clear q1 q2 q3
  go_wp2
  go_ret
  refine ⟨rfl, ?_⟩
  refine sn_close (S := { S with base := n, next := max S.next n, timer := 0, L := S.L.drop (n - S.base) }) (f := f') (rows := rows') (ro := ro) (rc := rc) (vs := vs') HQ.out.1 HQ.out.2.1 HQ.out.2.2 ?_
  exact HV.as (by simp only [SS.cells, List.set_cons_succ, List.set_cons_zero]; rfl)

end Go.Proofs.Ytjnjbmkkfkdhcaa
