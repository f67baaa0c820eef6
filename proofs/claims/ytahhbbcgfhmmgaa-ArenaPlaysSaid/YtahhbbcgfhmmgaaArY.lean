/- The walk of ArenaPlays. -/
import Derived.Test.YtahhbbcgfhmmgaaArX
open Go.RowKit Go.Own
namespace Go.Proofs.Ytahhbbcgfhmmgaa

theorem i34s : (Try.prog.info? 34).map (·.size) = some 7 := by kernel_rfl
theorem exec_load34 {ev : Operand → Value} {o : Oper} {x : Operand} (ho : o.op = .load 34 x) {b q : Nat} (hx : ev x = .pointer (some ⟨b, q, none⟩)) {v0 v1 v2 v3 v4 v5 v6 : Value} {W : World} (h : W.rangeAt b q [v0, v1, v2, v3, v4, v5, v6]) : (execOp ev o).run Try.prog W = .ok (.value (.agg #[v0, v1, v2, v3, v4, v5, v6])) W := by
  have := run_loadAt_mid (P := Try.prog) W b q 34 [v0, v1, v2, v3, v4, v5, v6] _ h Try.underlying34 rfl (by rw [i34s]; rfl)
  unfold execOp
  simp only [ho, hx, Sem.run_bind, this, Result.andThen_ok, Sem.run_pure]

def PlRel (b c n : Nat) (C : Asn) (L : List Asn) (tv iv : Value) (wr : World) : Prop :=
  ∃ (k : Nat) (A : AR) (T : List Nat) (ao : Option Addr) (cap : Nat), k ≤ n ∧ iv = .int .i64 k ∧ tv = .slice ao T.length cap ∧ (∃ born, AI A born) ∧ T.length ≤ k ∧ Hold wr (arA b A :: rrA c A :: rowA 3 1 ao T.length cap (nums T) :: C :: L)

set_option maxHeartbeats 4000000 in
set_option maxRecDepth 20000 in
theorem plays_bad (c : Int) (hc : ¬ (1 ≤ c ∧ c ≤ 65536)) (ao : Option Addr) (n cap : Nat) (w : World) (L : List Asn) (h : Hold w L) :
    Calls Try.prog 5 #[.int .i64 c, .slice ao n cap] w fun e w' => e = .returned (.bool true) ∧ Hold w' L := by
  have PN := new_bad c hc w
  have PR := rnew_bad c hc w
  clear hc
  go_enter Try.func5, Try.ntmps5
  go_upto_region 5 with (first
    | (go_at_call 7; refine PN.mono ?_; rintro e w2 ⟨rfl, rfl⟩)
    | (go_at_call 19; refine PR.mono ?_; rintro e w2 ⟨rfl, rfl⟩)
    | (go_at_call 8; refine (num_any _ _).mono ?_; rintro e w2 ⟨rfl, rfl⟩)
    | (go_at_call 9; refine (live_ok _ _ h).mono ?_; rintro e w4 ⟨rfl, h4⟩))
  go_wp2
  go_loopw [10] (fun iv wr => iv = .int .i64 0 ∧ Hold wr L) (fun _ _ => 0)
  case atStart => exact ⟨rfl, h4⟩
  case round =>
    obtain ⟨rfl, hr⟩ := hrel
    by_cases hn : 0 < n
    · have hni : (0 : Int) < (n : Int) := by omega
      go_wp2
      go_ret
      exact ⟨rfl, hr⟩
    · have hni : decide ((0 : Int) < (n : Int)) = false := decide_eq_false (by omega)
      have hnn : decide (0 < n) = false := decide_eq_false (by omega)
      clear hn
      go_wp2
      go_ret
      exact ⟨rfl, hr⟩

set_option maxHeartbeats 4000000 in
set_option maxRecDepth 20000 in
theorem plays_good (c : Nat) (hc1 : 1 ≤ c) (hc2 : c ≤ 65536) (C : Asn) (ao : Option Addr) (n cap : Nat) (hO : RowsOf C 7 OpRow ao n cap) (hn : n * 56 ≤ 140737488351232) (w : World) (L : List Asn) (h : Hold w (C :: L)) :
    Calls Try.prog 5 #[.int .i64 c, .slice ao n cap] w fun e w' => e = .returned (.bool true) ∧ Hold w' (C :: L) := by
  have PN := new_good c hc1 hc2 w _ h
  have PR := fun w L h => rnew_good c hc1 hc2 w L h
  have hI0 : ∃ born, AI (AR.new c) born := ⟨_, AI.new hc1 hc2⟩
  have HO := Lib.hid hO
  have hN : (n : Int) ≤ 9223372036854775807 := by omega
  have hN4 : n ≤ 4398046511103 := by omega
  clear hc1 hc2 hO hn h
  go_enter Try.func5, Try.ntmps5
  go_upto_region 6 with (first
    | (go_at_call 7; refine PN.mono ?_; rintro e w2 ⟨b, rfl, h2⟩)
    | (go_at_call 19; refine (PR _ _ h2).mono ?_; rintro e w3 ⟨c2, rfl, h3⟩)
    | (go_at_call 8; refine (num_any _ _).mono ?_; rintro e w4 ⟨rfl, rfl⟩)
    | (go_at_call 9; refine (live_ok _ _ h3).mono ?_; rintro e w5 ⟨rfl, h4⟩))
  clear PN PR h2 h3
  have h5 := (h4.nilRow 3 1).arr [2, 1, 0]
  (try dsimp only [Go.Own.front, Go.Own.arrA, Go.Own.atA, Go.Own.dropA, List.length_cons, List.length_nil, Nat.zero_add, Nat.reduceAdd] at h5)
  go_wp2
  go_loopw [9, 10] (fun tv iv wr => PlRel b c2 n C L tv iv wr) (fun _ iv _ => n - (intOf iv).toNat)
  case atStart => exact ⟨0, AR.new c, [], none, 0, by omega, rfl, rfl, hI0, Nat.le_refl _, h5⟩
  case round =>
    clear h4 h5 hI0
    obtain ⟨k, A, T, at_, ct, hk, rfl, rfl, hA, hT, hr⟩ := hrel
    by_cases hlt : k < n
    · have hki : (k : Int) < n := by omega
      have hk0 : 0 ≤ (k : Int) := by omega
      have W1 : IntKind.i64.wrap ((k : Int) + 1) = (k : Int) + 1 := IntWalk.i64_in _ (by omega)
      obtain ⟨rb, ro, vs, rfl, ⟨kd, told, on', bit, s, d, m, rfl, hbit, hs, hon⟩, GC⟩ := HO.out.at hlt (by omega) (hr.mv 3)
      have GA : wr.rangeAt rb (ro + k * 7) [.int .i64 kd, .bool told, .int .i64 on', .int .u8 bit, .int .u32 s, .int .i64 d, .int .i64 m] := fun j v hj => by
        have hj7 : j < 7 := (List.getElem?_eq_some_iff.1 hj).1
        rw [Nat.add_assoc, GC _ _ (hr.mv 3) j hj7]; exact hj
      have PD := does_ok b c2 A hA T at_ ct (by omega) kd told on' bit s hs d m wr _ hr
      clear GC hA hs hbit hon
      go_wp2_with (first
        | ((with_reducible refine wpList_yw (o := ⟨some 53, _, _, _, _, _⟩) (v := .agg #[.int .i64 kd, .bool told, .int .i64 on', .int .u8 bit, .int .u32 s, .int .i64 d, .int .i64 m]) ?_ ?_ ?_); (focus rfl); (focus exact exec_load34 (by rfl) (by rfl) GA))
        | (go_at_call 20; refine PD.mono ?_; rintro e w6 ⟨A2, T2, a2, cp2, rfl, hA2, hT2, h6⟩))
      go_roundw
      case rel => exact ⟨k + 1, A2, T2, a2, cp2, by omega, by go_num, rfl, hA2, by omega, h6⟩
      case measure => simp [intOf]; omega
    · obtain rfl : k = n := by omega
      go_wp2
      go_ret
      exact ⟨rfl, hr.drop.drop.drop⟩

end Go.Proofs.Ytahhbbcgfhmmgaa
