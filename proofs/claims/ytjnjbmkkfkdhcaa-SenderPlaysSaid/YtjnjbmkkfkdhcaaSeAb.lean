/- The walk of SenderPlays. -/
import Derived.Test.YtjnjbmkkfkdhcaaSeAa
open Go.RowKit Go.Own
namespace Go.Proofs.Ytjnjbmkkfkdhcaa

theorem i34' : (Try.prog.info? 34).map (·.size) = some 4 := by kernel_rfl
theorem exec_ld34 {ev : Operand → Value} {o : Oper} {x : Operand} (ho : o.op = .load 34 x) {b q : Nat} (hx : ev x = .pointer (some ⟨b, q, none⟩)) {v0 v1 v2 v3 : Value} {W : World} (h : W.rangeAt b q [v0, v1, v2, v3]) : (execOp ev o).run Try.prog W = .ok (.value (.agg #[v0, v1, v2, v3])) W := by
  have := run_loadAt_mid (P := Try.prog) W b q 34 [v0, v1, v2, v3] _ h Try.underlying34 rfl (by rw [i34']; rfl)
  unfold execOp
  simp only [ho, hx, Sem.run_bind, this, Result.andThen_ok, Sem.run_pure]

set_option maxRecDepth 20000 in
theorem plays_bad (W S T F : Int) (hf : ¬ fitsN W S T) (ao : Option Addr) (n cap : Nat) (hn : n ≤ 140737488351232) (w : World) (L : List Asn) (h : Hold w L) :
    Calls Try.prog 5 #[.agg #[.int .i64 W, .int .i64 S, .int .i64 T, .int .u32 F], .slice ao n cap] w fun e w' => e = .returned (.bool true) ∧ Hold w' L := by
  have PN := fun w => new_bad W S T F hf w
  have PR := fun w => rnew_bad W S T F hf w
  have hn9 : (n : Int) ≤ 9223372036854775807 := by omega
  clear hf hn
  go_enter Try.func5, Try.ntmps5
  have hb : Hold _ (seA w.heap.size W S T F :: L) := h.box 24 [.int .i64 W, .int .i64 S, .int .i64 T, .int .u32 F]
  go_upto_region 1 with (fail)
  refine gen_world hb (fun w1 hb => ?_)
  generalize w.heap.size = q at *
  obtain ⟨g0, g1, g2, g3⟩ := seM hb
  go_upto_region 5 with (first
    | (go_at_call 7; refine (PN _).mono ?_; rintro e w2 ⟨rfl, rfl⟩)
    | (go_at_call 19; refine (PR _).mono ?_; rintro e w2 ⟨rfl, rfl⟩)
    | (go_at_call 8; refine (num_any _ _).mono ?_; rintro e w2 ⟨rfl, rfl⟩)
    | (go_at_call 9; refine (live_ok _ _ hb).mono ?_; rintro e w3 ⟨rfl, h3⟩))
  clear g0 g1 g2 g3 PN PR hb
  go_wp2
  go_loopw [9] (fun i wr => i = .int .i64 0 ∧ Hold wr (seA q W S T F :: L)) (fun _ _ => 0)
  case atStart => exact ⟨rfl, h3⟩
  case round =>
    clear h3
    obtain ⟨rfl, hr⟩ := hrel
    by_cases hlt : 0 < n
    · have hd : decide ((0 : Int) < n) = true := by simp; omega
      have hd2 : decide (0 < n) = true := by simp; omega
      go_wp2
      go_ret
      exact ⟨rfl, hr.drop⟩
    · have hd : decide ((0 : Int) < n) = false := by simp; omega
      have hd2 : decide (0 < n) = false := by simp; omega
      go_wp2
      go_ret
      exact ⟨rfl, hr.drop⟩

def PlaysRel (b c q : Nat) (W S T F n : Nat) (C : Asn) (L : List Asn) (i : Value) (wr : World) : Prop :=
  ∃ (k : Nat) (S1 : SS) (G : List (List UInt8)), k ≤ n ∧ i = .int .i64 k ∧ KI F S1 G ∧ Hold wr (snA b S1 :: rfA c S1 F G :: seA q W S T F :: C :: L)

set_option maxHeartbeats 2000000 in
set_option maxRecDepth 20000 in
theorem plays_good (W S T F : Nat) (hF : F ≤ 4294967295) (hf : fitsN W S T) (C : Asn) (ao : Option Addr) (n cap : Nat) (hO : RowsOf C 4 (OpRow C) ao n cap) (hn : n ≤ 140737488351232) (w : World) (L : List Asn) (h : Hold w (C :: L)) :
    Calls Try.prog 5 #[.agg #[.int .i64 W, .int .i64 S, .int .i64 T, .int .u32 F], .slice ao n cap] w fun e w' => e = .returned (.bool true) ∧ Hold w' (C :: L) := by
  have PN := fun w L h => new_good W S T F hf w L h
  have PR := fun w L h => rnew_good W S T F hF hf w L h
  have hN : (n : Int) ≤ 9223372036854775807 := by omega
  have hI0 : SI (newS W S T F) := by unfold fitsN at hf; exact SI.new (by omega) (by omega) (by omega) (by omega) (by omega) hF
  have HI0 := Lib.hid hI0
  have HO := Lib.hid hO
  clear hF hf hn hI0 hO
  go_enter Try.func5, Try.ntmps5
  have hb : Hold _ (seA w.heap.size W S T F :: C :: L) := h.box 24 [.int .i64 W, .int .i64 S, .int .i64 T, .int .u32 F]
  go_upto_region 1 with (fail)
  refine gen_world hb (fun w1 hb => ?_)
  generalize w.heap.size = q at *
  obtain ⟨g0, g1, g2, g3⟩ := seM hb
  go_upto_region 2 with (go_at_call 7; refine (PN _ _ hb).mono ?_; rintro e w2 ⟨b, rfl, h2⟩)
  clear PN g0 g1 g2 g3 hb
  obtain ⟨g0, g1, g2, g3⟩ := seM (h2.mv 1)
  go_upto_region 3 with (go_at_call 19; refine (PR _ _ h2).mono ?_; rintro e w3 ⟨c, rfl, h3⟩)
  clear PR g0 g1 g2 g3 h2
  go_upto_region 5 with (first
    | (go_at_call 8; refine (num_any _ _).mono ?_; rintro e w2 ⟨rfl, rfl⟩)
    | (go_at_call 9; refine (live_ok _ _ h3).mono ?_; rintro e w4 ⟨rfl, h4⟩))
  clear h3
  go_wp2
  go_loopw [9] (fun i wr => PlaysRel b c q W S T F n C L i wr) (fun i _ => n - (intOf i).toNat)
  case atStart => exact ⟨0, newS W S T F, [], by omega, rfl, KI.new HI0.out, h4.swap⟩
  case round =>
    clear h4 HI0
    obtain ⟨k, S1, G, hk, rfl, K1, hr⟩ := hrel
    by_cases hlt : k < n
    · have hki : (k : Int) < n := by omega
      have hk0 : 0 ≤ (k : Int) := by omega
      obtain ⟨rb, ro, vs, rfl, ⟨kd, ys, ax, cx, N, near, rfl, hRy, hyl, hN4⟩, GC⟩ := HO.out.at hlt (by omega) (hr.mv 3)
      have GA : wr.rangeAt rb (ro + k * 4) [.int .i64 kd, .slice ax ys.length cx, .int .u32 N, .bool near] := fun j v hj => by
        have hj4 : j < 4 := (List.getElem?_eq_some_iff.1 hj).1
        rw [Nat.add_assoc, GC _ _ (hr.mv 3) j hj4]; exact hj
      have hX := hr.arr [0, 1, 3, 2]
      (try dsimp only [Go.Own.front, Go.Own.arrA, Go.Own.atA, Go.Own.dropA, List.length_cons, List.length_nil, Nat.zero_add, Nat.reduceAdd] at hX)
      have PD := does_ok b c S1 F G K1 kd ys ax cx N near C hRy hyl hN4 wr _ hX
      clear GC K1 hRy hyl hN4 hr
      go_wp2_with (first
        | ((with_reducible refine wpList_yw (o := ⟨some 64, _, _, _, _, _⟩) (v := .agg #[.int .i64 kd, .slice ax ys.length cx, .int .u32 N, .bool near]) ?_ ?_ ?_); (focus rfl); (focus exact exec_ld34 (by rfl) (by rfl) GA))
        | (go_at_call 20; refine PD.mono ?_; rintro e w5 ⟨rfl, S2, G2, K2, h5⟩))
      have h6 := h5.arr [0, 1, 3, 2]
      (try dsimp only [Go.Own.front, Go.Own.arrA, Go.Own.atA, Go.Own.dropA, List.length_cons, List.length_nil, Nat.zero_add, Nat.reduceAdd] at h6)
      go_roundw
      case rel => exact ⟨k + 1, S2, G2, by omega, by go_num, K2, h6⟩
      case measure => simp [intOf]; omega
    · obtain rfl : k = n := by omega
      have PL := fun w L h => looks_ok b c S1 F G K1 w L h
      have PH := fun w L h => heldl_ok b c S1 F G K1 w L h
      clear K1 hlt hk
      go_wp2_with (first
        | (go_at_call 21; refine (PL _ _ hr).mono ?_; rintro e w5 ⟨rfl, h5⟩)
        | (go_at_call 22; refine (PH _ _ h5).mono ?_; rintro e w6 ⟨rfl, h6⟩))
      go_ret
      exact ⟨rfl, h6.drop.drop.drop⟩

theorem plays_walk (W S T : Int) (F : Nat) (hF : F ≤ 4294967295) (C : Asn) (ao : Option Addr) (n cap : Nat) (hO : RowsOf C 4 (OpRow C) ao n cap) (hn : n ≤ 140737488351232) (w : World) (L : List Asn) (h : Hold w (C :: L)) :
    Calls Try.prog 5 #[.agg #[.int .i64 W, .int .i64 S, .int .i64 T, .int .u32 F], .slice ao n cap] w fun e w' => e = .returned (.bool true) ∧ Hold w' (C :: L) := by
  by_cases hf : fitsN W S T
  · have hf2 := hf
    unfold fitsN at hf2
    obtain ⟨W', rfl⟩ : ∃ W' : Nat, W = W' := ⟨W.toNat, by omega⟩
    obtain ⟨S', rfl⟩ : ∃ S' : Nat, S = S' := ⟨S.toNat, by omega⟩
    obtain ⟨T', rfl⟩ : ∃ T' : Nat, T = T' := ⟨T.toNat, by omega⟩
    exact plays_good W' S' T' F hF hf C ao n cap hO hn w L h
  · exact plays_bad W S T F hf ao n cap hn w _ h

end Go.Proofs.Ytjnjbmkkfkdhcaa
