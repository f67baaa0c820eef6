/- The walk of SenderKeeps. -/
import Derived.Test.YtjnjbmkkfkdhcaaSeS
open Go.RowKit Go.Own
namespace Go.Proofs.Ytjnjbmkkfkdhcaa

theorem i34 : (Try.prog.info? 34).map (·.size) = some 4 := by kernel_rfl
theorem exec_load34 {ev : Operand → Value} {o : Oper} {x : Operand} (ho : o.op = .load 34 x) {b q : Nat} (hx : ev x = .pointer (some ⟨b, q, none⟩)) {v0 v1 v2 v3 : Value} {W : World} (h : W.rangeAt b q [v0, v1, v2, v3]) : (execOp ev o).run Try.prog W = .ok (.value (.agg #[v0, v1, v2, v3])) W := by
  have := run_loadAt_mid (P := Try.prog) W b q 34 [v0, v1, v2, v3] _ h Try.underlying34 rfl (by rw [i34]; rfl)
  unfold execOp
  simp only [ho, hx, Sem.run_bind, this, Result.andThen_ok, Sem.run_pure]

theorem rows_add {w : World} {go : Option Addr} {gc : Nat} {G : List (List UInt8)} {vs : List (Option Addr × Nat)} {a1 : Option Addr} {c1 : Nat} {x : List UInt8} {L : List Asn} (hl : vs.length = G.length)
    (h : Hold w (rowA 32 1 go (G.length + 1) gc (sl G vs ++ [.slice a1 x.length c1]) :: starL (rws G vs) :: rowA 5 1 a1 x.length c1 (ub x) :: L)) : Hold w (rowsA go gc (G ++ [x]) :: L) := by
  have h1 := h.arr [2, 1, 0]
  (try dsimp only [Go.Own.front, Go.Own.arrA, Go.Own.atA, Go.Own.dropA, List.length_cons, List.length_nil, Nat.zero_add, Nat.reduceAdd] at h1)
  have h2 := h1.addL.swap
  have e1 := sl_append G [x] vs [(a1, c1)] hl
  have e2 := rws_append G [x] vs [(a1, c1)] hl
  have e3 : sl [x] [(a1, c1)] = [.slice a1 x.length c1] := rfl
  have e4 : rws [x] [(a1, c1)] = [rowA 5 1 a1 x.length c1 (ub x)] := rfl
  rw [e3] at e1
  rw [e4] at e2
  rw [← e1, ← e2] at h2
  have e5 : G.length + 1 = (G ++ [x]).length := by simp
  rw [e5] at h2
  exact rows_close (by simp [hl]) h2

theorem sl_drop : ∀ (X : List (List UInt8)) (vs : List (Option Addr × Nat)) (d : Nat), vs.length = X.length → (sl X vs).drop d = sl (X.drop d) (vs.drop d)
  | [], [], d, _ => by simp [sl]
  | x :: X, v :: vs, 0, _ => rfl
  | x :: X, v :: vs, d + 1, h => by simpa [sl] using sl_drop X vs d (by simpa using h)
theorem RowsAt.cut {w : World} {go : Option Addr} {n gc : Nat} {X : List (List UInt8)} (h : RowsAt w go n gc X) {d : Nat} (hd : d ≤ n) (hne : ¬ gc = d) : RowsAt w (go.map fun x => x.add d) (n - d) (gc - d) (X.drop d) := by
  obtain ⟨h1, vs, h2, ⟨S, h3⟩, h4⟩ := h
  have hb := h3.bounds
  refine ⟨by simp [h1], vs.drop d, by simp [h2], ⟨S, ?_⟩, fun i x u hx hu => h4 (d + i) x u (by simpa using hx) (by simpa using hu)⟩
  have h5 := h3.sliced hd (Nat.le_refl n) hb.2.1 (Nat.le_refl gc)
  have e1 : Go.sliced go d n gc 1 = .slice (go.map fun x => x.add d) (n - d) (gc - d) := by
    unfold Go.sliced
    rw [if_neg (by omega)]
    simp
  have e2 : ((sl X vs).drop (d * 1)).take ((n - d) * 1) = sl (X.drop d) (vs.drop d) := by
    rw [Nat.mul_one, Nat.mul_one, sl_drop X vs d (by omega), List.take_of_length_le]
    rw [sl_length (by simp; omega)]
    simp; omega
  rw [e1, e2] at h5
  exact h5
theorem RowsAt.none (w : World) (ao : Option Addr) (c : Nat) (hc : c ≤ maxLen) : RowsAt w ao 0 c [] :=
  ⟨rfl, [], rfl, ⟨[], by simp [sl], ao, c, rfl, Nat.zero_le _, hc, .inl rfl⟩, by simp⟩

def KeepRel (b q : Nat) (W S T F n : Nat) (C : Asn) (L : List Asn) (gv bv tv i : Value) (wr : World) : Prop :=
  ∃ (k : Nat) (S1 : SS) (G : List (List UInt8)) (go : Option Addr) (gc : Nat), k ≤ n ∧ i = .int .i64 k ∧ gv = .slice go G.length gc ∧ bv = .int .u64 S1.base ∧ tv = .int .u64 S1.top ∧ KI F S1 G ∧ S1.window = W ∧ S1.store = S ∧ Hold wr (snA b S1 :: rowsA go gc G :: seA q W S T F :: C :: L)
def MidRel (b q : Nat) (W S T F : Nat) (C : Asn) (L : List Asn) (gv bv tv : Value) (wr : World) : Prop :=
  ∃ (S1 : SS) (G : List (List UInt8)) (go : Option Addr) (gc : Nat), gv = .slice go G.length gc ∧ bv = .int .u64 S1.base ∧ tv = .int .u64 S1.top ∧ KI F S1 G ∧ S1.window = W ∧ S1.store = S ∧ Hold wr (snA b S1 :: rowsA go gc G :: seA q W S T F :: C :: L)

set_option maxHeartbeats 4000000 in
set_option maxRecDepth 20000 in
theorem keeps_good (W S T F : Nat) (hF : F ≤ 4294967295) (hf : fitsN W S T) (C : Asn) (ao : Option Addr) (n cap : Nat) (hO : RowsOf C 4 (OpRow C) ao n cap) (hn : n ≤ 140737488351232) (w : World) (L : List Asn) (h : Hold w (C :: L)) :
    Calls Try.prog 4 #[.agg #[.int .i64 W, .int .i64 S, .int .i64 T, .int .u32 F], .slice ao n cap] w fun e w' => e = .returned (.bool true) ∧ Hold w' (C :: L) := by
  obtain ⟨i5, hi, hz0, hz1, hz2⟩ := info_parts info5
  obtain ⟨i32, hi', hy0, hy1, hy2⟩ := info_parts info32
  have PN := fun w L h => new_good W S T F hf w L h
  have hN : (n : Int) ≤ 9223372036854775807 := by omega
  have hf2 := hf
  unfold fitsN at hf2
  have hI0 : SI (newS W S T F) := SI.new (by omega) (by omega) (by omega) (by omega) (by omega) hF
  have HI0 := Lib.hid hI0
  have HO := Lib.hid hO
  have d1 : decide ((1 : Int) ≤ W) = true := by simp; omega
  have d2 : decide ((W : Int) ≤ 64) = true := by simp; omega
  have d3 : decide (W ≤ S) = true := by simp; omega
  have d4 : decide ((S : Int) ≤ 256) = true := by simp; omega
  have d5 : decide ((1 : Int) ≤ T) = true := by simp; omega
  have d6 : decide ((T : Int) ≤ 1048576) = true := by simp; omega
  have WF : IntKind.u64.wrap (F : Int) = F := IntWalk.u64_in _ (by omega)
  have WS : IntKind.u64.wrap (S : Int) = S := IntWalk.u64_in _ (by omega)
  have WW : IntKind.u64.wrap (W : Int) = W := IntWalk.u64_in _ (by omega)
  have HF := Lib.hid (And.intro hf2 hF)
  clear hF hf hn hI0 hO hf2
  go_enter Try.func4, Try.ntmps4
  have hb : Hold _ (seA w.heap.size W S T F :: C :: L) := h.box 24 [.int .i64 W, .int .i64 S, .int .i64 T, .int .u32 F]
  go_upto_region 1 with (fail)
  refine gen_world hb (fun w1 hb => ?_)
  generalize w.heap.size = q at *
  obtain ⟨g0, g1, g2, g3⟩ := seM hb
  go_upto_region 2 with (go_at_call 7; refine (PN _ _ hb).mono ?_; rintro e w2 ⟨b, rfl, h2⟩)
  clear PN g0 g1 g2 g3 hb
  obtain ⟨g0, g1, g2, g3⟩ := seM (h2.mv 1)
  go_upto_region 6 with (first
    | (go_at_call 8; refine (num_any _ _).mono ?_; rintro e w2 ⟨rfl, rfl⟩))
  clear d1 d2 d3 d4 d5 d6 g0 g1 g2 g3
  have hS := h2.drew
  obtain ⟨-, -, -, g3⟩ := seM (hS.mv 1)
  refine wp_region_Z (fun W => W.cell? ⟨q, 3, none⟩ = some (.int .u32 F)) [1, 2, 4, 5] [] [0, 3, 6, 7] [0, 1, 2, 3, 4, 5, 6, 7] (by kernel_rfl) (by kernel_rfl) ?_
  (repeat (first | (refine wpZ_st (v := ?_) _ (by rfl) (by rfl) (by rfl) (fun W hW => ?_) (by exact g3) ?_; (rotate_left; (focus ((try dsimp only at hW); go_simp; (try with_reducible rfl); done))); try simp only [Act.put, List.getElem_toArray, List.getElem_cons_zero, List.getElem_cons_succ, List.setIfInBounds_toArray, List.set_cons_zero, List.set_cons_succ]) | (refine wpZ_pu (v := ?_) _ (by rfl) (by rfl) (by rfl) (by rfl) (fun W => ?_) ?_; (rotate_left; (focus ((try dsimp only at hW); go_simp; (try with_reducible rfl); done))); try simp only [Act.put, List.getElem_toArray, List.getElem_cons_zero, List.getElem_cons_succ, List.setIfInBounds_toArray, List.set_cons_zero, List.set_cons_succ]) | (refine wpZ_no _ (by rfl) (by rfl) (by rfl) (by rfl) ?_; try simp only [Act.put, List.getElem_toArray, List.getElem_cons_zero, List.getElem_cons_succ, List.setIfInBounds_toArray, List.set_cons_zero, List.set_cons_succ]) | (refine wpZ_noS _ (by rfl) (by rfl) (by rfl) (by exact g3) ?_; try simp only [Act.put, List.getElem_toArray, List.getElem_cons_zero, List.getElem_cons_succ, List.setIfInBounds_toArray, List.set_cons_zero, List.set_cons_succ])))
  (simp only [wpZ])
  clear g3
  have h3 : Hold w2.drew (snA b (newS W S T F) :: rowsA none 0 [] :: seA q W S T F :: C :: L) := by
    have h9 : Hold w2.drew (rowsA none 0 [] :: snA b (newS W S T F) :: seA q W S T F :: C :: L) := rows_close (vs := []) rfl (by simpa [sl, rws] using (hS.nilL).nilRow 32 1)
    exact h9.swap
  go_wp2
  go_loopw [8, 9, 10, 11] (fun gv bv tv i wr => KeepRel b q W S T F n C L gv bv tv i wr) (fun _ _ _ i _ => n - (intOf i).toNat)
  case atStart => exact ⟨0, newS W S T F, [], none, 0, by omega, rfl, rfl, rfl, rfl, KI.new HI0.out, rfl, rfl, h3⟩
  case round =>
    clear h2 h3 hS HI0
    obtain ⟨k, S1, G, go, gc, hk, rfl, rfl, rfl, rfl, K1, eW, eS, hr⟩ := hrel
    have hfin := K1.fin
    have hmx := K1.si.max
    obtain ⟨E, hE⟩ : ∃ E : Int, (S1.fin : Int) = E := ⟨_, rfl⟩
    have WG : IntKind.u64.wrap (G.length : Int) = G.length := IntWalk.u64_in _ (by omega)
    have WE : IntKind.u64.wrap ((F : Int) + G.length) = E := by rw [show (F : Int) + G.length = E by omega]; exact IntWalk.u64_in _ (by omega)
    have HK := Lib.hid (And.intro K1 (And.intro eW eS))
    have HE := Lib.hid (And.intro hE (And.intro hfin hmx))
    have hGl : (G.length : Int) ≤ 9223372036854775807 := by omega
    clear hfin hmx hE eW eS
    by_cases hlt : k < n
    · have hki : (k : Int) < n := by omega
      have hk0 : 0 ≤ (k : Int) := by omega
      obtain ⟨rb, ro, vs, rfl, ⟨kd, ys, ax, cx, N, near, rfl, hRy, hyl, hN4⟩, GC⟩ := HO.out.at hlt (by omega) (hr.mv 3)
      have GA : wr.rangeAt rb (ro + k * 4) [.int .i64 kd, .slice ax ys.length cx, .int .u32 N, .bool near] := fun j v hj => by
        have hj4 : j < 4 := (List.getElem?_eq_some_iff.1 hj).1
        rw [Nat.add_assoc, GC _ _ (hr.mv 3) j hj4]; exact hj
      clear GC
      obtain ⟨qo, hqo⟩ : ∃ q, wr.heap.size = q := ⟨_, rfl⟩
      have h3 := hr.box 34 [.int .i64 kd, .slice ax ys.length cx, .int .u32 N, .bool near]
      simp only [hqo] at h3
      go_upto_region 11 with ((with_reducible refine wpList_yw (o := ⟨some 95, _, _, _, _, _⟩) (v := .agg #[.int .i64 kd, .slice ax ys.length cx, .int .u32 N, .bool near]) ?_ ?_ ?_); (focus rfl); (focus exact exec_load34 (by rfl) (by rfl) GA))
      try simp only [hqo]
      refine gen_world h3 (fun w3 h3 => ?_)
      clear GA hr hqo
      have c0 : w3.cell? ⟨qo, 0, none⟩ = some (.int .i64 kd) := h3.cell 0
      have c1 : w3.cell? ⟨qo, 1, none⟩ = some (.slice ax ys.length cx) := h3.cell 1
      have c2 : w3.cell? ⟨qo, 2, none⟩ = some (.int .u32 N) := h3.cell 2
      have c3 : w3.cell? ⟨qo, 3, none⟩ = some (.bool near) := h3.cell 3
      obtain ⟨g0, g1, g2, g3⟩ := seM (h3.mv 3)
      go_upto_block 2 with (fail)
      go_cut [8, 9, 10] (fun gv bv tv wc => MidRel b q W S T F C L gv bv tv wc)
      case first =>
        by_cases hk1 : kd = 1
        · subst hk1
          have PO := own_ok ys C ax ys.length cx hRy hyl
          have hyl' : (ys.length : Int) ≤ 9223372036854775807 := by omega
          by_cases he : sendE S1 ys.length = 0
          · as_aux_lemma =>
              have PS := fun ao cap w L h => send_good b S1 K1.si ys (ownA ao ys.length cap ys) ao ys.length cap (ownA_reads rfl) he w L h
              have hc : ys.length ≤ 64 ∧ S1.fin ≠ 4294967295 ∧ S1.L.length < S1.store := by
                have h1 := K1.si.ll
                unfold sendE at he
                split at he
                · omega
                · split at he
                  · omega
                  · split at he
                    · omega
                    · exact ⟨by omega, by omega, by omega⟩
              have hfb := K1.si.fin
              have hst := HK.out.2.2
              have hE := HE.out.1
              have hE2 := HE.out.2.2
              rw [hE] at PS
              have q1 : decide ((ys.length : Int) ≤ 64) = true := by simp; omega
              have q2 : (E == 4294967295) = false := by rw [beq_eq_false_iff_ne]; omega
              have q2' : (E != 4294967295) = true := by simp; omega
              have q3 : IntKind.u64.wrap (E - S1.base) = S1.L.length := by rw [show E - (S1.base : Int) = S1.L.length by omega]; exact IntWalk.u64_in _ (by omega)
              have q4 : decide (S1.L.length < S) = true := by simp; omega
              have q5 : IntKind.u64.wrap E = E := IntWalk.u64_in _ (by omega)
              have HA := Lib.hid (K1.add he)
              have HRY := Lib.hid hRy
              have HU := Lib.hid (ub_one ys)
              have hG9 : G.length ≤ 4294967295 := by have := K1.fin; omega
              have HG9 := Lib.hid (And.intro hG9 hc.1)
              clear hRy he K1 hc hfb hst hE hE2 hG9
              go_upto_region 15 with (first
                | (go_at_call 11; refine (PO _ _ (h3.mv 4)).mono ?_; rintro e w4 ⟨ao3, cap3, rfl, h4⟩; have h5 := h4.arr [3, 0, 1, 2, 4, 5])
                | (go_at_call 10; refine (PS _ _ _ _ h5).mono ?_; rintro e w6 ⟨rfl, h6⟩))
              (try dsimp only [Go.Own.front, Go.Own.arrA, Go.Own.atA, Go.Own.dropA, List.length_cons, List.length_nil, Nat.zero_add, Nat.reduceAdd] at h6)
              clear c0 c1 c2 c3 g0 g1 g2 g3 h3 h4 h5 PS PO
              have c1 : w6.cell? ⟨qo, 1, none⟩ = some (.slice ax ys.length cx) := (h6.mv 3).cell 1
              obtain ⟨-, g1, -, -⟩ := seM (h6.mv 5)
              go_upto_region 19 with (first
                | (go_at_call 8; refine (num_any _ _).mono ?_; rintro e w2 ⟨rfl, rfl⟩))
              clear g1
              obtain ⟨SR, r0⟩ := (h6.mv 2).reads HRY.out
              have c1' : (w6.alloc (.cells #[] 5)).cell? ⟨qo, 1, none⟩ = some (.slice ax ys.length cx) := ((h6.junk (.cells #[] 5)).mv 3).cell 1
              clear c1
              go_wp2_with (first
                | ((with_reducible refine wpList_plain (o := ⟨some 151, _, _, _, _, _⟩) rfl (fun K hK => ?_)); refine wp_append_new_h (w := w6) _ _ 32 (by rfl) 5 i5 (.int .u8 0) 1 1 Try.underlying32 hi hz0 hz1 hz2 (by rfl) h6 (by rfl) ⟨rfl, rfl, rfl, rfl⟩ _ (by rfl) ys.length (ub ys) SR r0 HU.out (by unfold maxLen; have := HG9.out.2; omega) (by have := HG9.out.2; omega) (fun ao1 cap1 w7 h7 hc1 => ?_); refine hK _ _ ?_; clear hK K; obtain ⟨vs, hvl, h8⟩ := rows_open (h7.mv 5); (try dsimp only [Go.Own.front, Go.Own.arrA, Go.Own.atA, Go.Own.dropA, List.length_cons, List.length_nil, Nat.zero_add, Nat.reduceAdd] at h8))
                | ((with_reducible refine wpList_plain (o := ⟨some 153, _, _, _, _, _⟩) rfl (fun K hK => ?_)); refine wp_append_one_h (w := w7) _ _ 47 (by rfl) 32 i32 (.slice none 0 0) 1 24 Try.underlying47 hi' hy0 hy1 hy2 (by rfl) _ G.length _ _ (by rfl) h8 [.slice ao1 ys.length cap1] (by rfl) ⟨rfl, rfl, rfl, rfl⟩ (by rfl) (by simp [Value.oneCell']) (by unfold maxLen; have := HG9.out.1; omega) (by have := HG9.out.1; omega) (fun go2 gc2 w9 h9 hc9 => ?_); refine hK _ _ ?_; clear hK K; have h10 := rows_add hvl h9))
              have h11 := (h10.arr [2, 4, 1, 0, 5, 3]).drop.drop
              go_meet
              exact ⟨addS S1 ys, G ++ [ys], go2, gc2, by simp, rfl, rfl, HA.out, HK.out.2.1, HK.out.2.2, h11⟩
          · have PS := fun ao cap w L h => send_bad b S1 K1.si ao ys.length cap hyl he w L h
            have hst := HK.out.2.2
            have hE := HE.out.1
            have hfb := K1.si.fin
            have HRY := Lib.hid hRy
            have q5 : IntKind.u64.wrap E = E := IntWalk.u64_in _ (by have := HE.out.2.2; omega)
            clear hRy
            by_cases h64 : 64 < ys.length
            · as_aux_lemma =>
                have e : sendE S1 ys.length = 6 := by unfold sendE; rw [if_pos h64]
                rw [e] at PS
                have q1 : decide ((ys.length : Int) ≤ 64) = false := by simp; omega
                clear he e K1 hst hE hfb h64
                go_upto_region 15 with (first
                  | (go_at_call 11; refine (PO _ _ (h3.mv 4)).mono ?_; rintro e w4 ⟨ao3, cap3, rfl, h4⟩; have h5 := h4.arr [3, 0, 1, 2, 4, 5])
                  | (go_at_call 10; refine (PS _ _ _ _ h5).mono ?_; rintro e w6 ⟨rfl, h6⟩))
                (try dsimp only [Go.Own.front, Go.Own.arrA, Go.Own.atA, Go.Own.dropA, List.length_cons, List.length_nil, Nat.zero_add, Nat.reduceAdd] at h6)
                clear c0 c1 c2 c3 g0 g1 g2 g3 h3 h4 h5 PS PO
                have c1 : w6.cell? ⟨qo, 1, none⟩ = some (.slice ax ys.length cx) := (h6.mv 3).cell 1
                obtain ⟨-, g1, -, -⟩ := seM (h6.mv 5)
                go_wp2_with (first
                  | (go_at_call 8; refine (num_any _ _).mono ?_; rintro e w2 ⟨rfl, rfl⟩))
                go_meet
                have h11 := (h6.arr [1, 3, 0, 4, 5, 2]).drop.drop
                exact ⟨S1, G, go, gc, rfl, rfl, rfl, HK.out.1, HK.out.2.1, HK.out.2.2, h11⟩
            · by_cases hm : S1.fin = 4294967295
              · as_aux_lemma =>
                  have e : sendE S1 ys.length = 4 := by unfold sendE; rw [if_neg h64, if_pos hm]
                  rw [e] at PS
                  have q1 : decide ((ys.length : Int) ≤ 64) = true := by simp; omega
                  have q2 : (E == 4294967295) = true := by rw [beq_iff_eq]; omega
                  have q2' : (E != 4294967295) = false := by simp; omega
                  clear he e K1 hst hE hfb h64 hm
                  go_upto_region 15 with (first
                    | (go_at_call 11; refine (PO _ _ (h3.mv 4)).mono ?_; rintro e w4 ⟨ao3, cap3, rfl, h4⟩; have h5 := h4.arr [3, 0, 1, 2, 4, 5])
                    | (go_at_call 10; refine (PS _ _ _ _ h5).mono ?_; rintro e w6 ⟨rfl, h6⟩))
                  (try dsimp only [Go.Own.front, Go.Own.arrA, Go.Own.atA, Go.Own.dropA, List.length_cons, List.length_nil, Nat.zero_add, Nat.reduceAdd] at h6)
                  clear c0 c1 c2 c3 g0 g1 g2 g3 h3 h4 h5 PS PO
                  have c1 : w6.cell? ⟨qo, 1, none⟩ = some (.slice ax ys.length cx) := (h6.mv 3).cell 1
                  obtain ⟨-, g1, -, -⟩ := seM (h6.mv 5)
                  go_wp2_with (first
                    | (go_at_call 8; refine (num_any _ _).mono ?_; rintro e w2 ⟨rfl, rfl⟩))
                  go_meet
                  have h11 := (h6.arr [1, 3, 0, 4, 5, 2]).drop.drop
                  exact ⟨S1, G, go, gc, rfl, rfl, rfl, HK.out.1, HK.out.2.1, HK.out.2.2, h11⟩
              · as_aux_lemma =>
                  have hL : S1.L.length = S1.store := by
                    apply Classical.byContradiction
                    intro hne
                    apply he
                    unfold sendE; rw [if_neg h64, if_neg hm, if_neg hne]
                  have e : sendE S1 ys.length = 2 := by unfold sendE; rw [if_neg h64, if_neg hm, if_pos hL]
                  rw [e] at PS
                  have q1 : decide ((ys.length : Int) ≤ 64) = true := by simp; omega
                  have q2 : (E == 4294967295) = false := by rw [beq_eq_false_iff_ne]; omega
                  have q2' : (E != 4294967295) = true := by simp; omega
                  have q3 : IntKind.u64.wrap (E - S1.base) = S := by rw [show E - (S1.base : Int) = S by omega]; exact IntWalk.u64_in _ (by have := HF.out; omega)
                  clear he e K1 hst hE hfb h64 hm hL
                  go_upto_region 15 with (first
                    | (go_at_call 11; refine (PO _ _ (h3.mv 4)).mono ?_; rintro e w4 ⟨ao3, cap3, rfl, h4⟩; have h5 := h4.arr [3, 0, 1, 2, 4, 5])
                    | (go_at_call 10; refine (PS _ _ _ _ h5).mono ?_; rintro e w6 ⟨rfl, h6⟩))
                  (try dsimp only [Go.Own.front, Go.Own.arrA, Go.Own.atA, Go.Own.dropA, List.length_cons, List.length_nil, Nat.zero_add, Nat.reduceAdd] at h6)
                  clear c0 c1 c2 c3 g0 g1 g2 g3 h3 h4 h5 PS PO
                  have c1 : w6.cell? ⟨qo, 1, none⟩ = some (.slice ax ys.length cx) := (h6.mv 3).cell 1
                  obtain ⟨-, g1, -, -⟩ := seM (h6.mv 5)
                  go_wp2_with (first
                    | (go_at_call 8; refine (num_any _ _).mono ?_; rintro e w2 ⟨rfl, rfl⟩))
                  go_meet
                  have h11 := (h6.arr [1, 3, 0, 4, 5, 2]).drop.drop
                  exact ⟨S1, G, go, gc, rfl, rfl, rfl, HK.out.1, HK.out.2.1, HK.out.2.2, h11⟩
        · have hd1 : (kd == 1) = false := by rw [beq_eq_false_iff_ne]; exact hk1
          clear hRy hyl
          by_cases hk2 : kd = 2
          · subst hk2
            clear hk1 hd1 hN4
            obtain ⟨t1, t2, t3, t4, t5, t6, t7⟩ := tick_same S1
            by_cases hrd : ready (tickS S1) = true
            · as_aux_lemma =>
                have PS := slot_yes b S1 K1.si hrd w3 _ (h3.mv 1)
                have hrd2 := hrd
                simp only [ready, decide_eq_true_eq] at hrd2
                have hbn := K1.si.tick.bn
                have hst : (slotS S1).top = max S1.top ((tickS S1).next + 1) := by unfold slotS; rw [if_pos hrd]; show max (tickS S1).top _ = _; rw [t7]
                have hsb : (slotS S1).base = S1.base := (slot_same S1).1
                have hfb := K1.fb
                have hle := K1.le
                have hKat := fun (d : Nat) (x : List UInt8) hx => K1.at (d := d) (x := x) hx
                generalize (tickS S1).next = nx at *
                have hnx1 : S1.base ≤ nx := by omega
                have hnx2 : nx < S1.fin := by omega
                have hnx3 : nx < S1.base + W := by have := HK.out.2.1; omega
                obtain ⟨d, hd⟩ : ∃ d, nx - F = d := ⟨_, rfl⟩
                have hdG : d < G.length := by have := K1.fin; omega
                have hE := HE.out.1
                have hE2 := HE.out.2.2
                have q0 : IntKind.u64.wrap (nx : Int) = nx := IntWalk.u64_in _ (by omega)
                have q1 : IntKind.u64.wrap ((S1.base : Int) + W) = (S1.base : Int) + W := IntWalk.u64_in _ (by have := HF.out; omega)
                have q2 : IntKind.u64.wrap ((nx : Int) - F) = d := by rw [show (nx : Int) - F = d by omega]; exact IntWalk.u64_in _ (by omega)
                have q3 : IntKind.u64.wrap ((nx : Int) + 1) = (nx : Int) + 1 := IntWalk.u64_in _ (by omega)
                have q4 : decide (nx < S1.base) = false := by simp; omega
                have q5 : decide (E ≤ (nx : Int)) = false := by simp; omega
                have q6 : decide ((S1.base : Int) + W ≤ nx) = false := by simp; omega
                have q7 : decide (S1.base + W ≤ nx) = false := by simp; omega
                have hdi : (d : Int) < G.length := by omega
                have hd0 : 0 ≤ (d : Int) := by omega
                have HD := Lib.hid (And.intro hdG (And.intro hst hsb))
                have hdd : S1.base - F + (nx - S1.base) = d := by omega
                have HKat : Hid (∀ x, S1.L[nx - S1.base]? = some x → G[d]? = some x) := Lib.hid (fun x hx => by rw [← hdd]; exact hKat _ x hx)
                clear t1 t2 t3 t4 t5 t6 t7 hrd hrd2 hbn hst hsb hfb hle hKat hnx1 hnx2 hnx3 hd hdG hE hE2 hdd K1
                go_upto_region 22 with (go_at_call 12; refine PS.mono ?_; rintro e w4 ⟨x, a4, cap4, hx, -, rfl, h4⟩)
                clear PS c0 c1 c2 c3 g0 g1 g2 g3 h3
                obtain ⟨q8, hq8⟩ : ∃ q, w4.heap.size = q := ⟨_, rfl⟩
                have h5 := h4.box 39 [.int .i64 2, .int .u32 nx, .int .u32 0, .slice a4 x.length cap4]
                simp only [hq8] at h5
                try simp only [hq8]
                refine gen_world h5 (fun w5 h5 => ?_)
                clear hq8 h4
                have y1 : w5.cell? ⟨q8, 1, none⟩ = some (.int .u32 nx) := h5.cell 1
                go_upto_region 24 with (fail)
                have h6 := h5.drew
                have y0 : w5.drew.cell? ⟨q8, 0, none⟩ = some (.int .i64 2) := h6.cell 0
                have y2 : w5.drew.cell? ⟨q8, 2, none⟩ = some (.int .u32 0) := h6.cell 2
                have y3 : w5.drew.cell? ⟨q8, 3, none⟩ = some (.slice a4 x.length cap4) := h6.cell 3
                obtain ⟨g0, -, -, g3⟩ := seM (h6.mv 5)
                obtain ⟨SX, rX⟩ := (h6.mv 1).rd
                have tX := run_text Try.underlying32 Try.underlying5 Try.underlying9 rX
                have hRA := RowsAt.own (h6.mv 4)
                obtain ⟨gb, gp, x', u, rfl, hx', FG⟩ := hRA.at HD.out.1
                obtain rfl : x' = x := by rw [HKat.out x hx] at hx'; simpa using hx'.symm
                obtain ⟨cG, tG⟩ := FG _ (Fr.refl _ _)
                clear FG hRA rX hx hx' y1
                refine wp_region_Z (fun W' => W'.cell? ⟨q8, 0, none⟩ = some (.int .i64 2) ∧ W'.cell? ⟨q8, 2, none⟩ = some (.int .u32 0) ∧ W'.cell? ⟨q8, 3, none⟩ = some (.slice a4 x'.length cap4) ∧ W'.cell? ⟨q, 0, none⟩ = some (.int .i64 W) ∧ W'.cell? ⟨q, 3, none⟩ = some (.int .u32 F) ∧ W'.cell? ⟨gb, gp + d, none⟩ = some (.slice u.1 x'.length u.2) ∧ (convert 32 9 (.slice a4 x'.length cap4)).run Try.prog W' = .ok (.string ⟨x'.toArray⟩) W' ∧ (convert 32 9 (.slice u.1 x'.length u.2)).run Try.prog W' = .ok (.string ⟨x'.toArray⟩) W') [1, 5, 22, 23, 29, 30, 34, 35, 38, 39] [] [0, 2, 3, 4, 6, 7, 8, 9, 10, 11, 12, 13, 14, 15, 16, 17, 18, 19, 20, 21, 24, 25, 26, 27, 28, 31, 32, 33, 36, 37, 40, 41] [0, 1, 2, 3, 4, 5, 6, 7, 8, 9, 10, 11, 12, 13, 14, 15, 16, 17, 18, 19, 20, 21, 22, 23, 24, 25, 26, 27, 28, 29, 30, 31, 32, 33, 34, 35, 36, 37, 38, 39, 40, 41] (by kernel_rfl) (by kernel_rfl) ?_
                (repeat (first | (refine wpZ_st (v := ?_) _ (by rfl) (by rfl) (by rfl) (fun W hW => ?_) (by exact ⟨y0, y2, y3, g0, g3, cG, tX, tG⟩) ?_; (rotate_left; (focus ((try dsimp only at hW); go_simp; (try with_reducible rfl); done))); try simp only [Act.put, List.getElem_toArray, List.getElem_cons_zero, List.getElem_cons_succ, List.setIfInBounds_toArray, List.set_cons_zero, List.set_cons_succ]) | (refine wpZ_pu (v := ?_) _ (by rfl) (by rfl) (by rfl) (by rfl) (fun W => ?_) ?_; (rotate_left; (focus ((try dsimp only at hW); go_simp; (try with_reducible rfl); done))); try simp only [Act.put, List.getElem_toArray, List.getElem_cons_zero, List.getElem_cons_succ, List.setIfInBounds_toArray, List.set_cons_zero, List.set_cons_succ]) | (refine wpZ_no _ (by rfl) (by rfl) (by rfl) (by rfl) ?_; try simp only [Act.put, List.getElem_toArray, List.getElem_cons_zero, List.getElem_cons_succ, List.setIfInBounds_toArray, List.set_cons_zero, List.set_cons_succ]) | (refine wpZ_noS _ (by rfl) (by rfl) (by rfl) (by exact ⟨y0, y2, y3, g0, g3, cG, tX, tG⟩) ?_; try simp only [Act.put, List.getElem_toArray, List.getElem_cons_zero, List.getElem_cons_succ, List.setIfInBounds_toArray, List.set_cons_zero, List.set_cons_succ])))
                (simp only [wpZ])
                clear y0 y2 y3 g0 g3 cG tX tG
                have h7 := (h6.arr [0, 1, 3, 2, 4, 5, 6]).drop.drop.drop
                (try dsimp only [Go.Own.front, Go.Own.arrA, Go.Own.atA, Go.Own.dropA, List.length_cons, List.length_nil, Nat.zero_add, Nat.reduceAdd] at h7)
                by_cases htp : S1.top < nx + 1
                · have q8 : decide (S1.top < nx + 1) = true := by simp; omega
                  have q9 : decide ((S1.top : Int) < (nx : Int) + 1) = true := by simp; omega
                  clear htp
                  go_wp2
                  go_meet
                  exact ⟨slotS S1, G, some ⟨gb, gp, none⟩, gc, rfl, by rw [HD.out.2.2], by rw [HD.out.2.1]; congr 1; have := of_decide_eq_true q8; omega, HK.out.1.slot, (slot_same S1).2.2.1.trans HK.out.2.1, (slot_same S1).2.2.2.2.2.trans HK.out.2.2, h7⟩
                · have q8 : decide (S1.top < nx + 1) = false := by simp; omega
                  have q9 : decide ((S1.top : Int) < (nx : Int) + 1) = false := by simp; omega
                  clear htp
                  go_wp2
                  go_meet
                  exact ⟨slotS S1, G, some ⟨gb, gp, none⟩, gc, rfl, by rw [HD.out.2.2], by rw [HD.out.2.1]; congr 1; have := of_decide_eq_false q8; omega, HK.out.1.slot, (slot_same S1).2.2.1.trans HK.out.2.1, (slot_same S1).2.2.2.2.2.trans HK.out.2.2, h7⟩
            · as_aux_lemma =>
                have hrd' : ready (tickS S1) = false := by simpa using hrd
                have PS := slot_no b S1 K1.si hrd' w3 _ (h3.mv 1)
                have hst : slotS S1 = tickS S1 := by unfold slotS; rw [hrd']; rfl
                have HST := Lib.hid (And.intro hst (And.intro t7 t1))
                clear t1 t2 t3 t4 t5 t6 t7 hrd hrd' hst K1
                go_upto_region 22 with (go_at_call 12; refine PS.mono ?_; rintro e w4 ⟨rfl, h4⟩)
                clear PS c0 c1 c2 c3 g0 g1 g2 g3 h3
                obtain ⟨q8, hq8⟩ : ∃ q, w4.heap.size = q := ⟨_, rfl⟩
                have h5 := h4.box 39 [.int .i64 0, .int .u32 0, .int .u32 0, .slice none 0 0]
                simp only [hq8] at h5
                try simp only [hq8]
                refine gen_world h5 (fun w5 h5 => ?_)
                clear hq8 h4
                have y1 : w5.cell? ⟨q8, 1, none⟩ = some (.int .u32 0) := h5.cell 1
                have h7 := (h5.arr [0, 2, 1, 3, 4, 5]).drop.drop
                (try dsimp only [Go.Own.front, Go.Own.arrA, Go.Own.atA, Go.Own.dropA, List.length_cons, List.length_nil, Nat.zero_add, Nat.reduceAdd] at h7)
                go_wp2
                go_meet
                exact ⟨slotS S1, G, go, gc, rfl, by rw [HST.out.1, HST.out.2.2], by rw [HST.out.1, HST.out.2.1], HK.out.1.slot, (slot_same S1).2.2.1.trans HK.out.2.1, (slot_same S1).2.2.2.2.2.trans HK.out.2.2, h7⟩
          · have hd2 : (kd == 2) = false := by rw [beq_eq_false_iff_ne]; exact hk2
            by_cases hk3 : kd = 3
            · subst hk3
              clear hk1 hd1 hk2 hd2
              have WB : IntKind.u32.wrap (S1.base : Int) = S1.base := IntWalk.u32_in _ (by have := K1.si.bn; have := K1.si.nt; have := K1.si.tf; have := K1.si.max; omega)
              obtain ⟨mm, hmm⟩ : ∃ mm : Nat, IntKind.u32.wrap ((N : Int) + S1.base) = mm ∧ mm ≤ 4294967295 := ⟨(IntKind.u32.wrap ((N : Int) + S1.base)).toNat, by rw [IntKind.wrap_u32]; omega, by rw [IntKind.wrap_u32]; omega⟩
              obtain ⟨hm1, hm2⟩ := hmm
              have HM2 := Lib.hid (And.intro hm2 hN4)
              clear hm2 hN4 K1
              go_upto_if 219 with (fail)
              go_cut [20] (fun nv wc => ∃ m : Nat, nv = .int .u32 m ∧ m ≤ 4294967295 ∧ wc = w3)
              case first =>
                cases near
                · go_wp2
                  go_meet
                  exact ⟨N, rfl, HM2.out.2, rfl⟩
                · go_wp2
                  go_meet
                  exact ⟨mm, rfl, HM2.out.1, rfl⟩
              case rest =>
                obtain ⟨m, rfl, hm4, rfl⟩ := hcut
                obtain ⟨K1, eW, eS⟩ := HK.out
                have PA := ack_ok b S1 K1.si m _ _ (h3.mv 1)
                have HKA := Lib.hid (K1.ack m)
                have hq0 : IntKind.u64.wrap (m : Int) = m := IntWalk.u64_in _ (by omega)
                clear c0 c1 c2 c3 g0 g1 g2 g3 hm1 HM2 WB K1 eW eS
                by_cases hm1 : m ≤ S1.base
                · as_aux_lemma =>
                    have e1 : ackN S1 m = 0 := by unfold ackN; rw [if_pos (.inl hm1)]
                    have e2 : ackS S1 m = S1 := by unfold ackS; rw [if_pos (.inl hm1)]
                    rw [e1, e2] at PA
                    have q1 : decide (S1.base < m) = false := by simp; omega
                    clear hm1 e1 e2 hm4
                    go_wp2_with (go_at_call 13; refine PA.mono ?_; rintro e w4 ⟨rfl, h4⟩)
                    go_meet
                    exact ⟨S1, G, go, gc, rfl, rfl, rfl, HK.out.1, HK.out.2.1, HK.out.2.2, (h4.mv 1).drop⟩
                · by_cases hm2 : S1.top < m
                  · as_aux_lemma =>
                      have e1 : ackN S1 m = 0 := by unfold ackN; rw [if_pos (.inr hm2)]
                      have e2 : ackS S1 m = S1 := by unfold ackS; rw [if_pos (.inr hm2)]
                      rw [e1, e2] at PA
                      have q1 : decide (S1.base < m) = true := by simp; omega
                      have q2 : decide (m ≤ S1.top) = false := by simp; omega
                      clear hm1 hm2 e1 e2 hm4
                      go_wp2_with (go_at_call 13; refine PA.mono ?_; rintro e w4 ⟨rfl, h4⟩)
                      go_meet
                      exact ⟨S1, G, go, gc, rfl, rfl, rfl, HK.out.1, HK.out.2.1, HK.out.2.2, (h4.mv 1).drop⟩
                  · as_aux_lemma =>
                      have hno : ¬ (m ≤ S1.base ∨ S1.top < m) := by omega
                      have e1 : ackN S1 m = m - S1.base := by unfold ackN; rw [if_neg hno]
                      have e2 : (ackS S1 m).base = m ∧ (ackS S1 m).top = S1.top ∧ (ackS S1 m).window = S1.window ∧ (ackS S1 m).store = S1.store := by unfold ackS; rw [if_neg hno]; exact ⟨rfl, rfl, rfl, rfl⟩
                      rw [e1, show ((m - S1.base : Nat) : Int) = (m : Int) - S1.base by omega] at PA
                      have q1 : decide (S1.base < m) = true := by simp; omega
                      have q2 : decide (m ≤ S1.top) = true := by simp; omega
                      have q3 : IntKind.u64.wrap ((m : Int) - S1.base) = (m : Int) - S1.base := IntWalk.u64_in _ (by omega)
                      have q4 : IntKind.i64.wrap ((m : Int) - S1.base) = (m : Int) - S1.base := IntWalk.i64_in _ (by omega)
                      have HE2 := Lib.hid e2
                      clear hm1 hm2 e1 e2 hno hm4
                      go_wp2_with (go_at_call 13; refine PA.mono ?_; rintro e w4 ⟨rfl, h4⟩)
                      go_meet
                      exact ⟨ackS S1 m, G, go, gc, rfl, by rw [HE2.out.1], by rw [HE2.out.2.1], HKA.out, HE2.out.2.2.1.trans HK.out.2.1, HE2.out.2.2.2.trans HK.out.2.2, (h4.mv 1).drop⟩
            · as_aux_lemma =>
                have hd3 : (kd == 3) = false := by rw [beq_eq_false_iff_ne]; exact hk3
                clear hN4 K1 hk1 hk2 hk3
                go_wp2
                go_meet
                exact ⟨S1, G, go, gc, rfl, rfl, rfl, HK.out.1, HK.out.2.1, HK.out.2.2, h3.drop⟩
      case rest =>
        as_aux_lemma =>
          clear c0 c1 c2 c3 g0 g1 g2 g3 h3 HK HE K1 WE WG hGl hRy hyl hN4
          obtain ⟨S2, G2, go2, gc2, rfl, rfl, rfl, K2, eW, eS, hr⟩ := hcut
          have hfin := K2.fin
          have hmx := K2.si.max
          have hbn := K2.si.bn
          have hnt := K2.si.nt
          have htf := K2.si.tf
          obtain ⟨E2, hE⟩ : ∃ E : Int, (S2.fin : Int) = E := ⟨_, rfl⟩
          have WG : IntKind.u64.wrap (G2.length : Int) = G2.length := IntWalk.u64_in _ (by omega)
          have WE : IntKind.u64.wrap ((F : Int) + G2.length) = E2 := by rw [show (F : Int) + G2.length = E2 by omega]; exact IntWalk.u64_in _ (by omega)
          have WE2 : IntKind.u64.wrap E2 = E2 := IntWalk.u64_in _ (by omega)
          have WB : IntKind.u64.wrap (S2.base : Int) = S2.base := IntWalk.u64_in _ (by omega)
          have WN : IntKind.u64.wrap (S2.next : Int) = S2.next := IntWalk.u64_in _ (by omega)
          have PB := fun w L h => base_ok b S2 K2.si w L h
          have PX := fun w L h => next_ok b S2 K2.si w L h
          have PE := fun w L h => end_ok b S2 K2.si w L h
          rw [hE] at PE
          have e1 : decide (S2.next < S2.base) = false := by simp; omega
          have e2 : decide (S2.top < S2.next) = false := by simp; omega
          have HK2 := Lib.hid (And.intro K2 (And.intro eW eS))
          have hGl : (G2.length : Int) ≤ 9223372036854775807 := by omega
          obtain ⟨g0, g1, g2, g3⟩ := seM (hr.mv 2)
          clear K2 eW eS hE hfin hmx hbn hnt htf
          go_wp2_with (first
            | (go_at_call 14; refine (PB _ _ hr).mono ?_; rintro e w5 ⟨rfl, rfl⟩)
            | (go_at_call 16; refine (PX _ _ hr).mono ?_; rintro e w5 ⟨rfl, rfl⟩)
            | (go_at_call 15; refine (PE _ _ hr).mono ?_; rintro e w5 ⟨rfl, rfl⟩))
          go_roundw
          case rel => exact ⟨k + 1, S2, G2, go2, gc2, by omega, by go_num, rfl, rfl, rfl, HK2.out.1, HK2.out.2.1, HK2.out.2.2, hr⟩
          case measure => simp [intOf]; omega
    · obtain rfl : k = n := by omega
      clear hlt hk hN HO
      have PH := held_ok b S1 K1.si wr.drew _ hr.drew
      have hle := K1.le
      have hfb := K1.fb
      have hll : S1.L.length = G.length - (S1.base - F) := by rw [K1.eq]; simp
      obtain ⟨d, hd⟩ : ∃ d, S1.base - F = d := ⟨_, rfl⟩
      have q2 : IntKind.u64.wrap ((S1.base : Int) - F) = d := by rw [show (S1.base : Int) - F = d by omega]; exact IntWalk.u64_in _ (by have := HE.out; omega)
      have hdi : (d : Int) ≤ G.length := by omega
      have hd0 : 0 ≤ (d : Int) := by omega
      have hLe : S1.L = G.drop d := by rw [← hd]; exact K1.eq
      rw [hd] at hll
      have HL := Lib.hid (And.intro hLe hll)
      have HDG : Hid (d ≤ G.length) := Lib.hid (by omega)
      clear K1 hle hfb hd hLe hll
      go_upto_region 42 with (fail)
      have hS := hr.drew
      obtain ⟨-, -, -, g3⟩ := seM (hS.mv 2)
      have hgb : G.length ≤ gc := by obtain ⟨vs, hvl, h9⟩ := rows_open (hS.mv 1); exact h9.bounds.2.1
      by_cases hgd : gc = d
      · as_aux_lemma =>
          subst hgd
          have hz : S1.L.length = 0 := by have := HL.out.2; omega
          have hz2 : G.length = gc := by have := HDG.out; omega
          refine wp_region_Z (fun W => W.cell? ⟨q, 3, none⟩ = some (.int .u32 F)) [5, 6] [] [0, 2, 3, 4, 7, 8, 10, 12, 13] [0, 2, 3, 4, 5, 6, 7, 8, 1, 9, 10, 11, 12, 13] (by kernel_rfl) (by kernel_rfl) ?_
          (repeat (first | (refine wpZ_st (v := ?_) _ (by rfl) (by rfl) (by rfl) (fun W hW => ?_) (by exact g3) ?_; (rotate_left; (focus ((try dsimp only at hW); go_simp; (try with_reducible rfl); done))); try simp only [Act.put, List.getElem_toArray, List.getElem_cons_zero, List.getElem_cons_succ, List.setIfInBounds_toArray, List.set_cons_zero, List.set_cons_succ]) | (refine wpZ_pu (v := ?_) _ (by rfl) (by rfl) (by rfl) (by rfl) (fun W => ?_) ?_; (rotate_left; (focus ((try dsimp only at hW); go_simp; (try with_reducible rfl); done))); try simp only [Act.put, List.getElem_toArray, List.getElem_cons_zero, List.getElem_cons_succ, List.setIfInBounds_toArray, List.set_cons_zero, List.set_cons_succ]) | (refine wpZ_no _ (by rfl) (by rfl) (by rfl) (by rfl) ?_; try simp only [Act.put, List.getElem_toArray, List.getElem_cons_zero, List.getElem_cons_succ, List.setIfInBounds_toArray, List.set_cons_zero, List.set_cons_succ]) | (refine wpZ_noS _ (by rfl) (by rfl) (by rfl) (by exact g3) ?_; try simp only [Act.put, List.getElem_toArray, List.getElem_cons_zero, List.getElem_cons_succ, List.setIfInBounds_toArray, List.set_cons_zero, List.set_cons_succ])))
          refine wpZ_eff _ (by rfl) (by rfl) (by rfl) (by rfl) (fun K hK => ?_)
          go_simp
          refine PH.mono ?_
          rintro e w7 ⟨ho, hc, rfl, h7⟩
          dsimp only
          (refine hK _ _ (fun hl => ?_) ?_; (first | (focus (cases hl; done)) | exact (by obtain ⟨-, -, -, g3⟩ := seM (h7.mv 3); exact g3)); clear hK K; try simp only [Act.put, List.getElem_toArray, List.getElem_cons_zero, List.getElem_cons_succ, List.setIfInBounds_toArray, List.set_cons_zero, List.set_cons_succ])
          have g3' := (seM (h7.mv 3)).2.2.2
          (repeat (first | (refine wpZ_st (v := ?_) _ (by rfl) (by rfl) (by rfl) (fun W hW => ?_) (by exact g3') ?_; (rotate_left; (focus ((try dsimp only at hW); go_simp; (try with_reducible rfl); done))); try simp only [Act.put, List.getElem_toArray, List.getElem_cons_zero, List.getElem_cons_succ, List.setIfInBounds_toArray, List.set_cons_zero, List.set_cons_succ]) | (refine wpZ_pu (v := ?_) _ (by rfl) (by rfl) (by rfl) (by rfl) (fun W => ?_) ?_; (rotate_left; (focus ((try dsimp only at hW); go_simp; (try with_reducible rfl); done))); try simp only [Act.put, List.getElem_toArray, List.getElem_cons_zero, List.getElem_cons_succ, List.setIfInBounds_toArray, List.set_cons_zero, List.set_cons_succ]) | (refine wpZ_no _ (by rfl) (by rfl) (by rfl) (by rfl) ?_; try simp only [Act.put, List.getElem_toArray, List.getElem_cons_zero, List.getElem_cons_succ, List.setIfInBounds_toArray, List.set_cons_zero, List.set_cons_succ]) | (refine wpZ_noS _ (by rfl) (by rfl) (by rfl) (by exact g3') ?_; try simp only [Act.put, List.getElem_toArray, List.getElem_cons_zero, List.getElem_cons_succ, List.setIfInBounds_toArray, List.set_cons_zero, List.set_cons_succ])))
          refine wpZ_eff _ (by rfl) (by rfl) (by rfl) (by rfl) (fun K hK => ?_)
          go_simp
          have hcm : hc ≤ maxLen := by obtain ⟨vs, hvl, h9⟩ := rows_open h7; exact h9.bounds.2.2
          refine (rows_ok [] _ _ 0 _ _ (by omega) w7 (RowsAt.none _ _ _ hcm) (RowsAt.none _ _ _ (by unfold maxLen; omega))).mono ?_
          rintro e w8 ⟨rfl, dk, rfl⟩
          dsimp only
          (refine hK _ _ (fun hl => ?_) ?_; (first | (focus (cases hl; done)) | exact (by obtain ⟨-, -, -, g3⟩ := seM ((h7.drewN dk).mv 3); exact g3)); clear hK K; try simp only [Act.put, List.getElem_toArray, List.getElem_cons_zero, List.getElem_cons_succ, List.setIfInBounds_toArray, List.set_cons_zero, List.set_cons_succ])
          have g3'' := (seM ((h7.drewN dk).mv 3)).2.2.2
          (repeat (first | (refine wpZ_st (v := ?_) _ (by rfl) (by rfl) (by rfl) (fun W hW => ?_) (by exact g3'') ?_; (rotate_left; (focus ((try dsimp only at hW); go_simp; (try with_reducible rfl); done))); try simp only [Act.put, List.getElem_toArray, List.getElem_cons_zero, List.getElem_cons_succ, List.setIfInBounds_toArray, List.set_cons_zero, List.set_cons_succ]) | (refine wpZ_pu (v := ?_) _ (by rfl) (by rfl) (by rfl) (by rfl) (fun W => ?_) ?_; (rotate_left; (focus ((try dsimp only at hW); go_simp; (try with_reducible rfl); done))); try simp only [Act.put, List.getElem_toArray, List.getElem_cons_zero, List.getElem_cons_succ, List.setIfInBounds_toArray, List.set_cons_zero, List.set_cons_succ]) | (refine wpZ_no _ (by rfl) (by rfl) (by rfl) (by rfl) ?_; try simp only [Act.put, List.getElem_toArray, List.getElem_cons_zero, List.getElem_cons_succ, List.setIfInBounds_toArray, List.set_cons_zero, List.set_cons_succ]) | (refine wpZ_noS _ (by rfl) (by rfl) (by rfl) (by exact g3'') ?_; try simp only [Act.put, List.getElem_toArray, List.getElem_cons_zero, List.getElem_cons_succ, List.setIfInBounds_toArray, List.set_cons_zero, List.set_cons_succ])))
          refine wpZ_eff _ (by rfl) (by rfl) (by rfl) (by rfl) (fun K hK => ?_)
          go_simp
          refine (live_ok _ _ (h7.drewN dk)).mono ?_
          rintro e w9 ⟨rfl, h9⟩
          dsimp only
          (refine hK _ _ (fun hl => ?_) ?_; (first | (focus (cases hl; done)) | exact (by obtain ⟨-, -, -, g3⟩ := seM (h9.mv 3); exact g3)); clear hK K; try simp only [Act.put, List.getElem_toArray, List.getElem_cons_zero, List.getElem_cons_succ, List.setIfInBounds_toArray, List.set_cons_zero, List.set_cons_succ])
          have g4 := (seM (h9.mv 3)).2.2.2
          (repeat (first | (refine wpZ_st (v := ?_) _ (by rfl) (by rfl) (by rfl) (fun W hW => ?_) (by exact g4) ?_; (rotate_left; (focus ((try dsimp only at hW); go_simp; (try with_reducible rfl); done))); try simp only [Act.put, List.getElem_toArray, List.getElem_cons_zero, List.getElem_cons_succ, List.setIfInBounds_toArray, List.set_cons_zero, List.set_cons_succ]) | (refine wpZ_pu (v := ?_) _ (by rfl) (by rfl) (by rfl) (by rfl) (fun W => ?_) ?_; (rotate_left; (focus ((try dsimp only at hW); go_simp; (try with_reducible rfl); done))); try simp only [Act.put, List.getElem_toArray, List.getElem_cons_zero, List.getElem_cons_succ, List.setIfInBounds_toArray, List.set_cons_zero, List.set_cons_succ]) | (refine wpZ_no _ (by rfl) (by rfl) (by rfl) (by rfl) ?_; try simp only [Act.put, List.getElem_toArray, List.getElem_cons_zero, List.getElem_cons_succ, List.setIfInBounds_toArray, List.set_cons_zero, List.set_cons_succ]) | (refine wpZ_noS _ (by rfl) (by rfl) (by rfl) (by exact g4) ?_; try simp only [Act.put, List.getElem_toArray, List.getElem_cons_zero, List.getElem_cons_succ, List.setIfInBounds_toArray, List.set_cons_zero, List.set_cons_succ])))
          (simp only [wpZ])
          go_wp2
          go_ret
          exact ⟨rfl, h9.drop.drop.drop.drop⟩
      · as_aux_lemma =>
          refine wp_region_Z (fun W => W.cell? ⟨q, 3, none⟩ = some (.int .u32 F)) [5, 6] [] [0, 2, 3, 4, 7, 8, 10, 12, 13] [0, 2, 3, 4, 5, 6, 7, 8, 1, 9, 10, 11, 12, 13] (by kernel_rfl) (by kernel_rfl) ?_
          (repeat (first | (refine wpZ_st (v := ?_) _ (by rfl) (by rfl) (by rfl) (fun W hW => ?_) (by exact g3) ?_; (rotate_left; (focus ((try dsimp only at hW); go_simp; (try with_reducible rfl); done))); try simp only [Act.put, List.getElem_toArray, List.getElem_cons_zero, List.getElem_cons_succ, List.setIfInBounds_toArray, List.set_cons_zero, List.set_cons_succ]) | (refine wpZ_pu (v := ?_) _ (by rfl) (by rfl) (by rfl) (by rfl) (fun W => ?_) ?_; (rotate_left; (focus ((try dsimp only at hW); go_simp; (try with_reducible rfl); done))); try simp only [Act.put, List.getElem_toArray, List.getElem_cons_zero, List.getElem_cons_succ, List.setIfInBounds_toArray, List.set_cons_zero, List.set_cons_succ]) | (refine wpZ_no _ (by rfl) (by rfl) (by rfl) (by rfl) ?_; try simp only [Act.put, List.getElem_toArray, List.getElem_cons_zero, List.getElem_cons_succ, List.setIfInBounds_toArray, List.set_cons_zero, List.set_cons_succ]) | (refine wpZ_noS _ (by rfl) (by rfl) (by rfl) (by exact g3) ?_; try simp only [Act.put, List.getElem_toArray, List.getElem_cons_zero, List.getElem_cons_succ, List.setIfInBounds_toArray, List.set_cons_zero, List.set_cons_succ])))
          refine wpZ_eff _ (by rfl) (by rfl) (by rfl) (by rfl) (fun K hK => ?_)
          go_simp
          refine PH.mono ?_
          rintro e w7 ⟨ho, hc, rfl, h7⟩
          dsimp only
          (refine hK _ _ (fun hl => ?_) ?_; (first | (focus (cases hl; done)) | exact (by obtain ⟨-, -, -, g3⟩ := seM (h7.mv 3); exact g3)); clear hK K; try simp only [Act.put, List.getElem_toArray, List.getElem_cons_zero, List.getElem_cons_succ, List.setIfInBounds_toArray, List.set_cons_zero, List.set_cons_succ])
          have g3' := (seM (h7.mv 3)).2.2.2
          (repeat (first | (refine wpZ_st (v := ?_) _ (by rfl) (by rfl) (by rfl) (fun W hW => ?_) (by exact g3') ?_; (rotate_left; (focus ((try dsimp only at hW); go_simp; (try with_reducible rfl); done))); try simp only [Act.put, List.getElem_toArray, List.getElem_cons_zero, List.getElem_cons_succ, List.setIfInBounds_toArray, List.set_cons_zero, List.set_cons_succ]) | (refine wpZ_pu (v := ?_) _ (by rfl) (by rfl) (by rfl) (by rfl) (fun W => ?_) ?_; (rotate_left; (focus ((try dsimp only at hW); go_simp; (try with_reducible rfl); done))); try simp only [Act.put, List.getElem_toArray, List.getElem_cons_zero, List.getElem_cons_succ, List.setIfInBounds_toArray, List.set_cons_zero, List.set_cons_succ]) | (refine wpZ_no _ (by rfl) (by rfl) (by rfl) (by rfl) ?_; try simp only [Act.put, List.getElem_toArray, List.getElem_cons_zero, List.getElem_cons_succ, List.setIfInBounds_toArray, List.set_cons_zero, List.set_cons_succ]) | (refine wpZ_noS _ (by rfl) (by rfl) (by rfl) (by exact g3') ?_; try simp only [Act.put, List.getElem_toArray, List.getElem_cons_zero, List.getElem_cons_succ, List.setIfInBounds_toArray, List.set_cons_zero, List.set_cons_succ])))
          refine wpZ_eff _ (by rfl) (by rfl) (by rfl) (by rfl) (fun K hK => ?_)
          go_simp
          have hRA := RowsAt.own h7
          have hRB := ((RowsAt.own (h7.mv 2)).cut HDG.out hgd)
          rw [← HL.out.1, ← HL.out.2] at hRB
          rw [← HL.out.2]
          refine (rows_ok S1.L ho _ S1.L.length hc _ (by have := HL.out.2; omega) w7 hRA hRB).mono ?_
          rintro e w8 ⟨rfl, dk, rfl⟩
          dsimp only
          (refine hK _ _ (fun hl => ?_) ?_; (first | (focus (cases hl; done)) | exact (by obtain ⟨-, -, -, g3⟩ := seM ((h7.drewN dk).mv 3); exact g3)); clear hK K; try simp only [Act.put, List.getElem_toArray, List.getElem_cons_zero, List.getElem_cons_succ, List.setIfInBounds_toArray, List.set_cons_zero, List.set_cons_succ])
          have g3'' := (seM ((h7.drewN dk).mv 3)).2.2.2
          (repeat (first | (refine wpZ_st (v := ?_) _ (by rfl) (by rfl) (by rfl) (fun W hW => ?_) (by exact g3'') ?_; (rotate_left; (focus ((try dsimp only at hW); go_simp; (try with_reducible rfl); done))); try simp only [Act.put, List.getElem_toArray, List.getElem_cons_zero, List.getElem_cons_succ, List.setIfInBounds_toArray, List.set_cons_zero, List.set_cons_succ]) | (refine wpZ_pu (v := ?_) _ (by rfl) (by rfl) (by rfl) (by rfl) (fun W => ?_) ?_; (rotate_left; (focus ((try dsimp only at hW); go_simp; (try with_reducible rfl); done))); try simp only [Act.put, List.getElem_toArray, List.getElem_cons_zero, List.getElem_cons_succ, List.setIfInBounds_toArray, List.set_cons_zero, List.set_cons_succ]) | (refine wpZ_no _ (by rfl) (by rfl) (by rfl) (by rfl) ?_; try simp only [Act.put, List.getElem_toArray, List.getElem_cons_zero, List.getElem_cons_succ, List.setIfInBounds_toArray, List.set_cons_zero, List.set_cons_succ]) | (refine wpZ_noS _ (by rfl) (by rfl) (by rfl) (by exact g3'') ?_; try simp only [Act.put, List.getElem_toArray, List.getElem_cons_zero, List.getElem_cons_succ, List.setIfInBounds_toArray, List.set_cons_zero, List.set_cons_succ])))
          refine wpZ_eff _ (by rfl) (by rfl) (by rfl) (by rfl) (fun K hK => ?_)
          go_simp
          refine (live_ok _ _ (h7.drewN dk)).mono ?_
          rintro e w9 ⟨rfl, h9⟩
          dsimp only
          (refine hK _ _ (fun hl => ?_) ?_; (first | (focus (cases hl; done)) | exact (by obtain ⟨-, -, -, g3⟩ := seM (h9.mv 3); exact g3)); clear hK K; try simp only [Act.put, List.getElem_toArray, List.getElem_cons_zero, List.getElem_cons_succ, List.setIfInBounds_toArray, List.set_cons_zero, List.set_cons_succ])
          have g4 := (seM (h9.mv 3)).2.2.2
          (repeat (first | (refine wpZ_st (v := ?_) _ (by rfl) (by rfl) (by rfl) (fun W hW => ?_) (by exact g4) ?_; (rotate_left; (focus ((try dsimp only at hW); go_simp; (try with_reducible rfl); done))); try simp only [Act.put, List.getElem_toArray, List.getElem_cons_zero, List.getElem_cons_succ, List.setIfInBounds_toArray, List.set_cons_zero, List.set_cons_succ]) | (refine wpZ_pu (v := ?_) _ (by rfl) (by rfl) (by rfl) (by rfl) (fun W => ?_) ?_; (rotate_left; (focus ((try dsimp only at hW); go_simp; (try with_reducible rfl); done))); try simp only [Act.put, List.getElem_toArray, List.getElem_cons_zero, List.getElem_cons_succ, List.setIfInBounds_toArray, List.set_cons_zero, List.set_cons_succ]) | (refine wpZ_no _ (by rfl) (by rfl) (by rfl) (by rfl) ?_; try simp only [Act.put, List.getElem_toArray, List.getElem_cons_zero, List.getElem_cons_succ, List.setIfInBounds_toArray, List.set_cons_zero, List.set_cons_succ]) | (refine wpZ_noS _ (by rfl) (by rfl) (by rfl) (by exact g4) ?_; try simp only [Act.put, List.getElem_toArray, List.getElem_cons_zero, List.getElem_cons_succ, List.setIfInBounds_toArray, List.set_cons_zero, List.set_cons_succ])))
          (simp only [wpZ])
          go_wp2
          go_ret
          exact ⟨rfl, h9.drop.drop.drop.drop⟩

theorem keeps_walk (W S T : Int) (F : Nat) (hF : F ≤ 4294967295) (C : Asn) (ao : Option Addr) (n cap : Nat) (hO : RowsOf C 4 (OpRow C) ao n cap) (hn : n ≤ 140737488351232) (w : World) (L : List Asn) (h : Hold w (C :: L)) :
    Calls Try.prog 4 #[.agg #[.int .i64 W, .int .i64 S, .int .i64 T, .int .u32 F], .slice ao n cap] w fun e w' => e = .returned (.bool true) ∧ Hold w' (C :: L) := by
  by_cases hf : fitsN W S T
  · have hf2 := hf
    unfold fitsN at hf2
    obtain ⟨W', rfl⟩ : ∃ W' : Nat, W = W' := ⟨W.toNat, by omega⟩
    obtain ⟨S', rfl⟩ : ∃ S' : Nat, S = S' := ⟨S.toNat, by omega⟩
    obtain ⟨T', rfl⟩ : ∃ T' : Nat, T = T' := ⟨T.toNat, by omega⟩
    exact keeps_good W' S' T' F hF hf C ao n cap hO hn w L h
  · exact keeps_bad W S T F hf _ w _ h

end Go.Proofs.Ytjnjbmkkfkdhcaa
