/- The walk of ArenaKeeps. (Printed by genF.py.) -/
import Derived.Test.YtahhbbcgfhmmgaaKpD
import Derived.Test.YtahhbbcgfhmmgaaKpE
import Derived.Test.YtahhbbcgfhmmgaaArO
open Go.RowKit Go.Own
namespace Go.Proofs.Ytahhbbcgfhmmgaa

theorem i34s : (Try.prog.info? 34).map (·.size) = some 7 := by kernel_rfl
theorem exec_load34 {ev : Operand → Value} {o : Oper} {x : Operand} (ho : o.op = .load 34 x) {b q : Nat} (hx : ev x = .pointer (some ⟨b, q, none⟩)) {v0 v1 v2 v3 v4 v5 v6 : Value} {W : World} (h : W.rangeAt b q [v0, v1, v2, v3, v4, v5, v6]) : (execOp ev o).run Try.prog W = .ok (.value (.agg #[v0, v1, v2, v3, v4, v5, v6])) W := by
  have := run_loadAt_mid (P := Try.prog) W b q 34 [v0, v1, v2, v3, v4, v5, v6] _ h Try.underlying34 rfl (by rw [i34s]; rfl)
  unfold execOp
  simp only [ho, hx, Sem.run_bind, this, Result.andThen_ok, Sem.run_pure]

theorem nums_atK {l : List Nat} {k i : Nat} (h : l[k]? = some i) : (nums l)[k]? = some (.int .i64 (i : Int)) := by
  rw [nums, List.getElem?_map, h]; rfl

/-- The number that a call is on: some number. -/
theorem named_okK (T : List Nat) (ao : Option Addr) (cap : Nat) (hT : T.length ≤ 9223372036854775807) (k : Int) (told : Bool) (on : Int) (bit s : Nat) (d m : Int) (w : World) (L : List Asn) (h : Hold w (rowA 3 1 ao T.length cap (nums T) :: L)) (hS : T.length ≤ 4611686018427387903) :
    Calls Try.prog 15 #[.slice ao T.length cap, .agg #[.int .i64 k, .bool told, .int .i64 on, .int .u8 bit, .int .u32 s, .int .i64 d, .int .i64 m]] w fun e w' => ∃ id : Int, e = .returned (.int .i64 id) ∧ Hold w' (rowA 3 1 ao T.length cap (nums T) :: L) := by
  have hb := h.box 34 [.int .i64 k, .bool told, .int .i64 on, .int .u8 bit, .int .u32 s, .int .i64 d, .int .i64 m]
  obtain ⟨q, hq⟩ : ∃ q, w.heap.size = q := ⟨_, rfl⟩
  simp only [hq] at hb
  go_enter Try.func15, Try.ntmps15
  go_upto_region 1 with (fail)
  refine gen_world hb (fun w1 hb => ?_)
  try simp only [hq]
  clear hq h
  have g1 : w1.cell? ⟨q, 1, none⟩ = some (.bool told) := hb.cell 1
  have g2 : w1.cell? ⟨q, 2, none⟩ = some (.int .i64 on) := hb.cell 2
  by_cases h0 : T.length = 0
  · have h0i : ((T.length : Int) == 0) = true := by rw [beq_iff_eq]; omega
    have HB := Lib.hid hb.drop
    have H0 := Lib.hid h0
    clear h0 hb
    cases told
    · go_wp2
      go_ret
      exact ⟨_, rfl, HB.out⟩
    · go_wp2
      go_ret
      exact ⟨_, rfl, HB.out⟩
  · have h0i : ((T.length : Int) == 0) = false := by rw [beq_eq_false_iff_ne]; omega
    cases told
    · go_wp2
      go_ret
      exact ⟨_, rfl, hb.drop⟩
    · obtain ⟨r, q2, hr1, hr2, hr3, hr4, hr5, hq2⟩ := round_ on T.length (by omega) hS
      obtain ⟨i, hi⟩ : ∃ i, T[q2]? = some i := ⟨T[q2], List.getElem?_eq_getElem hq2⟩
      obtain ⟨cb, co, rfl, hc, -⟩ := (hb.mv 1).at (by omega)
      have c5 : w1.cell? ⟨cb, co + q2, none⟩ = some (.int .i64 i) := by rw [hc q2 (by omega)]; exact nums_atK hi
      have hqi : (q2 : Int) < (T.length : Int) := by omega
      have hq0 : 0 ≤ (q2 : Int) := by omega
      clear hi hc hT hS
      go_wp2
      go_ret
      exact ⟨_, rfl, hb.drop⟩

def KpRel (b c n : Nat) (C : Asn) (L : List Asn) (bv tv mv gv iv : Value) (wr : World) : Prop :=
  ∃ (k : Nat) (A : AR) (B : List BE) (g : Nat) (T : List Nat) (ab at_ : Option Addr) (cb ct : Nat), k ≤ n ∧ iv = .int .i64 k ∧ bv = .slice ab B.length cb ∧ tv = .slice at_ T.length ct ∧ mv = .int .i64 A.all.length ∧ gv = .int .i64 g ∧ KE c A B g T.length ∧ T.length ≤ k ∧
    Hold wr (arA b A :: rowA 45 7 ab B.length cb (bflat B) :: rowA 3 1 at_ T.length ct (nums T) :: C :: L)
def KpMid (b c q : Nat) (oc : List Value) (T : List Nat) (at_ : Option Addr) (ct M : Nat) (kd : Int) (bit s : Nat) (d m : Int) (C : Asn) (L : List Asn) (bv gv xv fv uv : Value) (wr : World) : Prop :=
  ∃ (A : AR) (B : List BE) (g x e : Nat) (up : Int) (ab : Option Addr) (cb : Nat), bv = .slice ab B.length cb ∧ gv = .int .i64 g ∧ xv = .int .i64 x ∧ fv = .int .i64 e ∧ uv = .int .i64 up ∧ B.length ≤ 65536 ∧ g ≤ T.length ∧
    ((¬ e = 0 ∧ KE c A B g T.length ∧ A.all.length = M) ∨ ((∃ bb, Put c B g T.length M A x e s d m up bb bit) ∧ (kd = 2 → bit ≤ 1 ∧ ∃ f ∈ B, (f.id : Int) = up))) ∧
    Hold wr (arA b A :: rowA 45 7 ab B.length cb (bflat B) :: rowA 3 1 at_ T.length ct (nums T) :: cellsA q 34 oc :: C :: L)
def KpEnd (b c q : Nat) (oc : List Value) (N g : Nat) (C : Asn) (L : List Asn) (bv tv mv : Value) (wr : World) : Prop :=
  ∃ (A : AR) (B : List BE) (T : List Nat) (ab at_ : Option Addr) (cb ct : Nat), bv = .slice ab B.length cb ∧ tv = .slice at_ T.length ct ∧ mv = .int .i64 A.all.length ∧ KE c A B g T.length ∧ T.length ≤ N + 1 ∧
    Hold wr (arA b A :: rowA 45 7 ab B.length cb (bflat B) :: rowA 3 1 at_ T.length ct (nums T) :: cellsA q 34 oc :: C :: L)
theorem un_same {e : BE} (h : e.c.held = false) : e.un = e := by
  obtain ⟨id, ⟨a, b, c, d, e, f, g, k⟩, bt⟩ := e
  simp only [BE.un] at h ⊢
  rw [h]

set_option maxHeartbeats 4000000 in
set_option maxRecDepth 20000 in
theorem keeps_bad (c : Int) (hc : ¬ (1 ≤ c ∧ c ≤ 65536)) (x : Value) (w : World) (L : List Asn) (h : Hold w L) :
    Calls Try.prog 4 #[.int .i64 c, x] w fun e w' => e = .returned (.bool true) ∧ Hold w' L := by
  have PN := new_bad c hc w
  go_enter Try.func4, Try.ntmps4
  by_cases h1 : 1 ≤ c
  · have h2 : ¬ c ≤ 65536 := by omega
    have h2' : decide (c ≤ 65536) = false := by simp; omega
    clear hc
    go_wp2_with (first
      | (go_at_call 7; refine PN.mono ?_; rintro e w2 ⟨rfl, rfl⟩)
      | (go_at_call 8; refine (num_any _ _).mono ?_; rintro e w2 ⟨rfl, rfl⟩)
      | (go_at_call 9; refine (live_ok _ _ h).mono ?_; rintro e w4 ⟨rfl, h4⟩))
    go_ret
    exact ⟨rfl, h4⟩
  · have h1' : c < 1 := by omega
    clear hc
    go_wp2_with (first
      | (go_at_call 7; refine PN.mono ?_; rintro e w2 ⟨rfl, rfl⟩)
      | (go_at_call 8; refine (num_any _ _).mono ?_; rintro e w2 ⟨rfl, rfl⟩)
      | (go_at_call 9; refine (live_ok _ _ h).mono ?_; rintro e w4 ⟨rfl, h4⟩))
    go_ret
    exact ⟨rfl, h4⟩

set_option maxHeartbeats 40000000 in
set_option maxRecDepth 20000 in
theorem keeps_good (c : Nat) (hc1 : 1 ≤ c) (hc2 : c ≤ 65536) (C : Asn) (ao : Option Addr) (n cap : Nat) (hO : RowsOf C 7 OpRow ao n cap) (hn : n * 56 ≤ 140737488351232) (w : World) (L : List Asn) (h : Hold w (C :: L)) :
    Calls Try.prog 4 #[.int .i64 c, .slice ao n cap] w fun e w' => e = .returned (.bool true) ∧ Hold w' (C :: L) := by
  obtain ⟨i3, hi3, hz0, hz1, hz2⟩ := info_parts info3
  obtain ⟨i45, hi45, hy0, hy1, hy2⟩ := info_parts info45
  have PN := new_good c hc1 hc2 w _ h
  have hK0 := KE.new hc1 hc2
  have HO := Lib.hid hO
  have HC := Lib.hid (And.intro hc1 hc2)
  have hN9 : (n : Int) ≤ 9223372036854775807 := by omega
  have hN4 : n ≤ 2513169434843 := by omega
  clear hc1 hc2 hO hn h
  go_enter Try.func4, Try.ntmps4
  go_upto_region 7 with (first
    | (go_at_call 7; refine PN.mono ?_; rintro e w2 ⟨b, rfl, h2⟩)
    | (go_at_call 8; refine (num_any _ _).mono ?_; rintro e8 w8 ⟨rfl, rfl⟩))
  clear PN
  have h3 := ((h2.nilRow 3 1).nilRow 45 7).arr [2, 0, 1]
  (try dsimp only [Go.Own.front, Go.Own.arrA, Go.Own.atA, Go.Own.dropA, List.length_cons, List.length_nil, Nat.zero_add, Nat.reduceAdd] at h3)
  go_wp2
  go_loopw [7, 8, 9, 10, 11] (fun bv tv mv gv iv wr => KpRel b c n C L bv tv mv gv iv wr) (fun _ _ _ _ iv _ => n - (intOf iv).toNat)
  case atStart => exact ⟨0, AR.new c, [], 0, [], none, none, 0, 0, by omega, rfl, rfl, rfl, rfl, rfl, hK0, Nat.le_refl _, h3⟩
  case round =>
    clear h2 h3 hK0
    obtain ⟨k, A, B, g, T, ab, at_, cb, ct, hk, rfl, rfl, rfl, rfl, rfl, hKE, hT, hr⟩ := hrel
    obtain ⟨hB6, hA6, hBA⟩ := hKE.b6
    have hgT : g ≤ T.length := by have := hKE.told; omega
    have HKE := Lib.hid hKE
    clear hKE
    by_cases hlt : k < n
    · have hki : (k : Int) < n := by omega
      have hk0 : 0 ≤ (k : Int) := by omega
      have W1 : IntKind.i64.wrap ((k : Int) + 1) = (k : Int) + 1 := IntWalk.i64_in _ (by omega)
      obtain ⟨rb, ro, vs, rfl, ⟨kd, told, on', bit, s, d, m, rfl, hbit, hs, hon⟩, GC⟩ := HO.out.at hlt (by omega) (hr.mv 3)
      have GA : wr.rangeAt rb (ro + k * 7) [.int .i64 kd, .bool told, .int .i64 on', .int .u8 bit, .int .u32 s, .int .i64 d, .int .i64 m] := fun j v hj => by
        have hj7 : j < 7 := (List.getElem?_eq_some_iff.1 hj).1
        rw [Nat.add_assoc, GC _ _ (hr.mv 3) j hj7]; exact hj
      have HS := Lib.hid hs
      clear GC hbit hs hon
      obtain ⟨q, hq⟩ : ∃ q, wr.heap.size = q := ⟨_, rfl⟩
      have hb := hr.box 34 [.int .i64 kd, .bool told, .int .i64 on', .int .u8 bit, .int .u32 s, .int .i64 d, .int .i64 m]
      simp only [hq] at hb
      go_upto_region 11 with ((with_reducible refine wpList_yw (o := ⟨some 55, _, _, _, _, _⟩) (v := .agg #[.int .i64 kd, .bool told, .int .i64 on', .int .u8 bit, .int .u32 s, .int .i64 d, .int .i64 m]) ?_ ?_ ?_); (focus rfl); (focus exact exec_load34 (by rfl) (by rfl) GA))
      try simp only [hq]
      refine gen_world hb (fun w1 hb => ?_)
      clear GA hr hq
      have h1 := hb.mv 3
      (try dsimp only [Go.Own.front, Go.Own.arrA, Go.Own.atA, Go.Own.dropA, List.length_cons, List.length_nil, Nat.zero_add, Nat.reduceAdd] at h1)
      have PN := fun w L h => named_okK T at_ ct (by omega) kd told on' bit s d m w L h (by omega)
      go_upto_region 12 with (first
        | (refine wpList_loadAll_h (by rfl) 34 _ (by rfl) q (by rfl) (h1.mv 1) _ Try.underlying34 (by rfl) (by kernel_rfl) ?_)
        | (go_at_call 15; refine (PN _ _ h1).mono ?_; rintro e w2 ⟨id, rfl, h2⟩))
      clear PN hb h1
      have hr := h2.arr [2, 3, 0, 1]
      (try dsimp only [Go.Own.front, Go.Own.arrA, Go.Own.atA, Go.Own.dropA, List.length_cons, List.length_nil, Nat.zero_add, Nat.reduceAdd] at hr)
      clear h2
      have FQ : ∀ W L, Hold W (cellsA q 34 [.int .i64 kd, .bool told, .int .i64 on', .int .u8 bit, .int .u32 s, .int .i64 d, .int .i64 m] :: L) → W.cell? ⟨q, 0, none⟩ = some (.int .i64 kd) ∧ W.cell? ⟨q, 3, none⟩ = some (.int .u8 bit) ∧ W.rangeAt q 4 [.int .u32 s, .int .i64 d, .int .i64 m] := fun W L hW => ⟨hW.cell 0, hW.cell 3, hW.range 4 [.int .u32 s, .int .i64 d, .int .i64 m] (by rfl)⟩
      obtain ⟨g0, g3, gR⟩ := FQ _ _ (hr.mv 3)
      have HFQ := Lib.hid FQ
      clear FQ
      obtain ⟨N, hN⟩ : ∃ N, B.length = N := ⟨_, rfl⟩
      have HN := Lib.hid hN
      go_upto_block 2 with (fail)
      go_cut [7, 10, 14, 15, 16] (fun bv gv xv fv uv wc => KpMid b c q [.int .i64 kd, .bool told, .int .i64 on', .int .u8 bit, .int .u32 s, .int .i64 d, .int .i64 m] T at_ ct A.all.length kd bit s d m C L bv gv xv fv uv wc)
      case first =>
        by_cases hk1 : kd = 1
        · subst hk1
          clear hN
          have PR := root_ok b A _ HKE.out.ai.choose_spec s d m _ _ hr
          have hst := HKE.out.root HS.out d m bit
          generalize rootA A s d m = R at *
          obtain ⟨x, e, A2⟩ := R
          have HST := Lib.hid hst
          clear hst
          simp only at PR
          as_aux_lemma =>
            go_wp2_with (first
              | ((with_reducible refine wpList_yw (o := ⟨some 66, _, _, _, _, _⟩) (v := .agg #[.int .u32 s, .int .i64 d, .int .i64 m]) ?_ ?_ ?_); (focus rfl); (focus exact exec_load32 (by rfl) (by rfl) gR))
              | (go_at_call 10; refine PR.mono ?_; rintro e5 w5 ⟨rfl, h5⟩))
            go_meet
            refine ⟨A2, B, g, x, e, -1, ab, cb, rfl, rfl, rfl, rfl, rfl, hB6, hgT, ?_, h5⟩
            rcases HST.out with h | ⟨h1, h2⟩
            · exact .inr ⟨⟨0, h⟩, fun h => by omega⟩
            · have e9 : A2 = A := h2
              refine .inl ⟨h1, ?_, ?_⟩
              · rw [e9]; exact HKE.out
              · rw [e9]
        · have hk1f : (kd == 1) = false := by rw [beq_eq_false_iff_ne]; exact hk1
          by_cases hk2 : kd = 2
          · subst hk2
            clear hN
            have PR := child_ok b A _ HKE.out.ai.choose_spec id bit s d m _ _ hr
            have hst := HKE.out.child id (bit := bit) HS.out d m
            generalize childA A id bit s d m = R at *
            obtain ⟨x, e, A2⟩ := R
            have HST := Lib.hid hst
            clear hst
            simp only at PR
            as_aux_lemma =>
              go_wp2_with (first
                | ((with_reducible refine wpList_yw (o := ⟨some 78, _, _, _, _, _⟩) (v := .agg #[.int .u32 s, .int .i64 d, .int .i64 m]) ?_ ?_ ?_); (focus rfl); (focus exact exec_load32 (by rfl) (by rfl) gR))
                | (go_at_call 11; refine PR.mono ?_; rintro e5 w5 ⟨rfl, h5⟩))
              go_meet
              refine ⟨A2, B, g, x, e, id, ab, cb, rfl, rfl, rfl, rfl, rfl, hB6, hgT, ?_, h5⟩
              rcases HST.out with h | ⟨h1, h2⟩
              · exact .inr ⟨⟨bit, h.1⟩, fun _ => h.2⟩
              · have e9 : A2 = A := h2
                refine .inl ⟨h1, ?_, ?_⟩
                · rw [e9]; exact HKE.out
                · rw [e9]
          · have hk2f : (kd == 2) = false := by rw [beq_eq_false_iff_ne]; exact hk2
            by_cases hk3 : kd = 3
            · subst hk3
              rw [hN] at hB6 hBA hr ⊢
              clear hN
              rcases Classical.em (∀ e ∈ B, (e.id : Int) ≠ id) with hno | hyes
              · have hdn : dropA A id = (0, 120, A) := drop_no HKE.out (fun k2 e2 h1 h2 => absurd h2 (hno e2 (List.mem_of_getElem? h1)))
                have PD := fun w L h => drop_ok b A _ HKE.out.ai.choose_spec id w L h
                rw [hdn] at PD
                simp only at PD
                have HNO := Lib.hid hno
                have HKF : Hid (∀ (B2 : List BE), (∃ id2, FI A A B2 id2) → KE c A B2 g T.length ∧ A.all.length = A.all.length) := Lib.hid (fun B2 ⟨id2, h⟩ => ⟨KE.freed h HKE.out.ti HKE.out.cap (by rw [HKE.out.told, HKE.out.len]), rfl⟩)
                clear hdn hno
                as_aux_lemma =>
                  go_upto_region 22 with (go_at_call 12; refine (PD _ _ hr).mono ?_; rintro e5 w5 ⟨rfl, h5⟩)
                  have h6 := h5.mv 1
                  (try dsimp only [Go.Own.front, Go.Own.arrA, Go.Own.atA, Go.Own.dropA, List.length_cons, List.length_nil, Nat.zero_add, Nat.reduceAdd] at h6)
                  clear PD h5 hr
                  have hF1 := find_ok B ab cb id (by have := HN.out; omega) w5 _ (by rw [HN.out]; exact h6)
                  rw [HN.out] at hF1
                  have hF2 : Calls Try.prog 16 #[.slice ab N cb, .int .i64 id] w5 fun e' w' => e' = .returned (.int .i64 (-1)) ∧ w5 = w' := by
                    refine hF1.mono ?_
                    rintro e' w' ⟨v, rfl, rfl, ⟨rfl, -⟩ | ⟨k2, f, rfl, h1, h2⟩⟩
                    · exact ⟨rfl, rfl⟩
                    · exact absurd h2 (HNO.out f (List.mem_of_getElem? h1))
                  clear hF1
                  have PF := freed_ok A _ B _ HKE.out.still ab cb (by have := HN.out; omega) w5 _ (by rw [HN.out]; exact h6)
                  rw [HN.out] at PF
                  have W4 : IntKind.i64.wrap (g : Int) = (g : Int) := IntWalk.i64_in _ (by omega)
                  go_upto_region 30 with (first
                    | (go_at_call 16; refine hF2.mono ?_; rintro e6 w6 ⟨rfl, rfl⟩)
                    | (go_at_call 8; refine (num_any _ _).mono ?_; rintro e8 w8 ⟨rfl, rfl⟩)
                    | (go_at_call 17; refine PF.mono ?_; rintro e9 w9 ⟨B2, a4, c4, rfl, hF4, hB4, h9⟩))
                  clear PF hF2 h6
                  have HK9 := Lib.hid (HKF.out B2 hF4)
                  clear hF4
                  go_wp2_with (go_at_call 8; refine (num_any _ _).mono ?_; rintro e8 w8 ⟨rfl, rfl⟩)
                  go_meet
                  have h10 := h9.mv 1
                  (try dsimp only [Go.Own.front, Go.Own.arrA, Go.Own.atA, Go.Own.dropA, List.length_cons, List.length_nil, Nat.zero_add, Nat.reduceAdd] at h10)
                  exact ⟨A, B2, g, 0, 3, -1, a4, c4, rfl, rfl, rfl, rfl, rfl, hB4, hgT, .inl ⟨by omega, HK9.out.1, rfl⟩, h10⟩
              · obtain ⟨e, hem, rfl⟩ : ∃ e ∈ B, (e.id : Int) = id := by
                  refine Classical.byContradiction fun h => hyes fun e he heq => h ⟨e, he, heq⟩
                obtain ⟨kv, hek⟩ := List.mem_iff_getElem?.1 hem
                have hkvl : kv < N := by have := (List.getElem?_eq_some_iff.1 hek).1; have := HN.out; omega
                have PD := fun w L h => drop_ok b A _ HKE.out.ai.choose_spec (e.id : Int) w L h
                clear hyes hem
                cases hh : e.c.held with
                | false =>
                  have hdn : dropA A (e.id : Int) = (0, 120, A) := drop_no HKE.out (fun k2 e2 h1 h2 => by
                    have : k2 = kv := by
                      have h3 : (B.map BE.id)[k2]? = some e.id := by rw [List.getElem?_map, h1]; simp; omega
                      have h4 : (B.map BE.id)[kv]? = some e.id := by rw [List.getElem?_map, hek]; rfl
                      have h5 : k2 < (B.map BE.id).length := by have := (List.getElem?_eq_some_iff.1 h1).1; simpa using this
                      exact (List.getElem?_inj h5 HKE.out.bk.nodup).1 (h3.trans h4.symm)
                    subst this
                    rw [hek] at h1; simp at h1; subst h1; exact hh)
                  rw [hdn] at PD
                  simp only at PD
                  have hFI : FI A A (B.set kv e.un) (-1) := by
                    rw [un_same hh]
                    have : B.set kv e = B := by
                      have h1 := (List.getElem?_eq_some_iff.1 hek).2
                      rw [← h1, List.set_getElem_self]
                    rw [this]; exact HKE.out.still
                  obtain ⟨R, hR⟩ : ∃ R, R = A := ⟨A, rfl⟩
                  have HKF : Hid (∀ (B2 : List BE), (∃ id2, FI A A B2 id2) → KE c A B2 g T.length ∧ A.all.length = A.all.length) := Lib.hid (fun B2 ⟨id2, h⟩ => ⟨KE.freed h HKE.out.ti HKE.out.cap (by rw [HKE.out.told, HKE.out.len]), rfl⟩)
                  obtain ⟨rb2, rp2, rfl, G⟩ := be_at hek HN.out (hr.mv 1)
                  have hki9 : (kv : Int) < (N : Int) := by omega
                  have hkv0 : 0 ≤ (kv : Int) := by omega
                  have HFI := Lib.hid hFI
                  have HG := Lib.hid G
                  have HEK := Lib.hid hek
                  have HSL : Hid ((B.set kv e.un).length = N) := Lib.hid (by rw [List.length_set]; exact HN.out)
                  have HBF : Hid (bflat (B.set kv e.un) = (bflat B).set (kv * 7 + 6) (.bool false)) := Lib.hid (bflat_set B kv e e.un 6 _ hek (by omega) rfl)
                  clear hdn hFI hR
                  have HHH := Lib.hid hh
                  clear G hek hh
                  as_aux_lemma =>
                    go_upto_region 22 with (go_at_call 12; refine (PD _ _ hr).mono ?_; rintro e5 w5 ⟨rfl, h5⟩)
                    have h6 := h5.mv 1
                    (try dsimp only [Go.Own.front, Go.Own.arrA, Go.Own.atA, Go.Own.dropA, List.length_cons, List.length_nil, Nat.zero_add, Nat.reduceAdd] at h6)
                    clear PD h5 hr
                    have gh : w5.cell? ⟨rb2, rp2 + kv * 7 + 6, none⟩ = some (.bool false) := by
                      rw [(HG.out _ _ h6 6 (by omega)).1, ← HHH.out]; rfl
                    have hF1 := find_ok B (some ⟨rb2, rp2, none⟩) cb (e.id : Int) (by have := HN.out; omega) w5 _ (by rw [HN.out]; exact h6)
                    rw [HN.out] at hF1
                    have hF2 : Calls Try.prog 16 #[.slice (some ⟨rb2, rp2, none⟩) N cb, .int .i64 (e.id : Int)] w5 fun e' w' => e' = .returned (.int .i64 (kv : Int)) ∧ w5 = w' := by
                      refine hF1.mono ?_
                      rintro e' w' ⟨v, rfl, rfl, h | ⟨k2, f, rfl, h1, h2⟩⟩
                      · exact absurd rfl (h.2 e (List.mem_of_getElem? HEK.out))
                      · have : k2 = kv := by
                          have h3 : (B.map BE.id)[k2]? = some e.id := by rw [List.getElem?_map, h1]; simp; omega
                          have h4 : (B.map BE.id)[kv]? = some e.id := by rw [List.getElem?_map, HEK.out]; rfl
                          have h5 : k2 < (B.map BE.id).length := by have := (List.getElem?_eq_some_iff.1 h1).1; simpa using this
                          exact (List.getElem?_inj h5 HKE.out.bk.nodup).1 (h3.trans h4.symm)
                        subst this
                        exact ⟨rfl, rfl⟩
                    clear hF1
                    have hrd : ∃ S, Rd w5 7 (.slice (some ⟨rb2, rp2, none⟩) N cb) N (bflat B) S := h6.rd
                    obtain ⟨SR, hrd⟩ := hrd
                    have HBO := Lib.hid (bflat_one B)
                    go_upto_region 27 with (first
                      | (go_at_call 16; refine hF2.mono ?_; rintro e6 w6 ⟨rfl, rfl⟩)
                      | (go_at_call 8; refine (num_any _ _).mono ?_; rintro e8 w8 ⟨rfl, rfl⟩)
                      | ((with_reducible refine wpList_plain (o := ⟨some 111, _, _, _, _, _⟩) rfl (fun K hK => ?_)); refine wp_append_new_h (w := w5) _ _ 41 (by rfl) 45 i45 (.agg #[.int .i64 0, .int .u32 0, .int .i64 0, .int .i64 0, .int .i64 0, .int .u8 0, .bool false]) 7 48 Try.underlying41 hi45 hy0 hy1 hy2 (by rfl) h6 (by rfl) ⟨rfl, rfl, rfl, rfl⟩ _ (by rfl) N (bflat B) SR hrd HBO.out (by unfold maxLen; omega) (by omega) (fun a3 c3 w7 h7 hc7 => ?_); refine hK _ _ ?_; clear hK K))
                    clear hF2 hrd gh h6
                    have hp7 := h7.bounds
                    obtain ⟨nb, np, rfl, nc, nf⟩ := h7.at (by omega)
                    have cN : ∃ x, w7.cell? ⟨nb, np + kv * 7 + 6, none⟩ = some x := ⟨_, by rw [Nat.add_assoc, nc (kv * 7 + 6) (by omega)]; exact List.getElem?_eq_getElem (by rw [bflat_length, HN.out]; omega)⟩
                    obtain ⟨x0, cN⟩ := cN
                    have fN := nf (np + kv * 7 + 6)
                    have h8 := h7.put (kv * 7 + 6) (by omega) (.bool false)
                    rw [← Nat.add_assoc, ← HBF.out] at h8
                    clear nc nf hp7
                    go_upto_region 28 with (fail)
                    refine gen_world h8 (fun w8 h8 => ?_)
                    clear cN fN h7
                    have PF := freed_ok A _ (B.set kv e.un) _ HFI.out (some ⟨nb, np, none⟩) c3 (by rw [HSL.out]; omega) w8 _ (by rw [HSL.out]; exact h8)
                    rw [HSL.out] at PF
                    clear h8
                    go_upto_region 30 with (go_at_call 17; refine PF.mono ?_; rintro e9 w9 ⟨B2, a4, c4, rfl, hF4, hB4, h9⟩)
                    clear PF
                    have HK9 := Lib.hid (HKF.out B2 hF4)
                    
                    
                    
                    
                    
                    have W4 : IntKind.i64.wrap (g : Int) = (g : Int) := IntWalk.i64_in _ (by omega)
                    have hgT2 := hgT
                    have HG9 : Hid (g ≤ T.length) := Lib.hid (by omega)
                    
                    clear hF4
                    go_wp2_with (go_at_call 8; refine (num_any _ _).mono ?_; rintro e8 w8 ⟨rfl, rfl⟩)
                    go_meet
                    have h10 := ((h9.mv 1).drop).mv 1
                    (try dsimp only [Go.Own.front, Go.Own.arrA, Go.Own.atA, Go.Own.dropA, List.length_cons, List.length_nil, Nat.zero_add, Nat.reduceAdd] at h10)
                    exact ⟨A, B2, g, 0, 3, -1, a4, c4, rfl, rfl, rfl, rfl, rfl, hB4, HG9.out, .inl ⟨by omega, HK9.out.1, rfl⟩, h10⟩
                | true =>
                  have hdr := HKE.out.drop hek hh
                  generalize hDD : dropA A (e.id : Int) = D at *
                  obtain ⟨n2, ge, A2⟩ := D
                  obtain ⟨hFI, hge, htk, hall, hti, hcap, hai⟩ := hdr
                  simp only at hFI hge htk hall hti hcap hai PD
                  subst hge
                  have hlen9 := HKE.out.len
                  have hn2 : n2 ≤ 65536 := by have := HN.out; omega
                  have HKF : Hid (∀ (B2 : List BE), (∃ id2, FI A2 A2 B2 id2) → KE c A2 B2 (g + n2) T.length ∧ A2.all.length = A.all.length) := Lib.hid (fun B2 ⟨id2, h⟩ => ⟨KE.freed h hti hcap (by rw [HKE.out.told, HKE.out.len]; omega), hall⟩)
                  have HLN : Hid (∀ (B2 : List BE), (∃ id2, FI A2 A2 B2 id2) → B2.length + n2 = B.length) := Lib.hid (fun B2 ⟨id2, h⟩ => by rw [h.len, HKE.out.len]; exact htk)
                  obtain ⟨rb2, rp2, rfl, G⟩ := be_at hek HN.out (hr.mv 1)
                  have hki9 : (kv : Int) < (N : Int) := by omega
                  have hkv0 : 0 ≤ (kv : Int) := by omega
                  have HFI := Lib.hid hFI
                  have HG := Lib.hid G
                  have HEK := Lib.hid hek
                  have HSL : Hid ((B.set kv e.un).length = N) := Lib.hid (by rw [List.length_set]; exact HN.out)
                  have HBF : Hid (bflat (B.set kv e.un) = (bflat B).set (kv * 7 + 6) (.bool false)) := Lib.hid (bflat_set B kv e e.un 6 _ hek (by omega) rfl)
                  clear hDD hFI htk hall hti hcap hai hlen9
                  have HHH := Lib.hid hh
                  clear G hek hh
                  as_aux_lemma =>
                    go_upto_region 22 with (go_at_call 12; refine (PD _ _ hr).mono ?_; rintro e5 w5 ⟨rfl, h5⟩)
                    have h6 := h5.mv 1
                    (try dsimp only [Go.Own.front, Go.Own.arrA, Go.Own.atA, Go.Own.dropA, List.length_cons, List.length_nil, Nat.zero_add, Nat.reduceAdd] at h6)
                    clear PD h5 hr
                    have gh : w5.cell? ⟨rb2, rp2 + kv * 7 + 6, none⟩ = some (.bool true) := by
                      rw [(HG.out _ _ h6 6 (by omega)).1, ← HHH.out]; rfl
                    have hF1 := find_ok B (some ⟨rb2, rp2, none⟩) cb (e.id : Int) (by have := HN.out; omega) w5 _ (by rw [HN.out]; exact h6)
                    rw [HN.out] at hF1
                    have hF2 : Calls Try.prog 16 #[.slice (some ⟨rb2, rp2, none⟩) N cb, .int .i64 (e.id : Int)] w5 fun e' w' => e' = .returned (.int .i64 (kv : Int)) ∧ w5 = w' := by
                      refine hF1.mono ?_
                      rintro e' w' ⟨v, rfl, rfl, h | ⟨k2, f, rfl, h1, h2⟩⟩
                      · exact absurd rfl (h.2 e (List.mem_of_getElem? HEK.out))
                      · have : k2 = kv := by
                          have h3 : (B.map BE.id)[k2]? = some e.id := by rw [List.getElem?_map, h1]; simp; omega
                          have h4 : (B.map BE.id)[kv]? = some e.id := by rw [List.getElem?_map, HEK.out]; rfl
                          have h5 : k2 < (B.map BE.id).length := by have := (List.getElem?_eq_some_iff.1 h1).1; simpa using this
                          exact (List.getElem?_inj h5 HKE.out.bk.nodup).1 (h3.trans h4.symm)
                        subst this
                        exact ⟨rfl, rfl⟩
                    clear hF1
                    have hrd : ∃ S, Rd w5 7 (.slice (some ⟨rb2, rp2, none⟩) N cb) N (bflat B) S := h6.rd
                    obtain ⟨SR, hrd⟩ := hrd
                    have HBO := Lib.hid (bflat_one B)
                    go_upto_region 27 with (first
                      | (go_at_call 16; refine hF2.mono ?_; rintro e6 w6 ⟨rfl, rfl⟩)
                      | (go_at_call 8; refine (num_any _ _).mono ?_; rintro e8 w8 ⟨rfl, rfl⟩)
                      | ((with_reducible refine wpList_plain (o := ⟨some 111, _, _, _, _, _⟩) rfl (fun K hK => ?_)); refine wp_append_new_h (w := w5) _ _ 41 (by rfl) 45 i45 (.agg #[.int .i64 0, .int .u32 0, .int .i64 0, .int .i64 0, .int .i64 0, .int .u8 0, .bool false]) 7 48 Try.underlying41 hi45 hy0 hy1 hy2 (by rfl) h6 (by rfl) ⟨rfl, rfl, rfl, rfl⟩ _ (by rfl) N (bflat B) SR hrd HBO.out (by unfold maxLen; omega) (by omega) (fun a3 c3 w7 h7 hc7 => ?_); refine hK _ _ ?_; clear hK K))
                    clear hF2 hrd gh h6
                    have hp7 := h7.bounds
                    obtain ⟨nb, np, rfl, nc, nf⟩ := h7.at (by omega)
                    have cN : ∃ x, w7.cell? ⟨nb, np + kv * 7 + 6, none⟩ = some x := ⟨_, by rw [Nat.add_assoc, nc (kv * 7 + 6) (by omega)]; exact List.getElem?_eq_getElem (by rw [bflat_length, HN.out]; omega)⟩
                    obtain ⟨x0, cN⟩ := cN
                    have fN := nf (np + kv * 7 + 6)
                    have h8 := h7.put (kv * 7 + 6) (by omega) (.bool false)
                    rw [← Nat.add_assoc, ← HBF.out] at h8
                    clear nc nf hp7
                    go_upto_region 28 with (fail)
                    refine gen_world h8 (fun w8 h8 => ?_)
                    clear cN fN h7
                    have PF := freed_ok A2 _ (B.set kv e.un) _ HFI.out (some ⟨nb, np, none⟩) c3 (by rw [HSL.out]; omega) w8 _ (by rw [HSL.out]; exact h8)
                    rw [HSL.out] at PF
                    clear h8
                    go_upto_region 30 with (go_at_call 17; refine PF.mono ?_; rintro e9 w9 ⟨B2, a4, c4, rfl, hF4, hB4, h9⟩)
                    clear PF
                    have HK9 := Lib.hid (HKF.out B2 hF4)
                    have hl9 := HLN.out B2 hF4
                    rw [HN.out] at hl9
                    have W3 : IntKind.i64.wrap ((N : Int) - B2.length) = (n2 : Int) := by rw [show (N : Int) - B2.length = n2 by omega]; exact IntWalk.i64_in _ (by omega)
                    have W3a : (N : Int) - B2.length = (n2 : Int) := by omega
                    have W3b : IntKind.i64.wrap (n2 : Int) = (n2 : Int) := IntWalk.i64_in _ (by omega)
                    have W4 : IntKind.i64.wrap ((g : Int) + n2) = (g : Int) + n2 := IntWalk.i64_in _ (by omega)
                    have hgT2 := HK9.out.1.told
                    have HG9 : Hid (g + n2 ≤ T.length) := Lib.hid (by omega)
                    clear hl9 hgT2
                    clear hF4
                    go_wp2_with (go_at_call 8; refine (num_any _ _).mono ?_; rintro e8 w8 ⟨rfl, rfl⟩)
                    go_meet
                    have h10 := ((h9.mv 1).drop).mv 1
                    (try dsimp only [Go.Own.front, Go.Own.arrA, Go.Own.atA, Go.Own.dropA, List.length_cons, List.length_nil, Nat.zero_add, Nat.reduceAdd] at h10)
                    exact ⟨A2, B2, g + n2, 0, 3, -1, a4, c4, rfl, by go_num, rfl, rfl, rfl, hB4, HG9.out, .inl ⟨by omega, HK9.out.1, HK9.out.2⟩, h10⟩
            · have hk3f : (kd == 3) = false := by rw [beq_eq_false_iff_ne]; exact hk3
              clear hN
              go_wp2
              go_meet
              exact ⟨A, B, g, 0, 3, -1, ab, cb, rfl, rfl, rfl, rfl, rfl, hB6, hgT, .inl ⟨by omega, HKE.out, rfl⟩, hr⟩
      case rest =>
        obtain ⟨A2, B2, g2, x, e, up, ab2, cb2, rfl, rfl, rfl, rfl, rfl, hB2, hg2, hcase, h5⟩ := hcut
        clear hr g0 g3 gR hN HKE hBA hB6
        have HCASE := Lib.hid hcase
        clear hcase
        go_upto_if 136 with (go_at_call 8; refine (num_any _ _).mono ?_; rintro e8 w8 ⟨rfl, rfl⟩)
        go_cut [7, 8, 9] (fun bv tv mv wc => KpEnd b c q [.int .i64 kd, .bool told, .int .i64 on', .int .u8 bit, .int .u32 s, .int .i64 d, .int .i64 m] T.length g2 C L bv tv mv wc)
        case first =>
          rcases HCASE.out with ⟨hne, hK, hM⟩ | ⟨⟨bb, hput⟩, hkd⟩
          · have hef : ((e : Int) == 0) = false := by rw [beq_eq_false_iff_ne]; omega
            have HK := Lib.hid (And.intro hK hM)
            clear hK hM
            go_wp2
            go_meet
            exact ⟨A2, B2, T, ab2, at_, cb2, ct, rfl, rfl, by rw [HK.out.2], HK.out.1, by omega, h5⟩
          · obtain ⟨rfl, hK, hno, hM, hx⟩ := hput
            have HPK := Lib.hid (And.intro hK (And.intro hM hx))
            have HKD := Lib.hid hkd
            have HONE : Hid (∀ u ∈ ([.int .i64 x, .int .u32 s, .int .i64 d, .int .i64 m, .int .i64 up, .int .u8 bit, .bool true] : List Value), u.oneCell' = true) := Lib.hid (by simp [Value.oneCell'])
            obtain ⟨g0, g3, gR⟩ := HFQ.out _ _ (h5.mv 3)
            have h6 := h5.mv 1
            (try dsimp only [Go.Own.front, Go.Own.arrA, Go.Own.atA, Go.Own.dropA, List.length_cons, List.length_nil, Nat.zero_add, Nat.reduceAdd] at h6)
            have hF2' := find_ok B2 ab2 cb2 up hB2 wc _ h6
            have hF1' : Calls Try.prog 16 #[.slice ab2 B2.length cb2, .int .i64 (x : Int)] wc fun e' w' => e' = .returned (.int .i64 (-1)) ∧ wc = w' := by
              refine (find_ok B2 ab2 cb2 x hB2 wc _ h6).mono ?_
              rintro e' w' ⟨v, rfl, rfl, ⟨rfl, -⟩ | ⟨k2, f, rfl, h1, h2⟩⟩
              · exact ⟨rfl, rfl⟩
              · exact absurd (by omega) (hno f (List.mem_of_getElem? h1))
            obtain ⟨M, hMM⟩ : ∃ M, A.all.length = M := ⟨_, rfl⟩
            rw [hMM] at hA6 HPK ⊢
            clear hK hM hx hno hkd hMM h5
            by_cases hmx : M < B2.length + 1
            · by_cases hk2 : kd = 2
              · subst hk2
                obtain ⟨kk, hF3⟩ : ∃ kk : Nat, Calls Try.prog 16 #[.slice ab2 B2.length cb2, .int .i64 up] wc fun e' w' => e' = .returned (.int .i64 (kk : Int)) ∧ wc = w' := by
                  obtain ⟨hb1, f0, hf1, hf2⟩ := HKD.out rfl
                  have hnd := HPK.out.1.bk.nodup
                  rw [List.map_append, List.nodup_append] at hnd
                  obtain ⟨kk, hkk⟩ := List.mem_iff_getElem?.1 hf1
                  refine ⟨kk, hF2'.mono ?_⟩
                  rintro e' w' ⟨v, rfl, rfl, ⟨-, h⟩ | ⟨k2, f, rfl, h1, h2⟩⟩
                  · exact absurd hf2 (h f0 hf1)
                  · have : k2 = kk := by
                      have h3 : (B2.map BE.id)[k2]? = some f.id := by rw [List.getElem?_map, h1]; rfl
                      have h4 : (B2.map BE.id)[kk]? = some f.id := by rw [List.getElem?_map, hkk]; simp; omega
                      have h5 : k2 < (B2.map BE.id).length := by have := (List.getElem?_eq_some_iff.1 h1).1; simpa using this
                      exact (List.getElem?_inj h5 hnd.1).1 (h3.trans h4.symm)
                    subst this
                    exact ⟨rfl, rfl⟩
                have hb1 : ¬ (1 : Int) < (bit : Int) := by have := (HKD.out rfl).1; omega
                have hb1' : (bit : Int) ≤ 1 := by omega
                have hmi : (M : Int) < (B2.length : Int) + 1 := by omega
                have hM2 : A2.all.length = B2.length + 1 := by have := HPK.out.2.1; omega
                have hxn : x < B2.length + 1 := by have := HPK.out.2.2; omega
                have hxm : decide ((B2.length : Int) + 1 ≤ (x : Int)) = false := decide_eq_false (by omega)
                have hxm2 : decide ((B2.length : Int) < (x : Int)) = false := decide_eq_false (by omega)
                have hxm3 : decide (B2.length + 1 ≤ x) = false := decide_eq_false (by omega)
                have hxm4 : decide (B2.length < x) = false := decide_eq_false (by omega)
                clear hxn
                have hx0 : 0 ≤ (x : Int) := by omega
                have HEND : Hid (∀ (wz : World) (a7 : Option Addr) (c7 : Nat) (a9 : Option Addr) (c9 : Nat), Hold wz (arA b A2 :: rowA 45 7 a7 (B2.length + 1) c7 (bflat B2 ++ [.int .i64 x, .int .u32 s, .int .i64 d, .int .i64 m, .int .i64 up, .int .u8 bit, .bool true]) :: rowA 3 1 a9 (T.length + 1) c9 (nums T ++ [.int .i64 (x : Int)]) :: cellsA q 34 [.int .i64 2, .bool told, .int .i64 on', .int .u8 bit, .int .u32 s, .int .i64 d, .int .i64 m] :: C :: L) → KpEnd b c q [.int .i64 2, .bool told, .int .i64 on', .int .u8 bit, .int .u32 s, .int .i64 d, .int .i64 m] T.length g2 C L (.slice a7 (B2.length + 1) c7) (.slice a9 (T.length + 1) c9) (.int .i64 ((B2.length : Int) + 1)) wz) := Lib.hid (fun wz a7 c7 a9 c9 h9 => by
                  have e2 : nums T ++ [.int .i64 (x : Int)] = nums (T ++ [x]) := by simp [nums]
                  have el : (T ++ [x]).length = T.length + 1 := by simp
                  have e3 : bflat B2 ++ [.int .i64 x, .int .u32 s, .int .i64 d, .int .i64 m, .int .i64 up, .int .u8 bit, .bool true] = bflat (B2 ++ [newE x s d m up bb bit]) := by rw [bflat_append]; rfl
                  have el2 : (B2 ++ [newE x s d m up bb bit]).length = B2.length + 1 := by simp
                  have hK := HPK.out.1
                  rw [← el] at hK
                  rw [e2, e3, ← el, ← el2] at h9
                  have hmv : (.int .i64 ((B2.length : Int) + 1) : Value) = .int .i64 (A2.all.length : Int) := by rw [hM2]; rfl
                  rw [hmv, ← el, ← el2]
                  exact ⟨A2, B2 ++ [newE x s d m up bb bit], T ++ [x], a7, a9, c7, c9, rfl, rfl, rfl, hK, by omega, h9⟩)
                clear hM2 hF2'
                · skip
                  go_upto_if 183 with (first
                    | (go_at_call 16; (with_reducible refine hF1'.mono ?_); rintro e6 w6 ⟨rfl, rfl⟩)
                    | (go_at_call 16; (with_reducible refine hF3.mono ?_); rintro e6 w6 ⟨rfl, rfl⟩)
                    | ((with_reducible refine wpList_yw (o := ⟨some 160, _, _, _, _, _⟩) (v := .agg #[.int .u32 s, .int .i64 d, .int .i64 m]) ?_ ?_ ?_); (focus rfl); (focus exact exec_load32 (by rfl) (by rfl) gR))
                    | ((with_reducible refine wpList_plain (o := ⟨some 166, _, _, _, _, _⟩) rfl (fun K hK => ?_)); refine wp_append_one_h (w := wc) _ _ 41 (by rfl) 45 i45 (.agg #[.int .i64 0, .int .u32 0, .int .i64 0, .int .i64 0, .int .i64 0, .int .u8 0, .bool false]) 7 48 Try.underlying41 hi45 hy0 hy1 hy2 (by rfl) ab2 B2.length cb2 _ (by rfl) h6 [.int .i64 x, .int .u32 s, .int .i64 d, .int .i64 m, .int .i64 up, .int .u8 bit, .bool true] (by rfl) ⟨rfl, rfl, rfl, rfl⟩ (by rfl) HONE.out (by unfold maxLen; omega) (by omega) (fun a7 c7 w7 h7 hc7 => ?_); refine hK _ _ ?_; clear hK K; have h8 := h7.mv 2)
                    | ((with_reducible refine wpList_plain (o := ⟨some 170, _, _, _, _, _⟩) rfl (fun K hK => ?_)); refine wp_append_one_h (w := w7) _ _ 23 (by rfl) 3 i3 (.int .i64 0) 1 8 Try.underlying23 hi3 hz0 hz1 hz2 (by rfl) at_ T.length ct _ (by rfl) h8 [.int .i64 x] (by rfl) ⟨rfl, rfl, rfl, rfl⟩ (by rfl) (by simp [Value.oneCell']) (by unfold maxLen; omega) (by omega) (fun a9 c9 w9 h9 hc9 => ?_); refine hK _ _ ?_; clear hK K))
                  clear HONE h6 gR g3 g0
                  go_wp2
                  go_meet
                  exact HEND.out _ _ _ _ _ (h9.arr [2, 1, 0])
              · have hk2f : (kd == 2) = false := by rw [beq_eq_false_iff_ne]; exact hk2
                have hmi : (M : Int) < (B2.length : Int) + 1 := by omega
                have hM2 : A2.all.length = B2.length + 1 := by have := HPK.out.2.1; omega
                have hxn : x < B2.length + 1 := by have := HPK.out.2.2; omega
                have hxm : decide ((B2.length : Int) + 1 ≤ (x : Int)) = false := decide_eq_false (by omega)
                have hxm2 : decide ((B2.length : Int) < (x : Int)) = false := decide_eq_false (by omega)
                have hxm3 : decide (B2.length + 1 ≤ x) = false := decide_eq_false (by omega)
                have hxm4 : decide (B2.length < x) = false := decide_eq_false (by omega)
                clear hxn
                have hx0 : 0 ≤ (x : Int) := by omega
                have HEND : Hid (∀ (wz : World) (a7 : Option Addr) (c7 : Nat) (a9 : Option Addr) (c9 : Nat), Hold wz (arA b A2 :: rowA 45 7 a7 (B2.length + 1) c7 (bflat B2 ++ [.int .i64 x, .int .u32 s, .int .i64 d, .int .i64 m, .int .i64 up, .int .u8 bit, .bool true]) :: rowA 3 1 a9 (T.length + 1) c9 (nums T ++ [.int .i64 (x : Int)]) :: cellsA q 34 [.int .i64 kd, .bool told, .int .i64 on', .int .u8 bit, .int .u32 s, .int .i64 d, .int .i64 m] :: C :: L) → KpEnd b c q [.int .i64 kd, .bool told, .int .i64 on', .int .u8 bit, .int .u32 s, .int .i64 d, .int .i64 m] T.length g2 C L (.slice a7 (B2.length + 1) c7) (.slice a9 (T.length + 1) c9) (.int .i64 ((B2.length : Int) + 1)) wz) := Lib.hid (fun wz a7 c7 a9 c9 h9 => by
                  have e2 : nums T ++ [.int .i64 (x : Int)] = nums (T ++ [x]) := by simp [nums]
                  have el : (T ++ [x]).length = T.length + 1 := by simp
                  have e3 : bflat B2 ++ [.int .i64 x, .int .u32 s, .int .i64 d, .int .i64 m, .int .i64 up, .int .u8 bit, .bool true] = bflat (B2 ++ [newE x s d m up bb bit]) := by rw [bflat_append]; rfl
                  have el2 : (B2 ++ [newE x s d m up bb bit]).length = B2.length + 1 := by simp
                  have hK := HPK.out.1
                  rw [← el] at hK
                  rw [e2, e3, ← el, ← el2] at h9
                  have hmv : (.int .i64 ((B2.length : Int) + 1) : Value) = .int .i64 (A2.all.length : Int) := by rw [hM2]; rfl
                  rw [hmv, ← el, ← el2]
                  exact ⟨A2, B2 ++ [newE x s d m up bb bit], T ++ [x], a7, a9, c7, c9, rfl, rfl, rfl, hK, by omega, h9⟩)
                clear hM2 hF2'
                · skip
                  go_upto_if 183 with (first
                    | (go_at_call 16; (with_reducible refine hF1'.mono ?_); rintro e6 w6 ⟨rfl, rfl⟩)

                    | ((with_reducible refine wpList_yw (o := ⟨some 160, _, _, _, _, _⟩) (v := .agg #[.int .u32 s, .int .i64 d, .int .i64 m]) ?_ ?_ ?_); (focus rfl); (focus exact exec_load32 (by rfl) (by rfl) gR))
                    | ((with_reducible refine wpList_plain (o := ⟨some 166, _, _, _, _, _⟩) rfl (fun K hK => ?_)); refine wp_append_one_h (w := wc) _ _ 41 (by rfl) 45 i45 (.agg #[.int .i64 0, .int .u32 0, .int .i64 0, .int .i64 0, .int .i64 0, .int .u8 0, .bool false]) 7 48 Try.underlying41 hi45 hy0 hy1 hy2 (by rfl) ab2 B2.length cb2 _ (by rfl) h6 [.int .i64 x, .int .u32 s, .int .i64 d, .int .i64 m, .int .i64 up, .int .u8 bit, .bool true] (by rfl) ⟨rfl, rfl, rfl, rfl⟩ (by rfl) HONE.out (by unfold maxLen; omega) (by omega) (fun a7 c7 w7 h7 hc7 => ?_); refine hK _ _ ?_; clear hK K; have h8 := h7.mv 2)
                    | ((with_reducible refine wpList_plain (o := ⟨some 170, _, _, _, _, _⟩) rfl (fun K hK => ?_)); refine wp_append_one_h (w := w7) _ _ 23 (by rfl) 3 i3 (.int .i64 0) 1 8 Try.underlying23 hi3 hz0 hz1 hz2 (by rfl) at_ T.length ct _ (by rfl) h8 [.int .i64 x] (by rfl) ⟨rfl, rfl, rfl, rfl⟩ (by rfl) (by simp [Value.oneCell']) (by unfold maxLen; omega) (by omega) (fun a9 c9 w9 h9 hc9 => ?_); refine hK _ _ ?_; clear hK K))
                  clear HONE h6 gR g3 g0
                  go_wp2
                  go_meet
                  exact HEND.out _ _ _ _ _ (h9.arr [2, 1, 0])
            · by_cases hk2 : kd = 2
              · subst hk2
                obtain ⟨kk, hF3⟩ : ∃ kk : Nat, Calls Try.prog 16 #[.slice ab2 B2.length cb2, .int .i64 up] wc fun e' w' => e' = .returned (.int .i64 (kk : Int)) ∧ wc = w' := by
                  obtain ⟨hb1, f0, hf1, hf2⟩ := HKD.out rfl
                  have hnd := HPK.out.1.bk.nodup
                  rw [List.map_append, List.nodup_append] at hnd
                  obtain ⟨kk, hkk⟩ := List.mem_iff_getElem?.1 hf1
                  refine ⟨kk, hF2'.mono ?_⟩
                  rintro e' w' ⟨v, rfl, rfl, ⟨-, h⟩ | ⟨k2, f, rfl, h1, h2⟩⟩
                  · exact absurd hf2 (h f0 hf1)
                  · have : k2 = kk := by
                      have h3 : (B2.map BE.id)[k2]? = some f.id := by rw [List.getElem?_map, h1]; rfl
                      have h4 : (B2.map BE.id)[kk]? = some f.id := by rw [List.getElem?_map, hkk]; simp; omega
                      have h5 : k2 < (B2.map BE.id).length := by have := (List.getElem?_eq_some_iff.1 h1).1; simpa using this
                      exact (List.getElem?_inj h5 hnd.1).1 (h3.trans h4.symm)
                    subst this
                    exact ⟨rfl, rfl⟩
                have hb1 : ¬ (1 : Int) < (bit : Int) := by have := (HKD.out rfl).1; omega
                have hb1' : (bit : Int) ≤ 1 := by omega
                have hmi : ¬ (M : Int) < (B2.length : Int) + 1 := by omega
                have hM2 : A2.all.length = M := by have := HPK.out.2.1; omega
                have hxn : x < M := by have := HPK.out.2.2; omega
                have hxm : decide ((M : Int) ≤ (x : Int)) = false := decide_eq_false (by omega)
                have hxm2 : decide (M ≤ x) = false := decide_eq_false (by omega)
                clear hxn
                have hx0 : 0 ≤ (x : Int) := by omega
                have HEND : Hid (∀ (wz : World) (a7 : Option Addr) (c7 : Nat) (a9 : Option Addr) (c9 : Nat), Hold wz (arA b A2 :: rowA 45 7 a7 (B2.length + 1) c7 (bflat B2 ++ [.int .i64 x, .int .u32 s, .int .i64 d, .int .i64 m, .int .i64 up, .int .u8 bit, .bool true]) :: rowA 3 1 a9 (T.length + 1) c9 (nums T ++ [.int .i64 (x : Int)]) :: cellsA q 34 [.int .i64 2, .bool told, .int .i64 on', .int .u8 bit, .int .u32 s, .int .i64 d, .int .i64 m] :: C :: L) → KpEnd b c q [.int .i64 2, .bool told, .int .i64 on', .int .u8 bit, .int .u32 s, .int .i64 d, .int .i64 m] T.length g2 C L (.slice a7 (B2.length + 1) c7) (.slice a9 (T.length + 1) c9) (.int .i64 (M : Int)) wz) := Lib.hid (fun wz a7 c7 a9 c9 h9 => by
                  have e2 : nums T ++ [.int .i64 (x : Int)] = nums (T ++ [x]) := by simp [nums]
                  have el : (T ++ [x]).length = T.length + 1 := by simp
                  have e3 : bflat B2 ++ [.int .i64 x, .int .u32 s, .int .i64 d, .int .i64 m, .int .i64 up, .int .u8 bit, .bool true] = bflat (B2 ++ [newE x s d m up bb bit]) := by rw [bflat_append]; rfl
                  have el2 : (B2 ++ [newE x s d m up bb bit]).length = B2.length + 1 := by simp
                  have hK := HPK.out.1
                  rw [← el] at hK
                  rw [e2, e3, ← el, ← el2] at h9
                  have hmv : (.int .i64 (M : Int) : Value) = .int .i64 (A2.all.length : Int) := by rw [hM2]
                  rw [hmv, ← el, ← el2]
                  exact ⟨A2, B2 ++ [newE x s d m up bb bit], T ++ [x], a7, a9, c7, c9, rfl, rfl, rfl, hK, by omega, h9⟩)
                clear hM2 hF2'
                · skip
                  go_upto_if 183 with (first
                    | (go_at_call 16; (with_reducible refine hF1'.mono ?_); rintro e6 w6 ⟨rfl, rfl⟩)
                    | (go_at_call 16; (with_reducible refine hF3.mono ?_); rintro e6 w6 ⟨rfl, rfl⟩)
                    | ((with_reducible refine wpList_yw (o := ⟨some 160, _, _, _, _, _⟩) (v := .agg #[.int .u32 s, .int .i64 d, .int .i64 m]) ?_ ?_ ?_); (focus rfl); (focus exact exec_load32 (by rfl) (by rfl) gR))
                    | ((with_reducible refine wpList_plain (o := ⟨some 166, _, _, _, _, _⟩) rfl (fun K hK => ?_)); refine wp_append_one_h (w := wc) _ _ 41 (by rfl) 45 i45 (.agg #[.int .i64 0, .int .u32 0, .int .i64 0, .int .i64 0, .int .i64 0, .int .u8 0, .bool false]) 7 48 Try.underlying41 hi45 hy0 hy1 hy2 (by rfl) ab2 B2.length cb2 _ (by rfl) h6 [.int .i64 x, .int .u32 s, .int .i64 d, .int .i64 m, .int .i64 up, .int .u8 bit, .bool true] (by rfl) ⟨rfl, rfl, rfl, rfl⟩ (by rfl) HONE.out (by unfold maxLen; omega) (by omega) (fun a7 c7 w7 h7 hc7 => ?_); refine hK _ _ ?_; clear hK K; have h8 := h7.mv 2)
                    | ((with_reducible refine wpList_plain (o := ⟨some 170, _, _, _, _, _⟩) rfl (fun K hK => ?_)); refine wp_append_one_h (w := w7) _ _ 23 (by rfl) 3 i3 (.int .i64 0) 1 8 Try.underlying23 hi3 hz0 hz1 hz2 (by rfl) at_ T.length ct _ (by rfl) h8 [.int .i64 x] (by rfl) ⟨rfl, rfl, rfl, rfl⟩ (by rfl) (by simp [Value.oneCell']) (by unfold maxLen; omega) (by omega) (fun a9 c9 w9 h9 hc9 => ?_); refine hK _ _ ?_; clear hK K))
                  clear HONE h6 gR g3 g0
                  go_wp2
                  go_meet
                  exact HEND.out _ _ _ _ _ (h9.arr [2, 1, 0])
              · have hk2f : (kd == 2) = false := by rw [beq_eq_false_iff_ne]; exact hk2
                have hmi : ¬ (M : Int) < (B2.length : Int) + 1 := by omega
                have hM2 : A2.all.length = M := by have := HPK.out.2.1; omega
                have hxn : x < M := by have := HPK.out.2.2; omega
                have hxm : decide ((M : Int) ≤ (x : Int)) = false := decide_eq_false (by omega)
                have hxm2 : decide (M ≤ x) = false := decide_eq_false (by omega)
                clear hxn
                have hx0 : 0 ≤ (x : Int) := by omega
                have HEND : Hid (∀ (wz : World) (a7 : Option Addr) (c7 : Nat) (a9 : Option Addr) (c9 : Nat), Hold wz (arA b A2 :: rowA 45 7 a7 (B2.length + 1) c7 (bflat B2 ++ [.int .i64 x, .int .u32 s, .int .i64 d, .int .i64 m, .int .i64 up, .int .u8 bit, .bool true]) :: rowA 3 1 a9 (T.length + 1) c9 (nums T ++ [.int .i64 (x : Int)]) :: cellsA q 34 [.int .i64 kd, .bool told, .int .i64 on', .int .u8 bit, .int .u32 s, .int .i64 d, .int .i64 m] :: C :: L) → KpEnd b c q [.int .i64 kd, .bool told, .int .i64 on', .int .u8 bit, .int .u32 s, .int .i64 d, .int .i64 m] T.length g2 C L (.slice a7 (B2.length + 1) c7) (.slice a9 (T.length + 1) c9) (.int .i64 (M : Int)) wz) := Lib.hid (fun wz a7 c7 a9 c9 h9 => by
                  have e2 : nums T ++ [.int .i64 (x : Int)] = nums (T ++ [x]) := by simp [nums]
                  have el : (T ++ [x]).length = T.length + 1 := by simp
                  have e3 : bflat B2 ++ [.int .i64 x, .int .u32 s, .int .i64 d, .int .i64 m, .int .i64 up, .int .u8 bit, .bool true] = bflat (B2 ++ [newE x s d m up bb bit]) := by rw [bflat_append]; rfl
                  have el2 : (B2 ++ [newE x s d m up bb bit]).length = B2.length + 1 := by simp
                  have hK := HPK.out.1
                  rw [← el] at hK
                  rw [e2, e3, ← el, ← el2] at h9
                  have hmv : (.int .i64 (M : Int) : Value) = .int .i64 (A2.all.length : Int) := by rw [hM2]
                  rw [hmv, ← el, ← el2]
                  exact ⟨A2, B2 ++ [newE x s d m up bb bit], T ++ [x], a7, a9, c7, c9, rfl, rfl, rfl, hK, by omega, h9⟩)
                clear hM2 hF2'
                · skip
                  go_upto_if 183 with (first
                    | (go_at_call 16; (with_reducible refine hF1'.mono ?_); rintro e6 w6 ⟨rfl, rfl⟩)

                    | ((with_reducible refine wpList_yw (o := ⟨some 160, _, _, _, _, _⟩) (v := .agg #[.int .u32 s, .int .i64 d, .int .i64 m]) ?_ ?_ ?_); (focus rfl); (focus exact exec_load32 (by rfl) (by rfl) gR))
                    | ((with_reducible refine wpList_plain (o := ⟨some 166, _, _, _, _, _⟩) rfl (fun K hK => ?_)); refine wp_append_one_h (w := wc) _ _ 41 (by rfl) 45 i45 (.agg #[.int .i64 0, .int .u32 0, .int .i64 0, .int .i64 0, .int .i64 0, .int .u8 0, .bool false]) 7 48 Try.underlying41 hi45 hy0 hy1 hy2 (by rfl) ab2 B2.length cb2 _ (by rfl) h6 [.int .i64 x, .int .u32 s, .int .i64 d, .int .i64 m, .int .i64 up, .int .u8 bit, .bool true] (by rfl) ⟨rfl, rfl, rfl, rfl⟩ (by rfl) HONE.out (by unfold maxLen; omega) (by omega) (fun a7 c7 w7 h7 hc7 => ?_); refine hK _ _ ?_; clear hK K; have h8 := h7.mv 2)
                    | ((with_reducible refine wpList_plain (o := ⟨some 170, _, _, _, _, _⟩) rfl (fun K hK => ?_)); refine wp_append_one_h (w := w7) _ _ 23 (by rfl) 3 i3 (.int .i64 0) 1 8 Try.underlying23 hi3 hz0 hz1 hz2 (by rfl) at_ T.length ct _ (by rfl) h8 [.int .i64 x] (by rfl) ⟨rfl, rfl, rfl, rfl⟩ (by rfl) (by simp [Value.oneCell']) (by unfold maxLen; omega) (by omega) (fun a9 c9 w9 h9 hc9 => ?_); refine hK _ _ ?_; clear hK K))
                  clear HONE h6 gR g3 g0
                  go_wp2
                  go_meet
                  exact HEND.out _ _ _ _ _ (h9.arr [2, 1, 0])
        case rest =>
          clear HCASE h5
          obtain ⟨A3, B3, T3, ab3, at3, cb3, ct3, rfl, rfl, rfl, hK3, hT3, h9⟩ := hcut
          have hcc := HC.out
          have htc : A3.taken ≤ A3.cap := by obtain ⟨born, hI⟩ := hK3.ai; have := hI.count; have := hI.len; omega
          have P7 := fun w L h => len_ok b A3 (by rw [hK3.cap]; exact hcc.1) w L h
          have P8 := fun w L h => room_ok b A3 (by rw [hK3.cap]; exact hcc.1) (by rw [hK3.cap]; exact hcc.2) htc w L h
          rw [← hK3.len] at P7
          rw [hK3.cap, ← hK3.len] at P8
          have hb3 := hK3.b6.1
          have htold := hK3.told
          have W2a : (B3.length : Int) + ((c : Int) - B3.length) = c := by omega
          have W2b : IntKind.i64.wrap (c : Int) = c := IntWalk.i64_in _ (by omega)
          have W2 : IntKind.i64.wrap ((B3.length : Int) + ((c : Int) - B3.length)) = c := by rw [W2a]; exact W2b
          have W3a : (g2 : Int) + B3.length = T3.length := by omega
          have W3b : IntKind.i64.wrap (T3.length : Int) = T3.length := IntWalk.i64_in _ (by omega)
          have W3 : IntKind.i64.wrap ((g2 : Int) + B3.length) = T3.length := by rw [W3a]; exact W3b
          have hT9 : Hid (T3.length ≤ k + 1) := Lib.hid (by omega)
          have HK3 := Lib.hid hK3
          clear hK3 htold htc hcc hT3 hT
          · skip
            go_wp2_with (first
              | (go_at_call 14; refine (P8 _ _ h11).mono ?_; rintro e6 w6 ⟨rfl, h12⟩)
              | (go_at_call 13; refine (P7 _ _ h10).mono ?_; rintro e6 w6 ⟨rfl, h11⟩)
              | (go_at_call 13; refine (P7 _ _ h9).mono ?_; rintro e6 w6 ⟨rfl, h10⟩))
            go_roundw
            case rel =>
              have h13 := ((h12.mv 3).drop)
              (try dsimp only [Go.Own.front, Go.Own.arrA, Go.Own.atA, Go.Own.dropA, List.length_cons, List.length_nil, Nat.zero_add, Nat.reduceAdd] at h13)
              exact ⟨k + 1, A3, B3, g2, T3, ab3, at3, cb3, ct3, by omega, by go_num, rfl, rfl, rfl, rfl, HK3.out, hT9.out, h13⟩
            case measure => simp [intOf]; omega
    · obtain rfl : k = n := by omega
      have hcc := HC.out
      have PS := stands_ok b A _ HKE.out.ai.choose_spec B HKE.out.bk ab cb hB6 wr _ hr
      go_wp2_with (first
        | (go_at_call 18; refine PS.mono ?_; rintro e w3 ⟨rfl, h3⟩)
        | (go_at_call 9; refine (live_ok _ _ h3).mono ?_; rintro e w4 ⟨rfl, h4⟩))
      go_ret
      exact ⟨rfl, h4.drop.drop.drop⟩

end Go.Proofs.Ytahhbbcgfhmmgaa
