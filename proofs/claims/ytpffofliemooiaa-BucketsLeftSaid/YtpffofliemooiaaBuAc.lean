/- BucketsLeft's walk. -/
import Derived.Test.YtpffofliemooiaaBuAb
open Go.RowKit Go.Own
namespace Go.Proofs.Ytpffofliemooiaa
attribute [local go_sem] Oper.semAt_some

theorem res_bool {fn : Func} {p : Tmp} {tmps : Array Value} {w : World} {b : Nat} {v : Value} {L : List Asn} (h : Hold w (cellsA b 4 [v] :: L)) (hv : ∃ x, v = .bool x) (hf : fn.results = #[.cell p 4]) (hp : tmps.getD p undef = .pointer (some ⟨b, 0, none⟩)) : (results fn tmps).run Try.prog w = .ok v w := by
  obtain ⟨x, rfl⟩ := hv
  have c0 : w.cell? ⟨b, 0, none⟩ = some (.bool x) := h.cell 0
  refine res_cell (ad := ⟨b, 0, none⟩) ?_ hf hp
  go_simp

set_option maxRecDepth 20000 in
theorem left_bad (d lo hi cp at_ : Int) (hlo : I64 lo) (hhi : I64 hi) (hbad : newE d lo hi cp ≠ 0) (v : Value) (w : World) (L : List Asn) (h : Hold w L) :
    Calls Try.prog 6 #[.agg #[.int .i64 d, .int .i64 lo, .int .i64 hi, .int .i64 cp], v, .int .i64 at_] w fun e w' => e = .returned (.bool true) ∧ Hold w' L := by
  have P1 := fun w => new_badx d lo hi cp hlo hhi hbad w
  have P2 := fun w => rnew_bad d lo hi cp hlo hhi hbad w
  have hz0 : ((newE d lo hi cp : Int) != 0) = true := by simpa using hbad
  generalize newE d lo hi cp = z at P1 P2 hz0
  clear hbad
  have hb := ((h.box 23 [.int .i64 d, .int .i64 lo, .int .i64 hi, .int .i64 cp]).box 3 [.int .i64 at_]).box 4 [.bool false]
  obtain ⟨q, hq⟩ : ∃ q, w.heap.size = q := ⟨_, rfl⟩
  simp only [World.size_alloc, hq] at hb
  (refine calls_of_wp_marks Try.func6 rfl ?_; simp only [Try.ntmps6, List.size_toArray, List.length_cons, List.length_nil, Nat.reduceAdd, Nat.reduceSub, Array.replicate_succ, Array.replicate_zero, List.push_toArray, List.append_toArray, List.nil_append, List.cons_append])
  go_upto_region 1 with (fail)
  refine gen_world hb (fun w1 hb => ?_)
  clear hq
  generalize q + 1 + 1 = qr at *
  generalize q + 1 = qa at *
  obtain ⟨g0, g1, g2, g3⟩ := seM (hb.mv 2)
  have h2 := hb.box 25 [.pointer none]
  go_upto_region 2 with (go_at_call 9; refine (P1 _).mono ?_; rintro e w2 ⟨rfl, rfl⟩)
  refine gen_world h2 (fun w2 h2 => ?_)
  generalize w1.heap.size = pb at *
  clear g0 g1 g2 g3 P1
  obtain ⟨g0, g1, g2, g3⟩ := seM (h2.mv 3)
  have h3 := h2.box 46 [.pointer none]
  go_upto_region 3 with (go_at_call 18; refine (P2 _).mono ?_; rintro e w3 ⟨rfl, rfl⟩)
  refine gen_world h3 (fun w3 h3 => ?_)
  generalize w2.heap.size = pw at *
  clear g0 g1 g2 g3 P2 h2 h hb
  have cw : w3.cell? ⟨pw, 0, none⟩ = some (.pointer none) := h3.cell 0
  have P3 := live_ok w3 _ h3
  go_upto_region 4 with (go_at_call 10; refine (num_any _ _).mono ?_; rintro e w4 ⟨rfl, rfl⟩)
  go_wp2_with (go_at_call 11; refine P3.mono ?_; clear P3; rintro e w4 ⟨rfl, h4⟩; have cr : w4.cell? ⟨qr, 0, none⟩ = some (.bool false) := (h4.mv 2).cell 0; have fr := (h4.mv 2).frozen 0)
  have h5 := (h4.mv 2).st 0 (.bool true)
  refine leaves_end (res_bool h5 ⟨_, rfl⟩ (by rfl) (by rfl)) ⟨rfl, ?_⟩
  exact h5.drop.drop.drop.drop.drop

def putsRel (b r q qa qr pb pw : Nat) (d lo hi cp at_ : Int) (n : Nat) (C : Asn) (L : List Asn) (iv : Value) (wr : World) : Prop :=
  ∃ (k : Nat) (S : BS) (T : RS), k ≤ n ∧ iv = .int .i64 k ∧ Two d lo hi cp S T ∧ Hold wr (bkA b S :: rfA r T :: cellsA pb 25 [.pointer (some ⟨b, 0, none⟩)] :: cellsA pw 46 [.pointer (some ⟨r, 0, none⟩)] :: cellsA qr 4 [.bool false] :: cellsA qa 3 [.int .i64 at_] :: seA q d lo hi cp :: C :: L)

set_option maxHeartbeats 4000000 in
set_option maxRecDepth 20000 in
theorem left_good (d lo hi cp at_ : Int) (hat : I64 at_) (hd1 : 1 ≤ d) (hd2 : d ≤ 65536) (hlo : I64 lo) (hhi : I64 hi) (hlh : lo ≤ hi) (hc1 : 1 ≤ cp) (hc2 : cp ≤ 65536) (hsz : hi / d - lo / d < 65536) (zs : List Int) (hzs : ∀ z ∈ zs, I64 z) (C : Asn) (ao : Option Addr) (n cap : Nat) (hR : Reads C 3 (.slice ao n cap) n (is zs)) (hz : zs.length = n * 3) (hn9 : n * 24 ≤ 140737488351232) (w : World) (L : List Asn) (h : Hold w (C :: L)) :
    Calls Try.prog 6 #[.agg #[.int .i64 d, .int .i64 lo, .int .i64 hi, .int .i64 cp], .slice ao n cap, .int .i64 at_] w fun e w' => e = .returned (.bool true) ∧ Hold w' (C :: L) := by
  have P1 := fun w L h => new_good d lo hi cp hd1 hd2 hlo hhi hlh hc1 hc2 hsz w L h
  have P2 := fun w L h => rnew_good d lo hi cp hd1 hd2 hlo hhi hlh hc1 hc2 hsz w L h
  have H0 := two_new hd1 hd2 hlh hlo hhi hc1 hc2 hsz
  have HZS := Lib.hid (And.intro hzs hz)
  have HHI := Lib.hid hhi
  have hN : (n : Int) ≤ 5864062014634 := by omega
  clear hd1 hd2 hlo hhi hlh hc1 hc2 hsz hzs hz hn9
  have hb := ((h.box 23 [.int .i64 d, .int .i64 lo, .int .i64 hi, .int .i64 cp]).box 3 [.int .i64 at_]).box 4 [.bool false]
  obtain ⟨q, hq⟩ : ∃ q, w.heap.size = q := ⟨_, rfl⟩
  simp only [World.size_alloc, hq] at hb
  (refine calls_of_wp_marks Try.func6 rfl ?_; simp only [Try.ntmps6, List.size_toArray, List.length_cons, List.length_nil, Nat.reduceAdd, Nat.reduceSub, Array.replicate_succ, Array.replicate_zero, List.push_toArray, List.append_toArray, List.nil_append, List.cons_append])
  go_upto_region 1 with (fail)
  refine gen_world hb (fun w1 hb => ?_)
  clear hq
  generalize q + 1 + 1 = qr at *
  generalize q + 1 = qa at *
  obtain ⟨g0, g1, g2, g3⟩ := seM (hb.mv 2)
  go_upto_region 2 with (go_at_call 9; refine (P1 _ _ hb).mono ?_; rintro e w2 ⟨b, rfl, h2⟩)
  have h3 := h2.box 25 [.pointer (some ⟨b, 0, none⟩)]
  refine gen_world h3 (fun w3 h3 => ?_)
  generalize w2.heap.size = pb at *
  clear g0 g1 g2 g3 P1 h2 hb
  obtain ⟨g0, g1, g2, g3⟩ := seM (h3.mv 4)
  go_upto_region 3 with (go_at_call 18; refine (P2 _ _ h3).mono ?_; rintro e w4 ⟨r, rfl, h4⟩)
  have h5 := h4.box 46 [.pointer (some ⟨r, 0, none⟩)]
  refine gen_world h5 (fun w5 h5 => ?_)
  generalize w4.heap.size = pw at *
  clear g0 g1 g2 g3 P2 h4 h3 h
  have kw : w5.cell? ⟨pw, 0, none⟩ = some (.pointer (some ⟨r, 0, none⟩)) := h5.cell 0
  have kb : w5.cell? ⟨pb, 0, none⟩ = some (.pointer (some ⟨b, 0, none⟩)) := (h5.mv 2).cell 0
  have h6 := h5.arr [3, 1, 2, 0]
  (try dsimp only [Go.Own.front, Go.Own.arrA, Go.Own.atA, Go.Own.dropA, List.length_cons, List.length_nil, Nat.zero_add, Nat.reduceAdd] at h6)
  clear h5
  go_upto_block 0 with (go_at_call 10; refine (num_any _ _).mono ?_; rintro e w6 ⟨rfl, rfl⟩)
  clear kw kb
  go_wp2
  go_loopw [11] (fun iv wr => putsRel b r q qa qr pb pw d lo hi cp at_ n C L iv wr) (fun iv _ => n - (intOf iv).toNat)
  case atStart => exact ⟨0, _, _, Nat.zero_le _, rfl, H0, h6⟩
  case round =>
    clear h6 H0
    obtain ⟨k, S, T, hk, rfl, H, hr⟩ := hrel
    by_cases hlt : k < n
    · have hki : (k : Int) < n := by omega
      have hk0 : 0 ≤ (k : Int) := by omega
      obtain ⟨rb, ro, rfl, HG⟩ := opsG hR HZS.out.2 hlt (hr.mv 7)
      obtain ⟨c0, c1, c2⟩ := HG _ _ (hr.drew.mv 7)
      have hme : I64 (zs.getD (k * 3 + 1) 0) := HZS.out.1 _ (nth_is (by have := HZS.out.2; omega)).2
      have HHG := Lib.hid HG
      have kb : wr.drew.cell? ⟨pb, 0, none⟩ = some (.pointer (some ⟨b, 0, none⟩)) := (hr.drew.mv 2).cell 0
      obtain ⟨me, hmee⟩ : ∃ me, zs.getD (k * 3 + 1) 0 = me := ⟨_, rfl⟩
      obtain ⟨id, hide⟩ : ∃ id, zs.getD (k * 3 + 2) 0 = id := ⟨_, rfl⟩
      rw [hmee] at c1 hme HHG
      rw [hide] at c2 HHG
      have PP := put_two H b me id hme wr.drew _ hr.drew
      clear HG hr H c0 hmee hide
      go_upto_region 8 with (fail)
      refine wp_region_Z (fun W => W.cell? ⟨pb, 0, none⟩ = some (.pointer (some ⟨b, 0, none⟩)) ∧ W.cell? ⟨rb, ro + k * 3 + 1, none⟩ = some (.int .i64 me) ∧ W.cell? ⟨rb, ro + k * 3 + 2, none⟩ = some (.int .i64 id)) [0, 5, 10] [] [1, 2, 3, 4, 6, 7, 8, 9] [0, 1, 2, 3, 4, 5, 6, 7, 8, 9, 10, 11] (by kernel_rfl) (by kernel_rfl) ?_
      (repeat (first | (refine wpZ_st (v := ?_) _ (by rfl) (by rfl) (by rfl) (fun W hW => ?_) (by exact ⟨kb, c1, c2⟩) ?_; (rotate_left; (focus ((try dsimp only at hW); go_simp; (try with_reducible rfl); done))); try simp only [Act.put, List.getElem_toArray, List.getElem_cons_zero, List.getElem_cons_succ, List.setIfInBounds_toArray, List.set_cons_zero, List.set_cons_succ]) | (refine wpZ_pu (v := ?_) _ (by rfl) (by rfl) (by rfl) (by rfl) (fun W => ?_) ?_; (rotate_left; (focus ((try dsimp only at hW); go_simp; (try with_reducible rfl); done))); try simp only [Act.put, List.getElem_toArray, List.getElem_cons_zero, List.getElem_cons_succ, List.setIfInBounds_toArray, List.set_cons_zero, List.set_cons_succ]) | (refine wpZ_no _ (by rfl) (by rfl) (by rfl) (by rfl) ?_; try simp only [Act.put, List.getElem_toArray, List.getElem_cons_zero, List.getElem_cons_succ, List.setIfInBounds_toArray, List.set_cons_zero, List.set_cons_succ]) | (refine wpZ_noS _ (by rfl) (by rfl) (by rfl) (by exact ⟨kb, c1, c2⟩) ?_; try simp only [Act.put, List.getElem_toArray, List.getElem_cons_zero, List.getElem_cons_succ, List.setIfInBounds_toArray, List.set_cons_zero, List.set_cons_succ])))
      refine wpZ_eff _ (by rfl) (by rfl) (by rfl) (by rfl) (fun K hK => ?_)
      go_simp
      refine PP.mono ?_
      rintro e w7 ⟨x, dr, z, S1, rfl, PR, h7⟩
      dsimp only
      have kb' : w7.cell? ⟨pb, 0, none⟩ = some (.pointer (some ⟨b, 0, none⟩)) := (h7.mv 2).cell 0
      obtain ⟨-, c1', c2'⟩ := HHG.out w7 _ (h7.mv 7)
      (refine hK _ _ (fun hl => ?_) ?_; (first | (focus (cases hl; done)) | exact ⟨kb', c1', c2'⟩); clear hK K; try simp only [Act.put, List.getElem_toArray, List.getElem_cons_zero, List.getElem_cons_succ, List.setIfInBounds_toArray, List.set_cons_zero, List.set_cons_succ])
      (simp only [wpZ])
      have PR2 := PR r w7.drew _ (h7.drew.mv 1)
      have kw : w7.drew.cell? ⟨pw, 0, none⟩ = some (.pointer (some ⟨r, 0, none⟩)) := (h7.drew.mv 3).cell 0
      obtain ⟨-, e1, e2⟩ := HHG.out w7.drew _ (h7.drew.mv 7)
      clear PP PR h7 kb c1 c2 kb' c1' c2'
      go_upto_region 9 with (fail)
      refine wp_region_Z (fun W => W.cell? ⟨pw, 0, none⟩ = some (.pointer (some ⟨r, 0, none⟩)) ∧ W.cell? ⟨rb, ro + k * 3 + 1, none⟩ = some (.int .i64 me) ∧ W.cell? ⟨rb, ro + k * 3 + 2, none⟩ = some (.int .i64 id)) [0, 5, 10] [] [1, 2, 3, 4, 6, 7, 8, 9] [0, 1, 2, 3, 4, 5, 6, 7, 8, 9, 10, 11] (by kernel_rfl) (by kernel_rfl) ?_
      (repeat (first | (refine wpZ_st (v := ?_) _ (by rfl) (by rfl) (by rfl) (fun W hW => ?_) (by exact ⟨kw, e1, e2⟩) ?_; (rotate_left; (focus ((try dsimp only at hW); go_simp; (try with_reducible rfl); done))); try simp only [Act.put, List.getElem_toArray, List.getElem_cons_zero, List.getElem_cons_succ, List.setIfInBounds_toArray, List.set_cons_zero, List.set_cons_succ]) | (refine wpZ_pu (v := ?_) _ (by rfl) (by rfl) (by rfl) (by rfl) (fun W => ?_) ?_; (rotate_left; (focus ((try dsimp only at hW); go_simp; (try with_reducible rfl); done))); try simp only [Act.put, List.getElem_toArray, List.getElem_cons_zero, List.getElem_cons_succ, List.setIfInBounds_toArray, List.set_cons_zero, List.set_cons_succ]) | (refine wpZ_no _ (by rfl) (by rfl) (by rfl) (by rfl) ?_; try simp only [Act.put, List.getElem_toArray, List.getElem_cons_zero, List.getElem_cons_succ, List.setIfInBounds_toArray, List.set_cons_zero, List.set_cons_succ]) | (refine wpZ_noS _ (by rfl) (by rfl) (by rfl) (by exact ⟨kw, e1, e2⟩) ?_; try simp only [Act.put, List.getElem_toArray, List.getElem_cons_zero, List.getElem_cons_succ, List.setIfInBounds_toArray, List.set_cons_zero, List.set_cons_succ])))
      refine wpZ_eff _ (by rfl) (by rfl) (by rfl) (by rfl) (fun K hK => ?_)
      go_simp
      refine PR2.mono ?_
      rintro e w8 ⟨rfl, T1, H1, h8⟩
      dsimp only
      have kw' : w8.cell? ⟨pw, 0, none⟩ = some (.pointer (some ⟨r, 0, none⟩)) := (h8.mv 3).cell 0
      obtain ⟨-, e1', e2'⟩ := HHG.out w8 _ (h8.mv 7)
      (refine hK _ _ (fun hl => ?_) ?_; (first | (focus (cases hl; done)) | exact ⟨kw', e1', e2'⟩); clear hK K; try simp only [Act.put, List.getElem_toArray, List.getElem_cons_zero, List.getElem_cons_succ, List.setIfInBounds_toArray, List.set_cons_zero, List.set_cons_succ])
      (simp only [wpZ])
      have HH1 := Lib.hid H1
      have h9 := h8.swap
      clear PR2 H1 h8 kw e1 e2 kw' e1' e2'
      go_wp2
      go_roundw
      case rel => exact ⟨k + 1, S1, T1, by omega, by go_num, HH1.out, h9⟩
      case measure => (simp [intOf] <;> omega)
    · obtain rfl : k = n := by omega
      have hhiN := HHI.out
      generalize hLL : (cellsA pb 25 [.pointer (some ⟨b, 0, none⟩)] :: cellsA pw 46 [.pointer (some ⟨r, 0, none⟩)] :: cellsA qr 4 [.bool false] :: cellsA qa 3 [.int .i64 at_] :: seA q d lo hi cp :: C :: L) = LL at hr
      have kw : wr.cell? ⟨pw, 0, none⟩ = some (.pointer (some ⟨r, 0, none⟩)) := by rw [← hLL] at hr; exact (hr.mv 3).cell 0
      have PA := rall_two H r wr _ hr.swap
      have HX := H.allLen
      have hn9 := H.n9
      generalize hxs : allTo S.base S.rows S.rows.length = xs at PA HX
      have hxl : (xs.length : Int) ≤ 65536 := by omega
      clear HX hn9
      have EQ := fun B w => run_eql_func_nil w 56 (.func 33) #[] #[.pointer (some ⟨B, 0, none⟩)] Try.underlying56
      go_upto_region 11 with (go_at_call 20; refine PA.mono ?_; clear PA; rintro e w9 ⟨wo, wc, rfl, h9⟩)
      have h10 := h9.box 53 [.slice wo xs.length wc]
      refine gen_world h10 (fun w10 h10 => ?_)
      generalize w9.heap.size = wB at *
      clear h9 kw hr
      have kb : w10.cell? ⟨pb, 0, none⟩ = some (.pointer (some ⟨b, 0, none⟩)) := by rw [← hLL] at h10; exact (h10.mv 4).cell 0
      have PC := all_ok (some ⟨b, 0, none⟩) w10 _ h10
      go_upto_region 15 with (go_at_call 21; refine PC.mono ?_; clear PC; rintro e w11 ⟨B, rfl, h11⟩)
      have h12 := h11.box 3 [.int .i64 0]
      have h13 := h12.arr [1, 5, 0, 4, 2, 3]
      (try dsimp only [Go.Own.front, Go.Own.arrA, Go.Own.atA, Go.Own.dropA, List.length_cons, List.length_nil, Nat.zero_add, Nat.reduceAdd] at h13)
      clear h12 h11
      refine gen_world h13 (fun w13 h13 => ?_)
      generalize w11.heap.size = nB at *
      go_wp2
      refine wp_rangeFunc_h (gf := 33) (lb := #[.pointer (some ⟨B, 0, none⟩)]) (L := cellsA nB 3 [.int .i64 0] :: rfA r T :: cellsA wB 53 [.slice wo xs.length wc] :: rowA 59 2 wo xs.length wc (ents xs) :: LL) rfl (enters_of Try.func33 (by kernel_rfl) rfl) (gives_ok B b S H.c1 H.good.len H.short H.fit.t64) (fun _ => rfl) h13
        (fun pre M => ∃ S T, Two d lo hi cp S T ∧ M = cellsA B 25 [.pointer (some ⟨b, 0, none⟩)] :: bkA b S :: cellsA nB 3 [.int .i64 pre.length] :: rfA r T :: cellsA wB 53 [.slice wo xs.length wc] :: rowA 59 2 wo xs.length wc (ents xs) :: LL) (fun _ _ _ => False)
        ⟨S, T, H, rfl⟩ ?kp ?round ?done ?stop
      case kp =>
        rintro pre M W (⟨S1, T1, H1, rfl⟩ | ⟨_, hf⟩) hW
        case inr => exact hf.elim
        rw [show S.base = S1.base by rw [H.fit.eb, H1.fit.eb]]
        exact kpB (M := []) hW
      case round =>
        rintro l pre x rest W G M hx ⟨S1, T1, H1, rfl⟩ hW
        rw [hxs] at hx
        have hpl : pre.length < xs.length := by rw [hx]; simp
        have hpi : (pre.length : Int) < xs.length := by omega
        have hp0 : 0 ≤ (pre.length : Int) := by omega
        have hbx : bk xs pre.length = x.1 ∧ (xs.getD pre.length (0, 0)).2 = x.2 := by rw [hx]; simp [bk, List.getD]
        dsimp only [encE, List.zip, List.zipWith, List.foldl]
        gi_wp2
        refine ⟨_, hW, fun W2 G2 hV => ?_⟩
        subst hLL
        clear hW hx
        obtain ⟨ab, ap, rfl, hca, -⟩ := (hV.mv 6).at (by omega)
        obtain ⟨e1, e2⟩ := ents_at hpl
        have v1 : W2.cell? ⟨ab, ap + pre.length * 2, none⟩ = some (.int .i64 x.1) := by rw [hca (pre.length * 2) (by omega), Nat.mul_comm, e1, hbx.1]
        have v2 : W2.cell? ⟨ab, ap + pre.length * 2 + 1, none⟩ = some (.int .i64 x.2) := by rw [Nat.add_assoc, hca (pre.length * 2 + 1) (by omega), Nat.mul_comm, e2, hbx.2]
        have vn : W2.cell? ⟨nB, 0, none⟩ = some (.int .i64 pre.length) := (hV.mv 3).cell 0
        have vw : W2.cell? ⟨wB, 0, none⟩ = some (.slice (some ⟨ab, ap, none⟩) xs.length wc) := (hV.mv 5).cell 0
        have va : W2.cell? ⟨qa, 0, none⟩ = some (.int .i64 at_) := (hV.mv 10).cell 0
        have vb : W2.cell? ⟨pb, 0, none⟩ = some (.pointer (some ⟨b, 0, none⟩)) := (hV.mv 7).cell 0
        clear hca e1 e2 hbx
        by_cases hat : (pre.length : Int) = at_
        · have hat2 : ((pre.length : Int) == at_) = true := by simpa using hat
          have PP := pop_one H1.one b W2 _ (hV.mv 2)
          have HH1 := Lib.hid H1
          clear hat H1
          gi_wp2_with (first
            | (refine ⟨trivial, ?_⟩; gi_at_call 16; refine CallsIn.mono (calls_round PP) ?_; clear PP; rintro e w6 ⟨x1, x2, x3, S2, rfl, O2, PR, h6⟩; have PP2 := put_one O2 b hi 12345 HHI.out w6 _ h6; have vb2 : w6.cell? ⟨pb, 0, none⟩ = some (.pointer (some ⟨b, 0, none⟩)) := (h6.mv 7).cell 0; have vs2 := (seM (h6.mv 11)).2.2.1)
            | (refine ⟨trivial, ?_⟩; gi_at_call 12; refine CallsIn.mono (calls_round PP2) ?_; clear PP2; rintro e w7 ⟨y1, y2, y3, S3, rfl, O3, PR3, h7⟩; have PP3 := PR T1 HH1.out r w7 _ (h7.mv 4); have vw2 : w7.cell? ⟨pw, 0, none⟩ = some (.pointer (some ⟨r, 0, none⟩)) := (h7.mv 8).cell 0)
            | (refine ⟨trivial, ?_⟩; gi_at_call 22; refine CallsIn.mono (calls_round PP3) ?_; clear PP3; rintro e w8 ⟨rfl, T2, H2, h8⟩; have PP4 := PR3 T2 H2 r w8 _ h8; have vw3 : w8.cell? ⟨pw, 0, none⟩ = some (.pointer (some ⟨r, 0, none⟩)) := (h8.mv 8).cell 0; have vs3 := (seM (h8.mv 11)).2.2.1)
            | (refine ⟨trivial, ?_⟩; gi_at_call 19; refine CallsIn.mono (calls_round PP4) ?_; clear PP4; rintro e w9 ⟨rfl, T3, H3, h9⟩))
          clear PR PR3 H2 h6 h7 h8 O2 O3
          have PL := listed_two H3 b w9.drew _ (h9.drew.mv 1)
          have PAX := fun w L h => rall_two H3 r w L h
          have PE := fun ao bo ac bc w L h => entries_ok (allTo S3.base S3.rows S3.rows.length) ao bo ac bc (by rw [H3.allLen]; have := H3.n9; omega) w L h
          have HH3 := Lib.hid H3
          generalize allTo S3.base S3.rows S3.rows.length = zs3 at PL PAX PE
          have kb := (h9.drew.mv 7).cell 0
          have kw := (h9.drew.mv 8).cell 0
          clear H3 h9
          refine wpIn_region_I (ro := some l) (fun W => W.cell? ⟨pb, 0, none⟩ = some (.pointer (some ⟨b, 0, none⟩)) ∧ W.cell? ⟨pw, 0, none⟩ = some (.pointer (some ⟨r, 0, none⟩))) [0, 2] [] [5] [0, 2, 1, 3, 4, 5] (by kernel_rfl) (by kernel_rfl) ?_
          (repeat (first | (refine wpI_st (v := ?_) _ (by rfl) (by rfl) (by rfl) (fun W hW => ?_) (by exact ⟨kb, kw⟩) ?_; (rotate_left; (focus ((try dsimp only at hW); go_simp; (try with_reducible rfl); done))); try simp only [Act.put, List.getElem_toArray, List.getElem_cons_zero, List.getElem_cons_succ, List.setIfInBounds_toArray, List.set_cons_zero, List.set_cons_succ]) | (refine wpI_pu (v := ?_) _ (by rfl) (by rfl) (by rfl) (by rfl) (fun W => ?_) ?_; (rotate_left; (focus ((try dsimp only at hW); go_simp; (try with_reducible rfl); done))); try simp only [Act.put, List.getElem_toArray, List.getElem_cons_zero, List.getElem_cons_succ, List.setIfInBounds_toArray, List.set_cons_zero, List.set_cons_succ]) | (refine wpI_no _ (by rfl) (by rfl) (by rfl) (by rfl) ?_; try simp only [Act.put, List.getElem_toArray, List.getElem_cons_zero, List.getElem_cons_succ, List.setIfInBounds_toArray, List.set_cons_zero, List.set_cons_succ]) | (refine wpI_noS _ (by rfl) (by rfl) (by rfl) (by exact ⟨kb, kw⟩) ?_; try simp only [Act.put, List.getElem_toArray, List.getElem_cons_zero, List.getElem_cons_succ, List.setIfInBounds_toArray, List.set_cons_zero, List.set_cons_succ])))
          refine wpI_eff _ (by rfl) (by rfl) (by rfl) (by rfl) (fun K hK => ?_)
          refine oper_in (Q' := NoQ) rfl ?_
          go_simp
          refine PL.mono ?_
          rintro e w10 ⟨a10, c10, rfl, h10⟩
          dsimp only
          have kb2 := (h10.mv 8).cell 0
          have kw2 := (h10.mv 9).cell 0
          (refine hK _ _ (fun hl => ?_) ?_; (first | (focus (cases hl; done)) | exact ⟨kb2, kw2⟩); clear hK K; try simp only [Act.put, List.getElem_toArray, List.getElem_cons_zero, List.getElem_cons_succ, List.setIfInBounds_toArray, List.set_cons_zero, List.set_cons_succ])
          refine wpI_eff _ (by rfl) (by rfl) (by rfl) (by rfl) (fun K hK => ?_)
          refine oper_in (Q' := NoQ) rfl ?_
          go_simp
          refine (PAX w10 _ (h10.mv 2)).mono ?_
          rintro e w11 ⟨a11, c11, rfl, h11⟩
          dsimp only
          have kb3 := (h11.mv 9).cell 0
          have kw3 := (h11.mv 10).cell 0
          (refine hK _ _ (fun hl => ?_) ?_; (first | (focus (cases hl; done)) | exact ⟨kb3, kw3⟩); clear hK K; try simp only [Act.put, List.getElem_toArray, List.getElem_cons_zero, List.getElem_cons_succ, List.setIfInBounds_toArray, List.set_cons_zero, List.set_cons_succ])
          refine wpI_eff _ (by rfl) (by rfl) (by rfl) (by rfl) (fun K hK => ?_)
          refine oper_in (Q' := NoQ) rfl ?_
          go_simp
          refine (PE a10 a11 c10 c11 w11 _ (h11.arr [2, 0, 1])).mono ?_
          rintro e w12 ⟨rfl, h12⟩
          dsimp only
          have kb4 := (h12.mv 9).cell 0
          have kw4 := (h12.mv 10).cell 0
          (refine hK _ _ (fun hl => ?_) ?_; (first | (focus (cases hl; done)) | exact ⟨kb4, kw4⟩); clear hK K; try simp only [Act.put, List.getElem_toArray, List.getElem_cons_zero, List.getElem_cons_succ, List.setIfInBounds_toArray, List.set_cons_zero, List.set_cons_succ])
          (repeat (first | (refine wpI_st (v := ?_) _ (by rfl) (by rfl) (by rfl) (fun W hW => ?_) (by exact ⟨kb4, kw4⟩) ?_; (rotate_left; (focus ((try dsimp only at hW); go_simp; (try with_reducible rfl); done))); try simp only [Act.put, List.getElem_toArray, List.getElem_cons_zero, List.getElem_cons_succ, List.setIfInBounds_toArray, List.set_cons_zero, List.set_cons_succ]) | (refine wpI_pu (v := ?_) _ (by rfl) (by rfl) (by rfl) (by rfl) (fun W => ?_) ?_; (rotate_left; (focus ((try dsimp only at hW); go_simp; (try with_reducible rfl); done))); try simp only [Act.put, List.getElem_toArray, List.getElem_cons_zero, List.getElem_cons_succ, List.setIfInBounds_toArray, List.set_cons_zero, List.set_cons_succ]) | (refine wpI_no _ (by rfl) (by rfl) (by rfl) (by rfl) ?_; try simp only [Act.put, List.getElem_toArray, List.getElem_cons_zero, List.getElem_cons_succ, List.setIfInBounds_toArray, List.set_cons_zero, List.set_cons_succ]) | (refine wpI_noS _ (by rfl) (by rfl) (by rfl) (by exact ⟨kb4, kw4⟩) ?_; try simp only [Act.put, List.getElem_toArray, List.getElem_cons_zero, List.getElem_cons_succ, List.setIfInBounds_toArray, List.set_cons_zero, List.set_cons_succ])))
          (simp only [wpI])
          have h13 := h12.drop.drop
          have kn : w12.cell? ⟨nB, 0, none⟩ = some (.int .i64 pre.length) := (h13.mv 4).cell 0
          have fn := (h13.mv 4).frozen 0
          have h14 := ((h13.mv 4).st 0 (.int .i64 ((pre.length : Int) + 1))).arr [3, 4, 2, 0, 1]
          (try dsimp only [Go.Own.front, Go.Own.arrA, Go.Own.atA, Go.Own.dropA, List.length_cons, List.length_nil, Nat.zero_add, Nat.reduceAdd] at h14)
          clear h10 h11 h12 h13 PL PAX PE kb kw kb2 kw2 kb3 kw3 kb4 kw4
          gi_wp2
          refine ⟨_, ⟨S3, _, HH3.out, ?_⟩, h14⟩
          rw [List.length_append]; rfl

        · have hat2 : ((pre.length : Int) == at_) = false := by simpa using hat
          clear hat
          gi_wp2
          have H3 := H1
          have h9 := hV.arr [4, 2, 0, 1, 3]
          (try dsimp only [Go.Own.front, Go.Own.arrA, Go.Own.atA, Go.Own.dropA, List.length_cons, List.length_nil, Nat.zero_add, Nat.reduceAdd] at h9)

          have PL := listed_two H3 b W2.drew _ (h9.drew.mv 1)
          have PAX := fun w L h => rall_two H3 r w L h
          have PE := fun ao bo ac bc w L h => entries_ok (allTo S1.base S1.rows S1.rows.length) ao bo ac bc (by rw [H3.allLen]; have := H3.n9; omega) w L h
          have HH3 := Lib.hid H3
          generalize allTo S1.base S1.rows S1.rows.length = zs3 at PL PAX PE
          have kb := (h9.drew.mv 7).cell 0
          have kw := (h9.drew.mv 8).cell 0
          clear H3 h9 hV
          refine wpIn_region_I (ro := some l) (fun W => W.cell? ⟨pb, 0, none⟩ = some (.pointer (some ⟨b, 0, none⟩)) ∧ W.cell? ⟨pw, 0, none⟩ = some (.pointer (some ⟨r, 0, none⟩))) [0, 2] [] [5] [0, 2, 1, 3, 4, 5] (by kernel_rfl) (by kernel_rfl) ?_
          (repeat (first | (refine wpI_st (v := ?_) _ (by rfl) (by rfl) (by rfl) (fun W hW => ?_) (by exact ⟨kb, kw⟩) ?_; (rotate_left; (focus ((try dsimp only at hW); go_simp; (try with_reducible rfl); done))); try simp only [Act.put, List.getElem_toArray, List.getElem_cons_zero, List.getElem_cons_succ, List.setIfInBounds_toArray, List.set_cons_zero, List.set_cons_succ]) | (refine wpI_pu (v := ?_) _ (by rfl) (by rfl) (by rfl) (by rfl) (fun W => ?_) ?_; (rotate_left; (focus ((try dsimp only at hW); go_simp; (try with_reducible rfl); done))); try simp only [Act.put, List.getElem_toArray, List.getElem_cons_zero, List.getElem_cons_succ, List.setIfInBounds_toArray, List.set_cons_zero, List.set_cons_succ]) | (refine wpI_no _ (by rfl) (by rfl) (by rfl) (by rfl) ?_; try simp only [Act.put, List.getElem_toArray, List.getElem_cons_zero, List.getElem_cons_succ, List.setIfInBounds_toArray, List.set_cons_zero, List.set_cons_succ]) | (refine wpI_noS _ (by rfl) (by rfl) (by rfl) (by exact ⟨kb, kw⟩) ?_; try simp only [Act.put, List.getElem_toArray, List.getElem_cons_zero, List.getElem_cons_succ, List.setIfInBounds_toArray, List.set_cons_zero, List.set_cons_succ])))
          refine wpI_eff _ (by rfl) (by rfl) (by rfl) (by rfl) (fun K hK => ?_)
          refine oper_in (Q' := NoQ) rfl ?_
          go_simp
          refine PL.mono ?_
          rintro e w10 ⟨a10, c10, rfl, h10⟩
          dsimp only
          have kb2 := (h10.mv 8).cell 0
          have kw2 := (h10.mv 9).cell 0
          (refine hK _ _ (fun hl => ?_) ?_; (first | (focus (cases hl; done)) | exact ⟨kb2, kw2⟩); clear hK K; try simp only [Act.put, List.getElem_toArray, List.getElem_cons_zero, List.getElem_cons_succ, List.setIfInBounds_toArray, List.set_cons_zero, List.set_cons_succ])
          refine wpI_eff _ (by rfl) (by rfl) (by rfl) (by rfl) (fun K hK => ?_)
          refine oper_in (Q' := NoQ) rfl ?_
          go_simp
          refine (PAX w10 _ (h10.mv 2)).mono ?_
          rintro e w11 ⟨a11, c11, rfl, h11⟩
          dsimp only
          have kb3 := (h11.mv 9).cell 0
          have kw3 := (h11.mv 10).cell 0
          (refine hK _ _ (fun hl => ?_) ?_; (first | (focus (cases hl; done)) | exact ⟨kb3, kw3⟩); clear hK K; try simp only [Act.put, List.getElem_toArray, List.getElem_cons_zero, List.getElem_cons_succ, List.setIfInBounds_toArray, List.set_cons_zero, List.set_cons_succ])
          refine wpI_eff _ (by rfl) (by rfl) (by rfl) (by rfl) (fun K hK => ?_)
          refine oper_in (Q' := NoQ) rfl ?_
          go_simp
          refine (PE a10 a11 c10 c11 w11 _ (h11.arr [2, 0, 1])).mono ?_
          rintro e w12 ⟨rfl, h12⟩
          dsimp only
          have kb4 := (h12.mv 9).cell 0
          have kw4 := (h12.mv 10).cell 0
          (refine hK _ _ (fun hl => ?_) ?_; (first | (focus (cases hl; done)) | exact ⟨kb4, kw4⟩); clear hK K; try simp only [Act.put, List.getElem_toArray, List.getElem_cons_zero, List.getElem_cons_succ, List.setIfInBounds_toArray, List.set_cons_zero, List.set_cons_succ])
          (repeat (first | (refine wpI_st (v := ?_) _ (by rfl) (by rfl) (by rfl) (fun W hW => ?_) (by exact ⟨kb4, kw4⟩) ?_; (rotate_left; (focus ((try dsimp only at hW); go_simp; (try with_reducible rfl); done))); try simp only [Act.put, List.getElem_toArray, List.getElem_cons_zero, List.getElem_cons_succ, List.setIfInBounds_toArray, List.set_cons_zero, List.set_cons_succ]) | (refine wpI_pu (v := ?_) _ (by rfl) (by rfl) (by rfl) (by rfl) (fun W => ?_) ?_; (rotate_left; (focus ((try dsimp only at hW); go_simp; (try with_reducible rfl); done))); try simp only [Act.put, List.getElem_toArray, List.getElem_cons_zero, List.getElem_cons_succ, List.setIfInBounds_toArray, List.set_cons_zero, List.set_cons_succ]) | (refine wpI_no _ (by rfl) (by rfl) (by rfl) (by rfl) ?_; try simp only [Act.put, List.getElem_toArray, List.getElem_cons_zero, List.getElem_cons_succ, List.setIfInBounds_toArray, List.set_cons_zero, List.set_cons_succ]) | (refine wpI_noS _ (by rfl) (by rfl) (by rfl) (by exact ⟨kb4, kw4⟩) ?_; try simp only [Act.put, List.getElem_toArray, List.getElem_cons_zero, List.getElem_cons_succ, List.setIfInBounds_toArray, List.set_cons_zero, List.set_cons_succ])))
          (simp only [wpI])
          have h13 := h12.drop.drop
          have kn : w12.cell? ⟨nB, 0, none⟩ = some (.int .i64 pre.length) := (h13.mv 4).cell 0
          have fn := (h13.mv 4).frozen 0
          have h14 := ((h13.mv 4).st 0 (.int .i64 ((pre.length : Int) + 1))).arr [3, 4, 2, 0, 1]
          (try dsimp only [Go.Own.front, Go.Own.arrA, Go.Own.atA, Go.Own.dropA, List.length_cons, List.length_nil, Nat.zero_add, Nat.reduceAdd] at h14)
          clear h10 h11 h12 h13 PL PAX PE kb kw kb2 kw2 kb3 kw3 kb4 kw4
          gi_wp2
          refine ⟨_, ⟨S1, _, HH3.out, ?_⟩, h14⟩
          rw [List.length_append]; rfl

      case done =>
        rintro D M W ⟨S1, T1, H1, rfl⟩ hW
        rw [hxs] at hW
        subst hLL
        clear h13 kb hxs H
        have kn : W.cell? ⟨nB, 0, none⟩ = some (.int .i64 xs.length) := (hW.mv 3).cell 0
        have kwB : W.cell? ⟨wB, 0, none⟩ = some (.slice wo xs.length wc) := (hW.mv 5).cell 0
        have kw : W.cell? ⟨pw, 0, none⟩ = some (.pointer (some ⟨r, 0, none⟩)) := (hW.mv 8).cell 0
        have PA := rall_two H1 r W _ (hW.mv 4)
        have HX := H1.allLen
        have hn9 := H1.n9
        generalize hys : allTo S1.base S1.rows S1.rows.length = ys at PA HX
        have hyl : (ys.length : Int) ≤ 65536 := by omega
        clear HX hn9 hW
        go_upto_region 31 with (go_at_call 20; refine PA.mono ?_; clear PA; rintro e w14 ⟨oo, oc, rfl, h14⟩)
        have h15 := h14.box 53 [.slice oo ys.length oc]
        refine gen_world h15 (fun w15 h15 => ?_)
        generalize w14.heap.size = oB at *
        have h16 := (h15.box 3 [.int .i64 0]).arr [5, 6, 0, 1, 2, 4, 3]
        (try dsimp only [Go.Own.front, Go.Own.arrA, Go.Own.atA, Go.Own.dropA, List.length_cons, List.length_nil, Nat.zero_add, Nat.reduceAdd] at h16)
        clear h14 h15 kn kwB kw
        go_upto_region 32 with (fail)
        refine gen_world h16 (fun w16 h16 => ?_)
        generalize w15.heap.size = mB at *
        go_wp2
        refine wp_rangeFunc_h (gf := 33) (lb := #[.pointer (some ⟨B, 0, none⟩)]) (L := cellsA mB 3 [.int .i64 0] :: cellsA oB 53 [.slice oo ys.length oc] :: rowA 59 2 oo ys.length oc (ents ys) :: objA D (.deferred (some [])) :: rfA r T1 :: cellsA nB 3 [.int .i64 xs.length] :: cellsA wB 53 [.slice wo xs.length wc] :: rowA 59 2 wo xs.length wc (ents xs) :: cellsA pb 25 [.pointer (some ⟨b, 0, none⟩)] :: cellsA pw 46 [.pointer (some ⟨r, 0, none⟩)] :: cellsA qr 4 [.bool false] :: cellsA qa 3 [.int .i64 at_] :: seA q d lo hi cp :: C :: L) rfl (enters_of Try.func33 (by kernel_rfl) rfl) (gives_ok B b S1 H1.c1 H1.good.len H1.short H1.fit.t64) (fun _ => rfl) h16
          (fun pre M => M = cellsA B 25 [.pointer (some ⟨b, 0, none⟩)] :: bkA b S1 :: cellsA mB 3 [.int .i64 pre.length] :: cellsA oB 53 [.slice oo ys.length oc] :: rowA 59 2 oo ys.length oc (ents ys) :: objA D (.deferred (some [])) :: rfA r T1 :: cellsA nB 3 [.int .i64 xs.length] :: cellsA wB 53 [.slice wo xs.length wc] :: rowA 59 2 wo xs.length wc (ents xs) :: cellsA pb 25 [.pointer (some ⟨b, 0, none⟩)] :: cellsA pw 46 [.pointer (some ⟨r, 0, none⟩)] :: cellsA qr 4 [.bool false] :: cellsA qa 3 [.int .i64 at_] :: seA q d lo hi cp :: C :: L)
          (fun c _ M => c = .exit 4 ∧ ∃ mv : Int, M = cellsA B 25 [.pointer (some ⟨b, 0, none⟩)] :: bkA b S1 :: cellsA mB 3 [.int .i64 mv] :: cellsA oB 53 [.slice oo ys.length oc] :: rowA 59 2 oo ys.length oc (ents ys) :: objA D (.deferred (some [])) :: rfA r T1 :: cellsA nB 3 [.int .i64 xs.length] :: cellsA wB 53 [.slice wo xs.length wc] :: rowA 59 2 wo xs.length wc (ents xs) :: cellsA pb 25 [.pointer (some ⟨b, 0, none⟩)] :: cellsA pw 46 [.pointer (some ⟨r, 0, none⟩)] :: cellsA qr 4 [.bool false] :: cellsA qa 3 [.int .i64 at_] :: seA q d lo hi cp :: C :: L)
          rfl ?kp2 ?round2 ?done2 ?stop2
        case kp2 =>
          rintro pre M W (rfl | ⟨_, -, _, rfl⟩) hW
          · exact kpB (M := []) hW
          · exact kpB (M := []) hW
        case round2 =>
          rintro l pre x rest W G M hx rfl hW
          rw [hys] at hx
          have hpl : pre.length < ys.length := by rw [hx]; simp
          have hpi : (pre.length : Int) < ys.length := by omega
          have hp0 : 0 ≤ (pre.length : Int) := by omega
          have hbx : bk ys pre.length = x.1 ∧ (ys.getD pre.length (0, 0)).2 = x.2 := by rw [hx]; simp [bk, List.getD]
          dsimp only [encE, List.zip, List.zipWith, List.foldl]
          gi_wp2
          refine ⟨_, hW, fun W2 G2 hV => ?_⟩
          clear hW hx h16
          obtain ⟨ab, ap, rfl, hca, -⟩ := (hV.mv 5).at (by omega)
          obtain ⟨e1, e2⟩ := ents_at hpl
          have v1 : W2.cell? ⟨ab, ap + pre.length * 2, none⟩ = some (.int .i64 x.1) := by rw [hca (pre.length * 2) (by omega), Nat.mul_comm, e1, hbx.1]
          have v2 : W2.cell? ⟨ab, ap + pre.length * 2 + 1, none⟩ = some (.int .i64 x.2) := by rw [Nat.add_assoc, hca (pre.length * 2 + 1) (by omega), Nat.mul_comm, e2, hbx.2]
          have vm : W2.cell? ⟨mB, 0, none⟩ = some (.int .i64 pre.length) := (hV.mv 3).cell 0
          have fm := (hV.mv 3).frozen 0
          have vo : W2.cell? ⟨oB, 0, none⟩ = some (.slice (some ⟨ab, ap, none⟩) ys.length oc) := (hV.mv 4).cell 0
          have va : W2.cell? ⟨qa, 0, none⟩ = some (.int .i64 at_) := (hV.mv 14).cell 0
          clear hca e1 e2 hbx
          by_cases hat : (pre.length : Int) = at_
          · have hat2 : ((pre.length : Int) == at_) = true := by simpa using hat
            clear hat
            gi_wp2
            exact ⟨_, ⟨rfl, pre.length, rfl⟩, hV⟩
          · have hat2 : ((pre.length : Int) == at_) = false := by simpa using hat
            clear hat
            have h14 := ((hV.mv 3).st 0 (.int .i64 ((pre.length : Int) + 1))).arr [1, 2, 3, 0]
            (try dsimp only [Go.Own.front, Go.Own.arrA, Go.Own.atA, Go.Own.dropA, List.length_cons, List.length_nil, Nat.zero_add, Nat.reduceAdd] at h14)
            gi_wp2
            refine ⟨_, rfl, ?_⟩
            rw [List.length_append]
            exact h14
        case done2 =>
          rintro D2 M W rfl hW
          have PL := live_ok W _ hW
          clear hW h16
          go_wp2_with (go_at_call 11; refine PL.mono ?_; clear PL; rintro e w16 ⟨rfl, h16⟩; have cr : w16.cell? ⟨qr, 0, none⟩ = some (.bool false) := (h16.mv 13).cell 0; have fr := (h16.mv 13).frozen 0)
          have h17 := (h16.mv 13).st 0 (.bool true)
          refine leaves_mark (D := D2) (h17.mv 1) (fun W' h' => leaves_mark (D := D) (h'.mv 6) (fun W3 h3 => leaves_end (res_bool h3 ⟨_, rfl⟩ (by rfl) (by rfl)) ⟨rfl, ?_⟩))
          exact h3.drop.drop.drop.drop.drop.drop.drop.drop.drop.drop.drop.drop.drop.drop
        case stop2 =>
          rintro D2 c pre M W - ⟨rfl, mv, rfl⟩ hW
          have PL := live_ok W _ hW
          clear hW h16
          go_wp2_with (go_at_call 11; refine PL.mono ?_; clear PL; rintro e w16 ⟨rfl, h16⟩; have cr : w16.cell? ⟨qr, 0, none⟩ = some (.bool false) := (h16.mv 13).cell 0; have fr := (h16.mv 13).frozen 0)
          have h17 := (h16.mv 13).st 0 (.bool true)
          refine leaves_mark (D := D2) (h17.mv 1) (fun W' h' => leaves_mark (D := D) (h'.mv 6) (fun W3 h3 => leaves_end (res_bool h3 ⟨_, rfl⟩ (by rfl) (by rfl)) ⟨rfl, ?_⟩))
          exact h3.drop.drop.drop.drop.drop.drop.drop.drop.drop.drop.drop.drop.drop.drop
      case stop => exact fun _ _ _ _ _ _ h => h.elim

theorem left_walk (d lo hi cp at_ : Int) (hat : I64 at_) (hlo : I64 lo) (hhi : I64 hi) (zs : List Int) (hzs : ∀ z ∈ zs, I64 z) (C : Asn) (ao : Option Addr) (n cap : Nat) (hR : Reads C 3 (.slice ao n cap) n (is zs)) (hz : zs.length = n * 3) (hn9 : n * 24 ≤ 140737488351232) (w : World) (L : List Asn) (h : Hold w (C :: L)) :
    Calls Try.prog 6 #[.agg #[.int .i64 d, .int .i64 lo, .int .i64 hi, .int .i64 cp], .slice ao n cap, .int .i64 at_] w fun e w' => e = .returned (.bool true) ∧ Hold w' (C :: L) := by
  by_cases hbad : newE d lo hi cp = 0
  · have hg : (1 ≤ d ∧ d ≤ 65536) ∧ lo ≤ hi ∧ 1 ≤ cp ∧ cp ≤ 65536 ∧ hi / d - lo / d < 65536 := by
      unfold newE at hbad
      split at hbad
      · cases hbad
      · split at hbad
        · cases hbad
        · split at hbad
          · cases hbad
          · omega
    obtain ⟨⟨g1, g2⟩, g3, g4, g5, g6⟩ := hg
    exact left_good d lo hi cp at_ hat g1 g2 hlo hhi g3 g4 g5 g6 zs hzs C ao n cap hR hz hn9 w L h
  · exact left_bad d lo hi cp at_ hlo hhi hbad _ w _ h

end Go.Proofs.Ytpffofliemooiaa
