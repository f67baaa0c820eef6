/- Contracts: Put. -/
import Derived.Test.YtpffofliemooiaaBuE
import Derived.Laws.Cover1
open Go.RowKit Go.Own
namespace Go.Proofs.Ytpffofliemooiaa

/-- One more in a bucket. -/
def addS (S : BS) (j : Nat) (id : Int) : BS := { S with low := min (if S.n = 0 then j else S.low) j, top := max (if S.n = 0 then j else S.top) j, rows := S.rows.set j (S.rows.getD j [] ++ [id]), n := S.n + 1 }
/-- The oldest of the lowest bucket goes. -/
def cutS (S : BS) : BS := { S with low := loAt S.rows S.low, rows := S.rows.set (loAt S.rows S.low) (S.rows.getD (loAt S.rows S.low) []).tail, n := S.n - 1, mark := if S.marked = false ∨ S.mark < loAt S.rows S.low + S.base then loAt S.rows S.low + S.base else S.mark, marked := true }
def outS (S : BS) : Int := (S.rows.getD (loAt S.rows S.low) []).headD 0
theorem is_append (x y : List Int) : is (x ++ y) = is x ++ is y := by simp [is]

theorem none_any (b : Nat) (S : BS) (hc : 1 ≤ S.cp) (w : World) (v : Value) (L : List Asn) (h : Hold w (cellsA b 67 (S.cells v) :: L)) :
    Calls Try.prog 29 #[.pointer (some ⟨b, 0, none⟩)] w fun e w' => e = .returned (.bool false) ∧ w = w' :=
  none_ok b S hc w (h.cell 3)

set_option maxHeartbeats 4000000 in
set_option maxRecDepth 20000 in
theorem put_ok (b : Nat) (S : BS) (hc : 1 ≤ S.cp) (m id : Int) (hm : I64 m) (hd : 1 ≤ S.d) (hlo : S.lo ≤ m) (hhi : m ≤ S.hi) (j : Nat) (hj : m / S.d - S.base = j) (hjr : j < S.rows.length) (hR : S.rows.length ≤ 65536) (hn : (S.n : Int) ≤ 65536) (hcn : (S.n : Int) < S.cp)
    (hx : ∀ xs ∈ S.rows, xs.length ≤ 65536) (hlt : S.low < S.rows.length ∧ S.top < S.rows.length) (w : World) (L : List Asn) (h : Hold w (bkA b S :: L)) :
    Calls Try.prog 12 #[.pointer (some ⟨b, 0, none⟩), .int .i64 m, .int .i64 id] w fun e w' => e = .returned (.tuple #[.int .i64 0, .bool false, .int .i64 0]) ∧ Hold w' (bkA b (addS S j id) :: L) := by
  obtain ⟨i3, hi3, hz0, hz1, hz2⟩ := info_parts info3
  obtain ⟨ro, rc, vs, hl, h1⟩ := bk_open h
  have PI := fun w => index_ok m S.d hm hd w
  have PN := none_any b S hc w _ _ h1
  obtain ⟨xs, hxs⟩ : ∃ xs, S.rows[j]? = some xs := ⟨S.rows[j], List.getElem?_eq_getElem hjr⟩
  have hgd : S.rows.getD j [] = xs := by simp [List.getD, hxs]
  have hxl : xs.length ≤ 65536 := hx xs (List.mem_of_getElem? hxs)
  obtain ⟨v, hv1, hv2, hv3⟩ := sl_get hl hxs
  have hsl := sl_length hl
  have hrl := rws_length hl
  obtain ⟨iv, hiv⟩ : ∃ iv, iv = m / S.d := ⟨_, rfl⟩
  rw [← hiv] at PI hj
  have W1 : IntKind.i64.wrap (iv - S.base) = j := by rw [hj]; exact IntWalk.i64_in _ (by omega)
  clear hiv hj
  have HS1 := Lib.hid hsl
  have HS2 := Lib.hid hrl
  have HV2 := Lib.hid hv2
  have HV3 := Lib.hid hv3
  have HGD := Lib.hid hgd
  have HL := Lib.hid hl
  clear hsl hrl hv2 hv3 hgd hl hxs hv1 hx
  obtain ⟨g0, g1, g2, g3, g4, g5, g6, g7, g8, g9, g10⟩ := bkM h1
  go_enter Try.func12, Try.ntmps12
  go_upto_region 5 with (go_at_call 29; refine PN.mono ?_; rintro e w1 ⟨rfl, rfl⟩)
  have hS := h1.drew
  refine wp_region_Z (fun W => W.cell? ⟨b, 0, none⟩ = some (.int .i64 S.d) ∧ W.cell? ⟨b, 4, none⟩ = some (.int .i64 S.base)) [4, 9] [] [0, 1, 2, 3, 6, 7, 8, 10, 11] [0, 1, 2, 3, 4, 6, 7, 8, 9, 5, 10, 11] (by kernel_rfl) (by kernel_rfl) ?_
  (repeat (first | (refine wpZ_st (v := ?_) _ (by rfl) (by rfl) (by rfl) (fun W hW => ?_) (by exact ⟨hS.cell 0, hS.cell 4⟩) ?_; (rotate_left; (focus ((try dsimp only at hW); go_simp; (try with_reducible rfl); done))); try simp only [Act.put, List.getElem_toArray, List.getElem_cons_zero, List.getElem_cons_succ, List.setIfInBounds_toArray, List.set_cons_zero, List.set_cons_succ]) | (refine wpZ_pu (v := ?_) _ (by rfl) (by rfl) (by rfl) (by rfl) (fun W => ?_) ?_; (rotate_left; (focus ((try dsimp only at hW); go_simp; (try with_reducible rfl); done))); try simp only [Act.put, List.getElem_toArray, List.getElem_cons_zero, List.getElem_cons_succ, List.setIfInBounds_toArray, List.set_cons_zero, List.set_cons_succ]) | (refine wpZ_no _ (by rfl) (by rfl) (by rfl) (by rfl) ?_; try simp only [Act.put, List.getElem_toArray, List.getElem_cons_zero, List.getElem_cons_succ, List.setIfInBounds_toArray, List.set_cons_zero, List.set_cons_succ]) | (refine wpZ_noS _ (by rfl) (by rfl) (by rfl) (by exact ⟨hS.cell 0, hS.cell 4⟩) ?_; try simp only [Act.put, List.getElem_toArray, List.getElem_cons_zero, List.getElem_cons_succ, List.setIfInBounds_toArray, List.set_cons_zero, List.set_cons_succ])))
  refine wpZ_eff _ (by rfl) (by rfl) (by rfl) (by rfl) (fun K hK => ?_)
  go_simp
  refine (PI _).mono ?_
  rintro e w2 ⟨rfl, rfl⟩
  dsimp only
  (refine hK _ _ (fun hl => ?_) ?_; (first | (focus (cases hl; done)) | exact ⟨hS.cell 0, hS.cell 4⟩); clear hK K; try simp only [Act.put, List.getElem_toArray, List.getElem_cons_zero, List.getElem_cons_succ, List.setIfInBounds_toArray, List.set_cons_zero, List.set_cons_succ])
  (repeat (first | (refine wpZ_st (v := ?_) _ (by rfl) (by rfl) (by rfl) (fun W hW => ?_) (by exact ⟨hS.cell 0, hS.cell 4⟩) ?_; (rotate_left; (focus ((try dsimp only at hW); go_simp; (try with_reducible rfl); done))); try simp only [Act.put, List.getElem_toArray, List.getElem_cons_zero, List.getElem_cons_succ, List.setIfInBounds_toArray, List.set_cons_zero, List.set_cons_succ]) | (refine wpZ_pu (v := ?_) _ (by rfl) (by rfl) (by rfl) (by rfl) (fun W => ?_) ?_; (rotate_left; (focus ((try dsimp only at hW); go_simp; (try with_reducible rfl); done))); try simp only [Act.put, List.getElem_toArray, List.getElem_cons_zero, List.getElem_cons_succ, List.setIfInBounds_toArray, List.set_cons_zero, List.set_cons_succ]) | (refine wpZ_no _ (by rfl) (by rfl) (by rfl) (by rfl) ?_; try simp only [Act.put, List.getElem_toArray, List.getElem_cons_zero, List.getElem_cons_succ, List.setIfInBounds_toArray, List.set_cons_zero, List.set_cons_succ]) | (refine wpZ_noS _ (by rfl) (by rfl) (by rfl) (by exact ⟨hS.cell 0, hS.cell 4⟩) ?_; try simp only [Act.put, List.getElem_toArray, List.getElem_cons_zero, List.getElem_cons_succ, List.setIfInBounds_toArray, List.set_cons_zero, List.set_cons_succ])))
  (simp only [wpZ])
  clear W1 PI PN h
  go_upto_if 44 with (fail)
  go_cut [47] (fun _ wc => Hold wc (cellsA b 67 ({ S with low := if S.n = 0 then j else S.low, top := if S.n = 0 then j else S.top }.cells (.slice ro S.rows.length rc)) :: rowA 24 1 ro S.rows.length rc (sl S.rows vs) :: starL (rws S.rows vs) :: L))
  case first =>
    by_cases h0 : S.n = 0
    · have f7 := h1.frozen 7
      have f8 := h1.frozen 8
      have HX := ((h1.st 7 (.int .i64 j)).st 8 (.int .i64 j)).drew
      have h00 : ((S.n : Int) == 0) = true := by rw [h0]; rfl
      have H0 := Lib.hid h0
      clear h0
      go_wp2
      go_meet
      rw [if_pos H0.out, if_pos H0.out]
      exact HX
    · have h00 : ((S.n : Int) == 0) = false := by rw [beq_eq_false_iff_ne]; omega
      have H0 := Lib.hid h0
      clear h0
      go_wp2
      go_meet
      rw [if_neg H0.out, if_neg H0.out]
      exact hS
  case rest =>
    clear g0 g1 g2 g3 g4 g5 g6 g7 g8 g9 g10
    generalize hl0 : (if S.n = 0 then j else S.low) = l0 at *
    generalize ht0 : (if S.n = 0 then j else S.top) = t0 at *
    have hl0b : l0 < S.rows.length := by rw [← hl0]; split <;> omega
    have ht0b : t0 < S.rows.length := by rw [← ht0]; split <;> omega
    have HL0 := Lib.hid hl0
    have HT0 := Lib.hid ht0
    have hmin : ∀ w, (Builtin.min_ #[3, 3] 3 #[.int .i64 l0, .int .i64 j]).run Try.prog w = .ok (.int .i64 (min l0 j : Nat)) w := fun w => by
      rw [Go.run_min_int2]; congr 2; split <;> omega
    have hmax : ∀ w, (Builtin.max_ #[3, 3] 3 #[.int .i64 t0, .int .i64 j]).run Try.prog w = .ok (.int .i64 (max t0 j : Nat)) w := fun w => by
      rw [Go.run_max_int2]; congr 2; split <;> omega
    clear hl0 ht0 hS
    have hS := hcut.drew
    obtain ⟨g0, g1, g2, g3, g4, g5, g6, g7, g8, g9, g10⟩ := bkM hcut
    have f7 := hcut.frozen 7
    have f8 := hcut.frozen 8
    have HX := ((hcut.st 7 (.int .i64 (min l0 j : Nat))).st 8 (.int .i64 (max t0 j : Nat))).drew
    go_upto_region 8 with (fail)
    refine wp_region_Z (fun W => W.cell? ⟨b, 7, none⟩ = some (.int .i64 l0) ∧ W.cell? ⟨b, 8, none⟩ = some (.int .i64 t0)) [5, 11] [16, 19] [0, 1, 2, 3, 4, 6, 7, 8, 9, 10, 12, 13, 14, 15, 17, 18] [0, 1, 2, 3, 4, 5, 6, 7, 8, 9, 10, 11, 12, 13, 14, 15, 16, 17, 18, 19] (by kernel_rfl) (by kernel_rfl) ?_
    (repeat (first | (refine wpZ_st (v := ?_) _ (by rfl) (by rfl) (by rfl) (fun W hW => ?_) (by exact ⟨g7, g8⟩) ?_; (rotate_left; (focus ((try dsimp only at hW); go_simp; (try with_reducible rfl); done))); try simp only [Act.put, List.getElem_toArray, List.getElem_cons_zero, List.getElem_cons_succ, List.setIfInBounds_toArray, List.set_cons_zero, List.set_cons_succ]) | (refine wpZ_pu (v := ?_) _ (by rfl) (by rfl) (by rfl) (by rfl) (fun W => ?_) ?_; (rotate_left; (focus ((try dsimp only at hW); go_simp; (try with_reducible rfl); done))); try simp only [Act.put, List.getElem_toArray, List.getElem_cons_zero, List.getElem_cons_succ, List.setIfInBounds_toArray, List.set_cons_zero, List.set_cons_succ]) | (refine wpZ_no _ (by rfl) (by rfl) (by rfl) (by rfl) ?_; try simp only [Act.put, List.getElem_toArray, List.getElem_cons_zero, List.getElem_cons_succ, List.setIfInBounds_toArray, List.set_cons_zero, List.set_cons_succ]) | (refine wpZ_noS _ (by rfl) (by rfl) (by rfl) (by exact ⟨g7, g8⟩) ?_; try simp only [Act.put, List.getElem_toArray, List.getElem_cons_zero, List.getElem_cons_succ, List.setIfInBounds_toArray, List.set_cons_zero, List.set_cons_succ])))
    (refine wpZ_eff _ (by rfl) (by rfl) (by rfl) (by rfl) (fun K hK => ?_); go_simp; refine hK _ _ (fun hl => ?_) ?_; (first | (focus (cases hl; done)) | trivial); clear hK K; try simp only [Act.put, List.getElem_toArray, List.getElem_cons_zero, List.getElem_cons_succ, List.setIfInBounds_toArray, List.set_cons_zero, List.set_cons_succ])
    (repeat (first | (refine wpZ_st (v := ?_) _ (by rfl) (by rfl) (by rfl) (fun W hW => ?_) (by exact ⟨g7, g8⟩) ?_; (rotate_left; (focus ((try dsimp only at hW); go_simp; (try with_reducible rfl); done))); try simp only [Act.put, List.getElem_toArray, List.getElem_cons_zero, List.getElem_cons_succ, List.setIfInBounds_toArray, List.set_cons_zero, List.set_cons_succ]) | (refine wpZ_pu (v := ?_) _ (by rfl) (by rfl) (by rfl) (by rfl) (fun W => ?_) ?_; (rotate_left; (focus ((try dsimp only at hW); go_simp; (try with_reducible rfl); done))); try simp only [Act.put, List.getElem_toArray, List.getElem_cons_zero, List.getElem_cons_succ, List.setIfInBounds_toArray, List.set_cons_zero, List.set_cons_succ]) | (refine wpZ_no _ (by rfl) (by rfl) (by rfl) (by rfl) ?_; try simp only [Act.put, List.getElem_toArray, List.getElem_cons_zero, List.getElem_cons_succ, List.setIfInBounds_toArray, List.set_cons_zero, List.set_cons_succ]) | (refine wpZ_noS _ (by rfl) (by rfl) (by rfl) (by exact ⟨g7, g8⟩) ?_; try simp only [Act.put, List.getElem_toArray, List.getElem_cons_zero, List.getElem_cons_succ, List.setIfInBounds_toArray, List.set_cons_zero, List.set_cons_succ])))
    (refine wpZ_eff _ (by rfl) (by rfl) (by rfl) (by rfl) (fun K hK => ?_); go_simp; refine hK _ _ (fun hl => ?_) ?_; (first | (focus (cases hl; done)) | trivial); clear hK K; try simp only [Act.put, List.getElem_toArray, List.getElem_cons_zero, List.getElem_cons_succ, List.setIfInBounds_toArray, List.set_cons_zero, List.set_cons_succ])
    (simp only [wpZ])
    have HX1 : Hold _ (cellsA b 67 ({ S with low := min l0 j, top := max t0 j }.cells (.slice ro S.rows.length rc)) :: rowA 24 1 ro S.rows.length rc (sl S.rows vs) :: starL (rws S.rows vs) :: L) := HX
    clear HX hS g0 g1 g2 g3 g4 g5 g6 g7 g8 g9 g10 f7 f8 hmin hmax hcut
    go_upto_region 9 with (fail)
    refine gen_world HX1 (fun wd HX1 => ?_)
    have ho := (HX1.mv 2).out HV3.out
    (try dsimp only [Go.Own.front, Go.Own.arrA, Go.Own.atA, Go.Own.dropA, List.length_cons, List.length_nil, Nat.zero_add, Nat.reduceAdd] at ho)
    obtain ⟨rb, ro2, rfl, hct, hft⟩ := (HX1.mv 1).at (by omega)
    have F : ∀ W A R, Hold W (A :: R :: cellsA b 67 ({ S with low := min l0 j, top := max t0 j }.cells (.slice (some ⟨rb, ro2, none⟩) S.rows.length rc)) :: rowA 24 1 (some ⟨rb, ro2, none⟩) S.rows.length rc (sl S.rows vs) :: L) → W.cell? ⟨b, 5, none⟩ = some (.slice (some ⟨rb, ro2, none⟩) S.rows.length rc) ∧ W.cell? ⟨rb, ro2 + j, none⟩ = some (.slice v.1 xs.length v.2) ∧ W.frozen? ⟨rb, ro2 + j, none⟩ = false := fun W A R hW => by
      obtain ⟨rb', ro', he, hct', hft'⟩ := (hW.mv 3).at (by omega)
      simp only [Option.some.injEq, Addr.mk.injEq, and_true] at he
      obtain ⟨rfl, rfl⟩ := he
      exact ⟨(hW.mv 2).cell 5, by rw [hct' j (by omega)]; exact HV2.out, hft' _⟩
    have hji : (j : Int) < S.rows.length := by omega
    have hj0 : 0 ≤ (j : Int) := by omega
    clear hct hft
    have hS := ho.drew
    obtain ⟨c5, cj, -⟩ := F _ _ _ hS
    have HF := Lib.hid F
    have hS1 := hS.junk (.cells #[.int .i64 id] 3)
    obtain ⟨d5, dj, -⟩ := F _ _ _ hS1
    clear F
    refine wp_region_Z (fun W => W.cell? ⟨b, 5, none⟩ = some (.slice (some ⟨rb, ro2, none⟩) S.rows.length rc) ∧ W.cell? ⟨rb, ro2 + j, none⟩ = some (.slice v.1 xs.length v.2)) [3, 8, 11] [16] [0, 1, 2, 4, 5, 6, 7, 9, 10, 12, 15] [0, 1, 2, 3, 4, 5, 6, 7, 8, 9, 10, 11, 12, 13, 14, 15, 16] (by kernel_rfl) (by kernel_rfl) ?_
    (repeat (first | (refine wpZ_st (v := ?_) _ (by rfl) (by rfl) (by rfl) (fun W hW => ?_) (by exact ⟨c5, cj⟩) ?_; (rotate_left; (focus ((try dsimp only at hW); go_simp; (try with_reducible rfl); done))); try simp only [Act.put, List.getElem_toArray, List.getElem_cons_zero, List.getElem_cons_succ, List.setIfInBounds_toArray, List.set_cons_zero, List.set_cons_succ]) | (refine wpZ_pu (v := ?_) _ (by rfl) (by rfl) (by rfl) (by rfl) (fun W => ?_) ?_; (rotate_left; (focus ((try dsimp only at hW); go_simp; (try with_reducible rfl); done))); try simp only [Act.put, List.getElem_toArray, List.getElem_cons_zero, List.getElem_cons_succ, List.setIfInBounds_toArray, List.set_cons_zero, List.set_cons_succ]) | (refine wpZ_no _ (by rfl) (by rfl) (by rfl) (by rfl) ?_; try simp only [Act.put, List.getElem_toArray, List.getElem_cons_zero, List.getElem_cons_succ, List.setIfInBounds_toArray, List.set_cons_zero, List.set_cons_succ]) | (refine wpZ_noS _ (by rfl) (by rfl) (by rfl) (by exact ⟨c5, cj⟩) ?_; try simp only [Act.put, List.getElem_toArray, List.getElem_cons_zero, List.getElem_cons_succ, List.setIfInBounds_toArray, List.set_cons_zero, List.set_cons_succ])))
    (refine wpZ_eff _ (by rfl) (by rfl) (by rfl) (by rfl) (fun K hK => ?_); go_simp; refine hK _ _ (fun hl => ?_) ?_; (first | (focus (cases hl; done)) | exact ⟨d5, dj⟩); clear hK K; try simp only [Act.put, List.getElem_toArray, List.getElem_cons_zero, List.getElem_cons_succ, List.setIfInBounds_toArray, List.set_cons_zero, List.set_cons_succ])
    (repeat (first | (refine wpZ_st (v := ?_) _ (by rfl) (by rfl) (by rfl) (fun W hW => ?_) (by exact ⟨d5, dj⟩) ?_; (rotate_left; (focus ((try dsimp only at hW); go_simp; (try with_reducible rfl); done))); try simp only [Act.put, List.getElem_toArray, List.getElem_cons_zero, List.getElem_cons_succ, List.setIfInBounds_toArray, List.set_cons_zero, List.set_cons_succ]) | (refine wpZ_pu (v := ?_) _ (by rfl) (by rfl) (by rfl) (by rfl) (fun W => ?_) ?_; (rotate_left; (focus ((try dsimp only at hW); go_simp; (try with_reducible rfl); done))); try simp only [Act.put, List.getElem_toArray, List.getElem_cons_zero, List.getElem_cons_succ, List.setIfInBounds_toArray, List.set_cons_zero, List.set_cons_succ]) | (refine wpZ_no _ (by rfl) (by rfl) (by rfl) (by rfl) ?_; try simp only [Act.put, List.getElem_toArray, List.getElem_cons_zero, List.getElem_cons_succ, List.setIfInBounds_toArray, List.set_cons_zero, List.set_cons_succ]) | (refine wpZ_noS _ (by rfl) (by rfl) (by rfl) (by exact ⟨d5, dj⟩) ?_; try simp only [Act.put, List.getElem_toArray, List.getElem_cons_zero, List.getElem_cons_succ, List.setIfInBounds_toArray, List.set_cons_zero, List.set_cons_succ])))
    refine wpZ_eff _ (by rfl) (by rfl) (by rfl) (by rfl) (fun K hK => ?_)
    refine wp_append_one_h (w := wd.drew) _ _ 24 (by rfl) 3 i3 (.int .i64 0) 1 8 Try.underlying24 hi3 hz0 hz1 hz2 (by rfl) _ _ _ _ (by rfl) hS [.int .i64 id] (by rfl) ⟨rfl, rfl, rfl, rfl⟩ (by rfl) (by simp [Value.oneCell']) (by unfold maxLen; omega) (by omega) (fun ao3 cap3 w9 h9 hc9 => ?_)
    obtain ⟨e5, ej, fj⟩ := HF.out _ _ _ h9
    (refine hK _ _ (fun hl => ?_) ?_; (first | (focus (cases hl; done)) | exact ⟨e5, ej⟩); clear hK K; try simp only [Act.put, List.getElem_toArray, List.getElem_cons_zero, List.getElem_cons_succ, List.setIfInBounds_toArray, List.set_cons_zero, List.set_cons_succ])
    (repeat (first | (refine wpZ_st (v := ?_) _ (by rfl) (by rfl) (by rfl) (fun W hW => ?_) (by exact ⟨e5, ej⟩) ?_; (rotate_left; (focus ((try dsimp only at hW); go_simp; (try with_reducible rfl); done))); try simp only [Act.put, List.getElem_toArray, List.getElem_cons_zero, List.getElem_cons_succ, List.setIfInBounds_toArray, List.set_cons_zero, List.set_cons_succ]) | (refine wpZ_pu (v := ?_) _ (by rfl) (by rfl) (by rfl) (by rfl) (fun W => ?_) ?_; (rotate_left; (focus ((try dsimp only at hW); go_simp; (try with_reducible rfl); done))); try simp only [Act.put, List.getElem_toArray, List.getElem_cons_zero, List.getElem_cons_succ, List.setIfInBounds_toArray, List.set_cons_zero, List.set_cons_succ]) | (refine wpZ_no _ (by rfl) (by rfl) (by rfl) (by rfl) ?_; try simp only [Act.put, List.getElem_toArray, List.getElem_cons_zero, List.getElem_cons_succ, List.setIfInBounds_toArray, List.set_cons_zero, List.set_cons_succ]) | (refine wpZ_noS _ (by rfl) (by rfl) (by rfl) (by exact ⟨e5, ej⟩) ?_; try simp only [Act.put, List.getElem_toArray, List.getElem_cons_zero, List.getElem_cons_succ, List.setIfInBounds_toArray, List.set_cons_zero, List.set_cons_succ])))
    (refine wpZ_eff _ (by rfl) (by rfl) (by rfl) (by rfl) (fun K hK => ?_); go_simp; refine hK _ _ (fun hl => ?_) ?_; (first | (focus (cases hl; done)) | trivial); clear hK K; try simp only [Act.put, List.getElem_toArray, List.getElem_cons_zero, List.getElem_cons_succ, List.setIfInBounds_toArray, List.set_cons_zero, List.set_cons_succ])
    (simp only [wpZ])
    have HP := (h9.mv 3).put j (by omega) (.slice ao3 (xs.length + 1) cap3)
    have HQ := HP.arr [1, 2, 0, 3]
    (try dsimp only [Go.Own.front, Go.Own.arrA, Go.Own.atA, Go.Own.dropA, List.length_cons, List.length_nil, Nat.zero_add, Nat.reduceAdd] at HQ)
    have HT := HQ.back (by rw [HS2.out]; exact hjr)
    have hcl : (xs ++ [id]).length = xs.length + 1 := by simp
    have hia : is xs ++ [.int .i64 id] = is (xs ++ [id]) := by rw [is_append]; rfl
    rw [hia, ← hcl] at HT
    have e1 := rws_set S.rows vs j (xs ++ [id]) (ao3, cap3)
    have e2 := sl_set S.rows vs j (xs ++ [id]) (ao3, cap3)
    simp only at e1 e2
    rw [← e1, ← e2] at HT
    have HU := HT.arr [2, 1, 0]
    (try dsimp only [Go.Own.front, Go.Own.arrA, Go.Own.atA, Go.Own.dropA, List.length_cons, List.length_nil, Nat.zero_add, Nat.reduceAdd] at HU)
    clear HT HQ HP h9 e5 ej fj hia e1 e2 c5 cj d5 dj hS hS1 ho HX1
    rw [hcl] at HU
    go_upto_region 10 with (fail)
    refine gen_world HU (fun we HU => ?_)
    obtain ⟨g0, g1, g2, g3, g4, g5, g6, g7, g8, g9, g10⟩ := bkM HU
    have f6 := HU.frozen 6
    have HV := HU.st 6 (.int .i64 ((S.n : Int) + 1))
    have hn1 : (S.n : Int) + 1 ≤ S.cp := by omega
    have hn0 : 0 ≤ (S.n : Int) := by omega
    go_upto_region 11 with (fail)
    refine gen_world HV (fun wf HV => ?_)
    clear g0 g1 g2 g3 g4 g5 g6 g7 g8 g9 g10 f6 HU
    have hW := HV.drew
    refine wp_region_Z (fun W => W.cell? ⟨b, 6, none⟩ = some (.int .i64 ((S.n : Int) + 1)) ∧ W.cell? ⟨b, 3, none⟩ = some (.int .i64 S.cp)) [3, 7] [] [0, 1, 2, 4, 5, 6, 8] [0, 1, 2, 3, 4, 5, 6, 7, 8] (by kernel_rfl) (by kernel_rfl) ?_
    (repeat (first | (refine wpZ_st (v := ?_) _ (by rfl) (by rfl) (by rfl) (fun W hW => ?_) (by exact ⟨hW.cell 6, hW.cell 3⟩) ?_; (rotate_left; (focus ((try dsimp only at hW); go_simp; (try with_reducible rfl); done))); try simp only [Act.put, List.getElem_toArray, List.getElem_cons_zero, List.getElem_cons_succ, List.setIfInBounds_toArray, List.set_cons_zero, List.set_cons_succ]) | (refine wpZ_pu (v := ?_) _ (by rfl) (by rfl) (by rfl) (by rfl) (fun W => ?_) ?_; (rotate_left; (focus ((try dsimp only at hW); go_simp; (try with_reducible rfl); done))); try simp only [Act.put, List.getElem_toArray, List.getElem_cons_zero, List.getElem_cons_succ, List.setIfInBounds_toArray, List.set_cons_zero, List.set_cons_succ]) | (refine wpZ_no _ (by rfl) (by rfl) (by rfl) (by rfl) ?_; try simp only [Act.put, List.getElem_toArray, List.getElem_cons_zero, List.getElem_cons_succ, List.setIfInBounds_toArray, List.set_cons_zero, List.set_cons_succ]) | (refine wpZ_noS _ (by rfl) (by rfl) (by rfl) (by exact ⟨hW.cell 6, hW.cell 3⟩) ?_; try simp only [Act.put, List.getElem_toArray, List.getElem_cons_zero, List.getElem_cons_succ, List.setIfInBounds_toArray, List.set_cons_zero, List.set_cons_succ])))
    (simp only [wpZ])
    go_wp2
    go_ret3
    refine ⟨rfl, ?_⟩
    have hk : (addS S j id).rows = S.rows.set j (xs ++ [id]) := by
      show S.rows.set j (S.rows.getD j [] ++ [id]) = _
      rw [HGD.out]
    have hkl : (addS S j id).rows.length = S.rows.length := by rw [hk]; simp
    refine bk_close (S := addS S j id) (ro := some ⟨rb, ro2, none⟩) (rc := rc) (vs := vs.set j (ao3, cap3)) (by rw [hkl]; simpa using HL.out) ?_
    rw [hkl, hk]
    have hcs : (addS S j id).cells (.slice (some ⟨rb, ro2, none⟩) S.rows.length rc) = ({ S with low := min l0 j, top := max t0 j }.cells (.slice (some ⟨rb, ro2, none⟩) S.rows.length rc)).set 6 (.int .i64 ((S.n : Int) + 1)) := by
      simp only [BS.cells, addS, HL0.out, HT0.out, List.set_cons_succ, List.set_cons_zero]
      rfl
    rw [hcs]
    exact hW

end Go.Proofs.Ytpffofliemooiaa
