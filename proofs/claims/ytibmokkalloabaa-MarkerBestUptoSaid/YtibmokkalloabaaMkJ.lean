/- Contracts: markers by their names. -/
import Derived.Test.YtibmokkalloabaaMkH
import Derived.Test.YtibmokkalloabaaMap
open Go.RowKit Go.Own
namespace Go.Proofs.Ytibmokkalloabaa

/-- The names, with bits and lengths. -/
def tab : List (List UInt8 × Nat × Nat) :=
  [([98, 97, 114, 107, 101, 114, 53], 29, 5), ([98, 97, 114, 107, 101, 114, 55], 114, 7), ([98, 97, 114, 107, 101, 114, 49, 49], 1810, 11), ([98, 97, 114, 107, 101, 114, 49, 51], 7989, 13),
   ([97, 115, 109, 49, 54], 60304, 16), ([97, 115, 109, 50, 52], 16446240, 24), ([97, 115, 109, 51, 50], 449838109, 32)]
def namedIn : List (List UInt8 × Nat × Nat) → List UInt8 → Option (Nat × Nat)
  | [], _ => none
  | x :: r, s => if (s == x.1) = true then some x.2 else namedIn r s
def named (s : List UInt8) : Option (Nat × Nat) := namedIn tab s
def nmB (o : Option (Nat × Nat)) : Nat := (o.map (·.1)).getD 0
def nmN (o : Option (Nat × Nat)) : Nat := (o.map (·.2)).getD 0
def nmE (o : Option (Nat × Nat)) : Nat := if o.isSome then 0 else 3

def ents (l : List (List UInt8 × Nat × Nat)) (i : Nat) : List MapEntry :=
  match l with
  | [] => []
  | x :: r => { key := .string ⟨x.1.toArray⟩, val := .agg #[.int .u64 x.2.1, .int .i64 x.2.2], born := i } :: ents r (i + 1)

theorem findS_ents (s : List UInt8) : ∀ (l : List (List UInt8 × Nat × Nat)) (i j : Nat), (findS ⟨s.toArray⟩ (ents l i) j).map (·.2) = (namedIn l s).map fun p => Value.agg #[.int .u64 p.1, .int .i64 p.2]
  | [], _, _ => rfl
  | x :: r, i, j => by
    have e : ((⟨s.toArray⟩ : ByteArray) == ⟨x.1.toArray⟩) = (s == x.1) := by show (s.toArray == x.1.toArray) = _; simp
    simp only [ents, findS, namedIn, e]
    cases (s == x.1) with
    | true => rfl
    | false => exact findS_ents s r (i + 1) (j + 1)

theorem zero24 (w : World) : (zeroValue 24).run Try.prog w = .ok (.agg #[.int .u64 0, .int .i64 0]) w := by kernel_rfl

theorem info24 : (Try.prog.info? 24).map (·.size) = some 2 := by kernel_rfl
theorem desc24 : ∃ d, Try.prog.underlying 24 = some d ∧ d.isRow = true := ⟨_, Try.underlying24, rfl⟩
theorem loadV24 {w : World} {b : Nat} {x y : Value} {L : List Asn} (h : Hold w (cellsA b 24 [x, y] :: L)) : (Go.loadVar 24 ⟨b, 0, none⟩).run Try.prog w = .ok (.agg #[x, y]) w := by
  obtain ⟨d, h1, h2⟩ := desc24
  exact h.loadVarAll 24 d h1 h2 info24
theorem op_store24 {op : Oper} {a : Act} {w : World} {K : Act → World → Prop} {Q : Exit → Act → World → Prop} (x y : Operand) (ho : op.op = .store 24 x y)
    (b : Nat) (hx : a.eval x = .pointer (some ⟨b, 0, none⟩)) (u v : Value) (hy : a.eval y = .agg #[u, v]) {u0 v0 : Value} {L : List Asn} (h : Hold w (cellsA b 24 [u0, v0] :: L)) (hu : u.oneCell' = true) (hv : v.oneCell' = true)
    (k : ∀ w', Hold w' (cellsA b 24 [u, v] :: L) → K (a.put op.dst undef) w') : op.wp Try.prog a w K Q := by
  obtain ⟨w', h2, h3⟩ := h.storeAll (P := Try.prog) 24 [u, v] rfl info24 (by simp [hu, hv])
  unfold Oper.wp execOp
  simp only [ho, hx, hy, Sem.run_bind, h2, Result.andThen_ok]
  exact k w' h3
theorem wp_store24 {ops : Array Oper} {rest : List Oper} {op : Oper} {a : Act} {w : World} {Q : Exit → Act → World → Prop} (hgd : op.guard = none) (x y : Operand) (ho : op.op = .store 24 x y)
    (b : Nat) (hx : a.eval x = .pointer (some ⟨b, 0, none⟩)) (u v : Value) (hy : a.eval y = .agg #[u, v]) {u0 v0 : Value} {L : List Asn} (h : Hold w (cellsA b 24 [u0, v0] :: L)) (hu : u.oneCell' = true) (hv : v.oneCell' = true)
    (k : ∀ w', Hold w' (cellsA b 24 [u, v] :: L) → wpList Try.prog ops Q rest (a.put op.dst undef) w') : wpList Try.prog ops Q (op :: rest) a w :=
  wpList_storeAll_h hgd 24 x y ho b hx [u, v] hy h rfl info24 (by simp [hu, hv]) k

set_option maxRecDepth 20000 in
theorem named_ok (s : List UInt8) (w : World) (L : List Asn) (h : Hold w L) :
    Calls Try.prog 11 #[.string ⟨s.toArray⟩] w fun e w' => e = .returned (.tuple #[.agg #[.int .u64 (nmB (named s)), .int .i64 (nmN (named s))], .int .i64 (nmE (named s))]) ∧ Hold w' L := by
  have hb := h.box 24 [.int .u64 0, .int .i64 0]
  have hm := hb.mapNew
  have hmm := @run_makeMap Try.prog
  go_enter Try.func11, Try.ntmps11
  go_upto_region 1 with (fail)
  refine gen_world hb (fun w1 hb => ?_)
  generalize w.heap.size = q at *
  have hm := hb.mapNew
  go_upto_region 2 with (refine wpList_insert_h (by rfl) _ _ _ _ (by rfl) _ (by rfl) _ (by rfl) _ (by rfl) Try.underlying70 Try.underlying9 hm (keysS_of (by rfl)) (by kernel_rfl) (fun w' hx => ?_); clear hm; have hm := hx; clear hx)
  have hm2 : Hold _ (mapA w1.heap.size (ents tab 0).toArray 7 :: cellsA q 24 [.int .u64 0, .int .i64 0] :: L) := hm
  clear hm
  refine gen_world hm2 (fun w2 hm => ?_)
  clear hm2
  generalize w1.heap.size = mb at *
  have hz := zero24 w2
  have hl := run_lookup_h hm Try.underlying70 Try.underlying9 (s := ⟨s.toArray⟩) hz (keysS_of (by rfl))
  have he := findS_ents s tab 0 0
  simp only [List.toList_toArray] at hl
  rw [he] at hl
  have hi : (findS ⟨s.toArray⟩ (ents tab 0) 0).isSome = (named s).isSome := by
    have := congrArg Option.isSome he
    simpa [named] using this
  rw [hi] at hl
  have e1 : namedIn tab s = named s := rfl
  rw [e1] at hl
  clear hi he hz e1
  cases hnm : named s with
  | none =>
    rw [hnm] at hl
    simp only [Option.map_none, Option.getD_none, Option.isSome_none] at hl
    have hn := hm.box 24 [.int .u64 0, .int .i64 0]
    go_upto_region 3 with (fail)
    refine gen_world hn (fun w3 hn => ?_)
    have h3 := hn.mv 2
    go_wp2_with (refine wp_store24 (by rfl) _ _ (by rfl) q (by rfl) (.int .u64 0) (.int .i64 0) (by rfl) h3 (by rfl) (by rfl) (fun w4 h4 => ?_))
    exact bodyPost_ret (res_cell_tmp (loadV24 h4) (by rfl) (by rfl) (by rfl)) rfl ⟨by rw [hnm]; rfl, h4.drop.drop.drop⟩
  | some p =>
    rw [hnm] at hl
    simp only [Option.map_some, Option.getD_some, Option.isSome_some] at hl
    have hn := hm.box 24 [.int .u64 p.1, .int .i64 p.2]
    go_upto_region 3 with (fail)
    refine gen_world hn (fun w3 hn => ?_)
    obtain ⟨g0, g1⟩ := loadM hn
    have h3 := hn.mv 2
    go_wp2_with (refine wp_store24 (by rfl) _ _ (by rfl) q (by rfl) (.int .u64 p.1) (.int .i64 p.2) (by rfl) h3 (by rfl) (by rfl) (fun w4 h4 => ?_))
    exact bodyPost_ret (res_cell_tmp (loadV24 h4) (by rfl) (by rfl) (by rfl)) rfl ⟨by rw [hnm]; rfl, h4.drop.drop.drop⟩

/-- The reference's. -/
def NamRel (s : List UInt8) (q a b c : Nat) (L : List Asn) (i : Value) (wr : World) : Prop := ∃ k : Nat, k ≤ 7 ∧ i = .int .i64 k ∧ named s = namedIn (tab.drop k) s ∧
  Hold wr (cellsA q 24 [.int .u64 0, .int .i64 0] :: cellsA c 22 (tab.map fun x => .int .u64 x.2.1) :: cellsA b 3 (tab.map fun x => .int .i64 x.2.2) :: cellsA a 9 (tab.map fun x => .string ⟨x.1.toArray⟩) :: L)

set_option maxRecDepth 20000 in
theorem rnamed_ok (s : List UInt8) (w : World) (L : List Asn) (h : Hold w L) :
    Calls Try.prog 12 #[.string ⟨s.toArray⟩] w fun e w' => e = .returned (.tuple #[.agg #[.int .u64 (nmB (named s)), .int .i64 (nmN (named s))], .int .i64 (nmE (named s))]) ∧ Hold w' L := by
  have hb := h.box 24 [.int .u64 0, .int .i64 0]
  go_enter Try.func12, Try.ntmps12
  go_upto_region 1 with (fail)
  refine gen_world hb (fun w1 hb => ?_)
  generalize w.heap.size = q at *
  have h1 := hb.box 9 (tab.map fun x => .string ⟨x.1.toArray⟩)
  go_upto_region 2 with (fail)
  refine gen_world h1 (fun w2 h1 => ?_)
  generalize w1.heap.size = a at *
  have h2 := h1.box 3 (tab.map fun x => .int .i64 x.2.2)
  go_upto_region 3 with (fail)
  refine gen_world h2 (fun w3 h2 => ?_)
  generalize w2.heap.size = b at *
  have h3 := h2.box 22 (tab.map fun x => .int .u64 x.2.1)
  go_upto_region 4 with (fail)
  refine gen_world h3 (fun w4 h3 => ?_)
  generalize w3.heap.size = c at *
  have h4 := h3.mv 3
  go_wp2
  go_loopw [7] (fun i wr => NamRel s q a b c L i wr) (fun i _ => 7 - (intOf i).toNat)
  case atStart => exact ⟨0, by omega, rfl, rfl, h4⟩
  case round =>
    clear h4 h3 h2 h1 hb
    obtain ⟨k, hk, rfl, hnm, hr⟩ := hrel
    have HN := Lib.hid hnm
    clear hnm
    by_cases hlt : k < 7
    · have hki : (k : Int) < 7 := by omega
      obtain ⟨x, hx⟩ : ∃ x, tab[k]? = some x := by
        have hl : tab.length = 7 := rfl
        exact ⟨tab[k]'(by omega), List.getElem?_eq_getElem _⟩
      have c1 : wr.cell? ⟨a, k, none⟩ = some (.string ⟨x.1.toArray⟩) := by rw [(hr.mv 3).cell k, List.getElem?_map, hx]; rfl
      have ed : tab.drop k = x :: tab.drop (k + 1) := by
        rw [List.drop_eq_getElem_cons (by exact hlt)]
        congr 1
        exact (List.getElem?_eq_some_iff.1 hx).2
      by_cases he : (s == x.1) = true
      · have e1 : named s = some x.2 := by rw [HN.out, ed]; simp [namedIn, he]
        have HE := Lib.hid e1
        have HX := Lib.hid hx
        clear e1 ed hx
        rw [beq_iff_eq] at he
        subst he
        have G1 : wr.drew.cell? ⟨c, k, none⟩ = some (.int .u64 x.2.1) := by rw [(hr.drew.mv 1).cell k, List.getElem?_map, HX.out]; rfl
        have G2 : wr.drew.cell? ⟨b, k, none⟩ = some (.int .i64 x.2.2) := by rw [(hr.drew.mv 2).cell k, List.getElem?_map, HX.out]; rfl
        have hS := hr.drew
        go_upto_region 8 with (fail)
        refine wp_region_Z (fun W => W.cell? ⟨c, k, none⟩ = some (.int .u64 x.2.1) ∧ W.cell? ⟨b, k, none⟩ = some (.int .i64 x.2.2)) [3, 7] [9] [0, 1, 2, 4, 5, 6, 8, 10] [0, 1, 2, 3, 4, 5, 6, 7, 8, 9, 10] (by kernel_rfl) (by kernel_rfl) ?_
        (repeat (first | (refine wpZ_st (v := ?_) _ (by rfl) (by rfl) (by rfl) (fun W hW => ?_) ⟨G1, G2⟩ ?_; (rotate_left; (focus ((try dsimp only at hW); go_simp; (try with_reducible rfl); done))); try simp only [Act.put, List.getElem_toArray, List.getElem_cons_zero, List.getElem_cons_succ, List.setIfInBounds_toArray, List.set_cons_zero, List.set_cons_succ]) | (refine wpZ_pu (v := ?_) _ (by rfl) (by rfl) (by rfl) (by rfl) (fun W => ?_) ?_; (rotate_left; (focus ((try dsimp only at hW); go_simp; (try with_reducible rfl); done))); try simp only [Act.put, List.getElem_toArray, List.getElem_cons_zero, List.getElem_cons_succ, List.setIfInBounds_toArray, List.set_cons_zero, List.set_cons_succ]) | (refine wpZ_no _ (by rfl) (by rfl) (by rfl) (by rfl) ?_; try simp only [Act.put, List.getElem_toArray, List.getElem_cons_zero, List.getElem_cons_succ, List.setIfInBounds_toArray, List.set_cons_zero, List.set_cons_succ]) | (refine wpZ_noS _ (by rfl) (by rfl) (by rfl) ⟨G1, G2⟩ ?_; try simp only [Act.put, List.getElem_toArray, List.getElem_cons_zero, List.getElem_cons_succ, List.setIfInBounds_toArray, List.set_cons_zero, List.set_cons_succ])))
        refine wpZ_eff _ (by rfl) (by rfl) (by rfl) (by rfl) (fun K hK => ?_)
        refine op_store24 _ _ (by rfl) q (by rfl) (.int .u64 x.2.1) (.int .i64 x.2.2) (by rfl) hS (by rfl) (by rfl) (fun w5 h5 => ?_)
        (refine hK _ _ (fun hl => ?_) ?_; (first | (focus (cases hl; done)) | (first | trivial | exact ⟨by rw [(h5.mv 1).cell k, List.getElem?_map, HX.out]; rfl, by rw [(h5.mv 2).cell k, List.getElem?_map, HX.out]; rfl⟩)); clear hK K; try simp only [Act.put, List.getElem_toArray, List.getElem_cons_zero, List.getElem_cons_succ, List.setIfInBounds_toArray, List.set_cons_zero, List.set_cons_succ])
        (repeat (first | (refine wpZ_st (v := ?_) _ (by rfl) (by rfl) (by rfl) (fun W hW => ?_) ⟨G1, G2⟩ ?_; (rotate_left; (focus ((try dsimp only at hW); go_simp; (try with_reducible rfl); done))); try simp only [Act.put, List.getElem_toArray, List.getElem_cons_zero, List.getElem_cons_succ, List.setIfInBounds_toArray, List.set_cons_zero, List.set_cons_succ]) | (refine wpZ_pu (v := ?_) _ (by rfl) (by rfl) (by rfl) (by rfl) (fun W => ?_) ?_; (rotate_left; (focus ((try dsimp only at hW); go_simp; (try with_reducible rfl); done))); try simp only [Act.put, List.getElem_toArray, List.getElem_cons_zero, List.getElem_cons_succ, List.setIfInBounds_toArray, List.set_cons_zero, List.set_cons_succ]) | (refine wpZ_no _ (by rfl) (by rfl) (by rfl) (by rfl) ?_; try simp only [Act.put, List.getElem_toArray, List.getElem_cons_zero, List.getElem_cons_succ, List.setIfInBounds_toArray, List.set_cons_zero, List.set_cons_succ]) | (refine wpZ_noS _ (by rfl) (by rfl) (by rfl) ⟨G1, G2⟩ ?_; try simp only [Act.put, List.getElem_toArray, List.getElem_cons_zero, List.getElem_cons_succ, List.setIfInBounds_toArray, List.set_cons_zero, List.set_cons_succ])))
        (simp only [wpZ])
        go_wp2
        exact bodyPost_ret (res_cell_tmp (loadV24 h5) (by rfl) (by rfl) (by rfl)) rfl ⟨by rw [HE.out]; rfl, h5.drop.drop.drop.drop⟩
      · have e1 : named s = namedIn (tab.drop (k + 1)) s := by rw [HN.out, ed]; simp [namedIn, he]
        have HE := Lib.hid e1
        have hf : (x.1 == s) = false := by rw [beq_eq_false_iff_ne]; exact fun e => he (by rw [e]; simp)
        clear e1 ed hx he
        go_wp2
        go_roundw
        case rel => exact ⟨k + 1, by omega, by go_num, HE.out, hr⟩
        case measure => simp [intOf]; omega
    · obtain rfl : k = 7 := by omega
      have e1 : named s = none := HN.out
      have HE := Lib.hid e1
      clear e1
      go_wp2_with (refine wp_store24 (by rfl) _ _ (by rfl) q (by rfl) (.int .u64 0) (.int .i64 0) (by rfl) hr (by rfl) (by rfl) (fun w4 h4 => ?_))
      exact bodyPost_ret (res_cell_tmp (loadV24 h4) (by rfl) (by rfl) (by rfl)) rfl ⟨by rw [HE.out]; rfl, h4.drop.drop.drop.drop⟩

end Go.Proofs.Ytibmokkalloabaa
