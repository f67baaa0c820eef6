/- Contracts: what an arena is in memory; none, has. -/
import Derived.Test.YtahhbbcgfhmmgaaProg
import Derived.Test.YtahhbbcgfhmmgaaChecked
import Derived.Test.YtahhbbcgfhmmgaaArB
import Derived.Test.YtahhbbcgfhmmgaaRowsX
import Derived.Test.YtahhbbcgfhmmgaaEq
import Derived.Test.YtahhbbcgfhmmgaaRegion3
import Derived.Deep.LoopGhost
open Go.RowKit Go.Own
namespace Go.Proofs.Ytahhbbcgfhmmgaa

theorem info3 : (Try.prog.info? 3).map (fun i => (i.zero, i.size, i.bytes)) = some (some (.int .i64 0), 1, 8) := by kernel_rfl
theorem info5 : (Try.prog.info? 5).map (fun i => (i.zero, i.size, i.bytes)) = some (some (.int .u8 0), 1, 1) := by kernel_rfl
theorem size3 : (Try.prog.info? 3).map (·.size) = some 1 := by kernel_rfl
theorem size5 : (Try.prog.info? 5).map (·.size) = some 1 := by kernel_rfl

def AR.cells (A : AR) (v u : Value) : List Value := [.int .i64 A.cap, v, u, .int .i64 A.taken]
def nums (l : List Nat) : List Value := l.map fun (i : Nat) => Value.int .i64 (i : Int)
theorem nums_length (l : List Nat) : (nums l).length = l.length := by simp [nums]
theorem nums_append (l m : List Nat) : nums (l ++ m) = nums l ++ nums m := by simp [nums]
theorem nums_one (l : List Nat) : ∀ u ∈ nums l, u.oneCell' = true := by
  intro u hu
  simp only [nums, List.mem_map] at hu
  obtain ⟨i, -, rfl⟩ := hu
  rfl
theorem pl_one (p : PL) : ∀ u ∈ p.cells, u.oneCell' = true := by simp [PL.cells, Value.oneCell']
theorem rpl_one (p : PL) : ∀ u ∈ p.rcells, u.oneCell' = true := by simp [PL.rcells, Value.oneCell']
theorem flat_one (f : PL → List Value) (hf : ∀ p, ∀ u ∈ f p, u.oneCell' = true) (l : List PL) : ∀ u ∈ flat f l, u.oneCell' = true := by
  intro u hu
  simp only [flat, List.mem_flatMap] at hu
  obtain ⟨p, -, h⟩ := hu
  exact hf p u h
theorem flat_append (f : PL → List Value) (l m : List PL) : flat f (l ++ m) = flat f l ++ flat f m := by simp [flat]

/-- An arena at block b, its places told by f. -/
def arP (T E : TypeId) (f : PL → List Value) (b : Nat) (A : AR) : Asn := exA fun p : Option Addr × Nat × Option Addr × Nat => starA (cellsA b T (A.cells (.slice p.1 A.all.length p.2.1) (.slice p.2.2.1 A.free.length p.2.2.2))) (starA (rowA E 8 p.1 A.all.length p.2.1 (flat f A.all)) (rowA 3 1 p.2.2.1 A.free.length p.2.2.2 (nums A.free)))
theorem ar_open {w : World} {T E : TypeId} {f : PL → List Value} {b : Nat} {A : AR} {L : List Asn} (h : Hold w (arP T E f b A :: L)) : ∃ ao ac fo fc, Hold w (cellsA b T (A.cells (.slice ao A.all.length ac) (.slice fo A.free.length fc)) :: rowA E 8 ao A.all.length ac (flat f A.all) :: rowA 3 1 fo A.free.length fc (nums A.free) :: L) := by
  obtain ⟨⟨ao, ac, fo, fc⟩, h1⟩ := Hold.ex.1 h
  have h4 := (Hold.star.1 h1).mv 1
  have h5 := Hold.star.1 h4
  exact ⟨ao, ac, fo, fc, h5.arr [2, 0, 1]⟩
theorem ar_close {w : World} {T E : TypeId} {f : PL → List Value} {b : Nat} {A : AR} {L : List Asn} {ao fo : Option Addr} {ac fc : Nat} (h : Hold w (cellsA b T (A.cells (.slice ao A.all.length ac) (.slice fo A.free.length fc)) :: rowA E 8 ao A.all.length ac (flat f A.all) :: rowA 3 1 fo A.free.length fc (nums A.free) :: L)) : Hold w (arP T E f b A :: L) := by
  refine Hold.ex.2 ⟨(ao, ac, fo, fc), Hold.star.2 ?_⟩
  exact (Hold.star.2 (h.arr [1, 2, 0])).swap
def arA : Nat → AR → Asn := arP 56 64 PL.cells
def rrA : Nat → AR → Asn := arP 72 81 PL.rcells

/-- The place i of a row of places, in any world. -/
theorem pl_at {f : PL → List Value} (hf : ∀ p, (f p).length = 8) {l : List PL} {i : Nat} {p : PL} (hp : l[i]? = some p) {n : Nat} (hn : l.length = n) {E : TypeId} {ao : Option Addr} {ac : Nat} {w : World} {L : List Asn} (h : Hold w (rowA E 8 ao n ac (flat f l) :: L)) :
    ∃ rb rp, ao = some ⟨rb, rp, none⟩ ∧ ∀ W L, Hold W (rowA E 8 ao n ac (flat f l) :: L) → ∀ k, k < 8 → W.cell? ⟨rb, rp + i * 8 + k, none⟩ = (f p)[k]? ∧ W.frozen? ⟨rb, rp + i * 8 + k, none⟩ = false := by
  have hi : i < l.length := (List.getElem?_eq_some_iff.1 hp).1
  obtain ⟨rb, rp, he, -, -⟩ := h.at (by omega)
  subst he
  refine ⟨rb, rp, rfl, fun W L hW k hk => ?_⟩
  obtain ⟨rb', ro', he, hct, hft⟩ := hW.at (by omega)
  simp only [Option.some.injEq, Addr.mk.injEq, and_true] at he
  obtain ⟨rfl, rfl⟩ := he
  exact ⟨by rw [Nat.add_assoc, hct (i * 8 + k) (by omega)]; exact flat_get f hf l i p hp k hk, hft _⟩

theorem none_ok (b : Nat) (c : Int) (hc : 1 ≤ c) (w : World) (h3 : w.cell? ⟨b, 0, none⟩ = some (.int .i64 c)) :
    Calls Try.prog 24 #[.pointer (some ⟨b, 0, none⟩)] w fun e w' => e = .returned (.bool false) ∧ w = w' := by
  have hne : (c == 0) = false := by rw [beq_eq_false_iff_ne]; omega
  go_enter Try.func24, Try.ntmps24
  go_wp2
  go_ret
  exact ⟨rfl, rfl⟩

theorem has_neg {A : AR} {id : Int} (h : id < 0) : hasA A id = false := by simp [hasA]; omega
theorem has_far {A : AR} {id : Int} (h : A.all.length ≤ id) : hasA A id = false := by
  unfold hasA
  rw [List.getElem?_eq_none (by omega)]
  simp
theorem has_in {A : AR} {i : Nat} {p : PL} (h : A.all[i]? = some p) : hasA A (i : Int) = p.taken := by simp [hasA, h]
theorem has_yes {A : AR} {id : Int} (h : hasA A id = true) : ∃ (i : Nat) (p : PL), id = i ∧ A.all[i]? = some p ∧ p.taken = true := by
  simp only [hasA, Bool.and_eq_true, decide_eq_true_eq] at h
  obtain ⟨h1, h2⟩ := h
  cases hq : A.all[id.toNat]? with
  | none => simp [hq] at h2
  | some p => exact ⟨id.toNat, p, by omega, hq, by simpa [hq] using h2⟩

set_option maxHeartbeats 1000000 in
theorem has_ok (b : Nat) (A : AR) (hc : 1 ≤ A.cap) (id : Int) (w : World) (L : List Asn) (h : Hold w (arA b A :: L)) :
    Calls Try.prog 26 #[.pointer (some ⟨b, 0, none⟩), .int .i64 id] w fun e w' => e = .returned (.bool (hasA A id)) ∧ w = w' := by
  obtain ⟨ao, ac, fo, fc, h1⟩ := ar_open h
  have g0 := h1.cell 0
  have g1 := h1.cell 1
  simp only [AR.cells, List.getElem?_cons_zero, List.getElem?_cons_succ] at g0 g1
  have hc' : (1 : Int) ≤ (A.cap : Int) := by omega
  have P1 := none_ok b A.cap hc' w g0
  by_cases hn : 0 ≤ id
  · obtain ⟨i, rfl⟩ := Int.eq_ofNat_of_zero_le hn
    by_cases hl : i < A.all.length
    · have hp : A.all[i]? = some A.all[i] := List.getElem?_eq_getElem hl
      generalize A.all[i] = p at hp
      obtain ⟨rb, rp, rfl, G⟩ := pl_at cells8 hp rfl (h1.mv 1)
      obtain ⟨g2, -⟩ := G _ _ (h1.mv 1) 7 (by omega)
      simp only [PL.cells, List.getElem?_cons_zero, List.getElem?_cons_succ] at g2
      rw [has_in hp]
      clear G h1 h hp g0
      generalize A.all.length = n at *
      have hl2 : (i : Int) < n := by omega
      go_enter Try.func26, Try.ntmps26
      go_wp2_with (first
        | (go_at_call 24; refine P1.mono ?_; rintro e w1 ⟨rfl, rfl⟩))
      go_ret
      exact ⟨rfl, rfl⟩
    · rw [has_far (by omega)]
      clear h1 h g0
      generalize A.all.length = n at *
      have hl2 : ¬ (i : Int) < n := by omega
      go_enter Try.func26, Try.ntmps26
      go_wp2_with (first
        | (go_at_call 24; refine P1.mono ?_; rintro e w1 ⟨rfl, rfl⟩))
      go_ret
      exact ⟨rfl, rfl⟩
  · rw [has_neg (by omega)]
    clear h1 h g0
    go_enter Try.func26, Try.ntmps26
    go_wp2_with (first
      | (go_at_call 24; refine P1.mono ?_; rintro e w1 ⟨rfl, rfl⟩))
    go_ret
    exact ⟨rfl, rfl⟩

theorem num_any (v : Int) (w : World) : Calls Try.prog 8 #[.int .i64 v] w fun e w' => e = .returned (.int .i64 v) ∧ w = w' := by
  go_enter Try.func8, Try.ntmps8
  go_wp2
  go_ret
  exact ⟨rfl, rfl⟩

def AR.new (c : Nat) : AR := ⟨c, [], [], 0⟩

set_option maxHeartbeats 1000000 in
theorem new_good (c : Nat) (h1 : 1 ≤ c) (h2 : c ≤ 65536) (w : World) (L : List Asn) (h : Hold w L) :
    Calls Try.prog 7 #[.int .i64 c] w fun e w' => ∃ b, e = .returned (.tuple #[.pointer (some ⟨b, 0, none⟩), .int .i64 0]) ∧ Hold w' (arA b (AR.new c) :: L) := by
  have h1' : (1 : Int) ≤ c := by omega
  have h2' : (c : Int) ≤ 65536 := by omega
  obtain ⟨q, hq⟩ : ∃ q, w.heap.size = q := ⟨_, rfl⟩
  have hb := h.box 56 [.int .i64 c, .slice none 0 0, .slice none 0 0, .int .i64 0]
  simp only [hq] at hb
  clear h1 h2
  go_enter Try.func7, Try.ntmps7
  go_wp2
  go_ret2
  refine ⟨q, by simp [hq], ?_⟩
  have := (hb.nilRow 3 1).nilRow 64 8
  have h3 := this.arr [2, 0, 1]
  (try dsimp only [Go.Own.front, Go.Own.arrA, Go.Own.atA, Go.Own.dropA, List.length_cons, List.length_nil, Nat.zero_add, Nat.reduceAdd] at h3)
  exact ar_close (A := AR.new c) (ao := none) (ac := 0) (fo := none) (fc := 0) h3

set_option maxHeartbeats 1000000 in
theorem new_bad (c : Int) (hc : ¬ (1 ≤ c ∧ c ≤ 65536)) (w : World) :
    Calls Try.prog 7 #[.int .i64 c] w fun e w' => e = .returned (.tuple #[.pointer none, .int .i64 1]) ∧ w = w' := by
  go_enter Try.func7, Try.ntmps7
  by_cases h1 : c < 1
  · go_wp2
    go_ret2
    exact ⟨rfl, rfl⟩
  · have h2 : 65536 < c := by omega
    go_wp2
    go_ret2
    exact ⟨rfl, rfl⟩

end Go.Proofs.Ytahhbbcgfhmmgaa
