/- A region that draws its order, walked in ONE order; three kinds of operations: those that read (st, where S holds), those that memory is nothing to (pu), and those that are forced. -/
import Derived.Test.YtlfchokafpodcaaRegion
namespace Go.Own

section
variable {P : Program} {ops : Array Oper} {md : Region.Mode}

def wpAnyZ (P : Program) (md : Region.Mode) (ops : Array Oper) (Q : Exit → Act → World → Prop) (S : World → Prop) (late pu : List Nat) : Nat → Array Bool → Act → World → Prop
  | 0, listed, a, w => Region.ready md ops listed = [] ∧ Q .normal a w
  | fuel + 1, listed, a, w =>
    (Region.ready md ops listed = [] → Q .normal a w) ∧
    ∀ i ∈ Region.ready md ops listed, wpOp P ops (QN Q) i (fun a' w' => (late.contains i = false → pu.contains i = false → S w') ∧ (pu.contains i = true → w' = w) ∧ wpAnyZ P md ops Q S late pu fuel (listed.setIfInBounds i true) a' w') a w

theorem wpAny_of_Z {Q : Exit → Act → World → Prop} {S : World → Prop} {late pu : List Nat} : ∀ (fuel : Nat) (listed : Array Bool) (a : Act) (w : World),
    wpAnyZ P md ops Q S late pu fuel listed a w → wpAny P md ops Q fuel listed a w
  | 0, _, _, _, h => h
  | fuel + 1, _, _, _, h => ⟨h.1, fun i hi => wpOp_mono (fun a' w' h3 => wpAny_of_Z fuel _ a' w' h3.2.2) (wpOp_QN (h.2 i hi))⟩

theorem wpAnyZ_first {Q : Exit → Act → World → Prop} {S : World → Prop} {late pu : List Nat} {i : Nat} {oi : Oper} {v : Value} (hi : ops[i]? = some oi)
    (hsel : ∀ (j : Nat) (o : Oper) cs b, ops[j]? = some o → o.op ≠ .select cs b)
    (hlate : ∀ j oj, late.contains j = true → ops[j]? = some oj → ∃ e ∈ oj.after, Region.binds md e = true ∧ e.on = i) (hpi : pu.contains i = false) :
    ∀ (fuel : Nat) (listed : Array Bool) (a : Act) (w : World),
      (∀ j oj, ops[j]? = some oj → j ≠ i → listed.getD j true = false → (∀ e ∈ oj.after, Region.binds md e = true → e.on ≠ i) → oi.apart ops oj = true) →
      i ∈ Region.ready md ops listed → YS P ops S oi v a → S w →
      wpAnyZ P md ops Q S late pu fuel (listed.setIfInBounds i true) (a.put oi.dst v) w → wpAnyZ P md ops Q S late pu (fuel + 1) listed a w := by
  intro fuel
  induction fuel with
  | zero =>
    intro listed a w _ hr hy hS H
    refine ⟨fun h => (by rw [h] at hr; cases hr), fun j hj => ?_⟩
    by_cases hji : j = i
    · subst hji; exact hy.wpOp hi hS ⟨fun _ _ => hS, fun _ => rfl, H⟩
    · have := ready_mono hj hji
      rw [H.1] at this
      cases this
  | succ fuel ih =>
    intro listed a w hfree hr hy hS H
    refine ⟨fun h => (by rw [h] at hr; cases hr), fun j hj => ?_⟩
    by_cases hji : j = i
    · subst hji; exact hy.wpOp hi hS ⟨fun _ _ => hS, fun _ => rfl, H⟩
    · have h1 := H.2 j (ready_mono hj hji)
      obtain ⟨hjun, oj, hoj, hall⟩ := mem_ready.1 hj
      have hnot : ∀ e ∈ oj.after, Region.binds md e = true → e.on ≠ i := fun e he hb heq => by
        have h1 := hall e he hb
        have h0 := (mem_ready.1 hr).1
        rw [heq] at h1
        rcases Nat.lt_or_ge i listed.size with h' | h'
        · simp [h'] at h0 h1; rw [h0] at h1; cases h1
        · simp [Array.getElem?_eq_none h'] at h1
      have hlj : late.contains j = false := by
        cases hl : late.contains j with
        | false => rfl
        | true =>
          obtain ⟨e, he, hb, hon⟩ := hlate j oj hl hoj
          exact absurd hon (hnot e he hb)
      have h2 := wpOp_putS hoj (hfree j oj hoj hji hjun hnot) (fun cs b => hsel i oi cs b hi) (fun cs b => hsel j oj cs b hoj) hy h1
      have hfree' : ∀ k ok, ops[k]? = some ok → k ≠ i → (listed.setIfInBounds j true).getD k true = false →
          (∀ e ∈ ok.after, Region.binds md e = true → e.on ≠ i) → oi.apart ops ok = true := fun k ok hk hki hun hno => by
        refine hfree k ok hk hki ?_ hno
        by_cases hjk : j = k
        · subst hjk; exact hjun
        · rw [getD_set_ne true hjk] at hun; exact hun
      refine wpOp_mono (fun a' w' h3 => ⟨h3.2.1, h3.2.2.1, ih (listed.setIfInBounds j true) a' w' hfree' (ready_mono hr (Ne.symm hji)) h3.1 ?_ ?_⟩) h2
      · cases hp : pu.contains j with
        | false => exact h3.2.1 hlj hp
        | true => rw [h3.2.2.1 hp]; exact hS
      · rw [Array.setIfInBounds_comm _ _ hji]
        exact h3.2.2.2

theorem wpAnyZ_firstT {Q : Exit → Act → World → Prop} {S : World → Prop} {late pu : List Nat} {i : Nat} {oi : Oper} {v : Value} (hi : ops[i]? = some oi)
    (hsel : ∀ (j : Nat) (o : Oper) cs b, ops[j]? = some o → o.op ≠ .select cs b) (hpi : pu.contains i = true) :
    ∀ (fuel : Nat) (listed : Array Bool) (a : Act) (w : World),
      (∀ j oj, ops[j]? = some oj → j ≠ i → listed.getD j true = false → (∀ e ∈ oj.after, Region.binds md e = true → e.on ≠ i) → oi.apart ops oj = true) →
      i ∈ Region.ready md ops listed → YS P ops (fun _ => True) oi v a →
      wpAnyZ P md ops Q S late pu fuel (listed.setIfInBounds i true) (a.put oi.dst v) w → wpAnyZ P md ops Q S late pu (fuel + 1) listed a w := by
  intro fuel
  induction fuel with
  | zero =>
    intro listed a w _ hr hy H
    refine ⟨fun h => (by rw [h] at hr; cases hr), fun j hj => ?_⟩
    by_cases hji : j = i
    · subst hji; exact hy.wpOp hi trivial ⟨fun _ h => (by rw [hpi] at h; cases h), fun _ => rfl, H⟩
    · have := ready_mono hj hji
      rw [H.1] at this
      cases this
  | succ fuel ih =>
    intro listed a w hfree hr hy H
    refine ⟨fun h => (by rw [h] at hr; cases hr), fun j hj => ?_⟩
    by_cases hji : j = i
    · subst hji; exact hy.wpOp hi trivial ⟨fun _ h => (by rw [hpi] at h; cases h), fun _ => rfl, H⟩
    · have h1 := H.2 j (ready_mono hj hji)
      obtain ⟨hjun, oj, hoj, hall⟩ := mem_ready.1 hj
      have hnot : ∀ e ∈ oj.after, Region.binds md e = true → e.on ≠ i := fun e he hb heq => by
        have h1 := hall e he hb
        have h0 := (mem_ready.1 hr).1
        rw [heq] at h1
        rcases Nat.lt_or_ge i listed.size with h' | h'
        · simp [h'] at h0 h1; rw [h0] at h1; cases h1
        · simp [Array.getElem?_eq_none h'] at h1
      have h2 := wpOp_putS hoj (hfree j oj hoj hji hjun hnot) (fun cs b => hsel i oi cs b hi) (fun cs b => hsel j oj cs b hoj) hy h1
      have hfree' : ∀ k ok, ops[k]? = some ok → k ≠ i → (listed.setIfInBounds j true).getD k true = false →
          (∀ e ∈ ok.after, Region.binds md e = true → e.on ≠ i) → oi.apart ops ok = true := fun k ok hk hki hun hno => by
        refine hfree k ok hk hki ?_ hno
        by_cases hjk : j = k
        · subst hjk; exact hjun
        · rw [getD_set_ne true hjk] at hun; exact hun
      refine wpOp_mono (fun a' w' h3 => ⟨h3.2.1, h3.2.2.1, ih (listed.setIfInBounds j true) a' w' hfree' (ready_mono hr (Ne.symm hji)) h3.1 ?_⟩) h2
      rw [Array.setIfInBounds_comm _ _ hji]
      exact h3.2.2.2

/-- The walk in one order: sg: the order; st: those that read; pu: those that memory is nothing to. -/
def wpZ (P : Program) (ops : Array Oper) (Q : Exit → Act → World → Prop) (S : World → Prop) (st late pu : List Nat) : List Nat → Act → World → Prop
  | [], a, w => Q .normal a w
  | i :: rest, a, w =>
    if st.contains i then ∃ o v, ops[i]? = some o ∧ YS P ops S o v a ∧ S w ∧ wpZ P ops Q S st late pu rest (a.put o.dst v) w
    else if pu.contains i then ∃ o v, ops[i]? = some o ∧ YS P ops (fun _ => True) o v a ∧ wpZ P ops Q S st late pu rest (a.put o.dst v) w
    else wpOp P ops (QN Q) i (fun a' w' => (late.contains i = false → S w') ∧ wpZ P ops Q S st late pu rest a' w') a w

def checkGoZ (md : Region.Mode) (ops : Array Oper) (st pu : List Nat) : List Nat → Array Bool → Bool
  | [], listed => (Region.ready md ops listed).isEmpty
  | i :: rest, listed =>
    (if st.contains i || pu.contains i then (Region.ready md ops listed).contains i && Region.free md ops listed i else Region.ready md ops listed == [i]) && checkGoZ md ops st pu rest (listed.setIfInBounds i true)

def checkZ (md : Region.Mode) (ops : Array Oper) (st late pu sg : List Nat) : Bool :=
  Region.noSelect ops && checkLate md ops st late && st.all (fun i => !pu.contains i) && checkGoZ md ops st pu sg (Array.replicate ops.size false)

theorem wpAnyZ_of_wpZ {Q : Exit → Act → World → Prop} {S : World → Prop} {st late pu : List Nat} (hsel : Region.noSelect ops = true) (hl : checkLate md ops st late = true) (hsp : st.all (fun i => !pu.contains i) = true) :
    ∀ (sg : List Nat) (listed : Array Bool) (a : Act) (w : World), checkGoZ md ops st pu sg listed = true → wpZ P ops Q S st late pu sg a w → wpAnyZ P md ops Q S late pu sg.length listed a w
  | [], listed, a, w, hc, h => ⟨by simpa [checkGoZ] using hc, h⟩
  | i :: rest, listed, a, w, hc, h => by
    simp only [checkGoZ, Bool.and_eq_true] at hc
    obtain ⟨hc1, hc2⟩ := hc
    simp only [wpZ] at h
    by_cases hst : st.contains i = true
    · rw [if_pos (by rw [hst]; rfl)] at hc1
      rw [if_pos hst] at h
      simp only [Bool.and_eq_true] at hc1
      obtain ⟨o, v, ho, hy, hS, hK⟩ := h
      simp only [checkLate, List.all_eq_true, Bool.and_eq_true, Bool.not_eq_true', List.mem_range, Bool.or_eq_true] at hl
      have hli := hl i (by simpa using hst)
      have hpi : pu.contains i = false := by
        have := List.all_eq_true.1 hsp i (by simpa using hst)
        simpa using this
      refine wpAnyZ_first ho (Region.noSelect_spec hsel) (fun j oj hjl hj => ?_) hpi rest.length listed a w (Region.free_spec ho hc1.2) (by simpa using hc1.1) hy hS
        (wpAnyZ_of_wpZ hsel (by simpa [checkLate] using hl) hsp rest _ _ _ hc2 hK)
      have h3 := hli.2 j (Array.getElem?_eq_some_iff.1 hj).1
      rw [hj] at h3
      rcases h3 with h3 | h3
      · rw [hjl] at h3; cases h3
      · obtain ⟨e, he, hb⟩ := Array.any_eq_true'.1 h3
        simp only [Bool.and_eq_true, beq_iff_eq] at hb
        exact ⟨e, he, hb.1, hb.2⟩
    · rw [if_neg hst] at h
      by_cases hpu : pu.contains i = true
      · rw [if_pos (by rw [hpu]; simp)] at hc1
        rw [if_pos hpu] at h
        simp only [Bool.and_eq_true] at hc1
        obtain ⟨o, v, ho, hy, hK⟩ := h
        exact wpAnyZ_firstT ho (Region.noSelect_spec hsel) hpu rest.length listed a w (Region.free_spec ho hc1.2) (by simpa using hc1.1) hy (wpAnyZ_of_wpZ hsel hl hsp rest _ _ _ hc2 hK)
      · rw [if_neg hpu] at h
        rw [if_neg (by simp only [Bool.not_eq_true] at hst hpu; rw [hst, hpu]; simp)] at hc1
        have hr : Region.ready md ops listed = [i] := by simpa using hc1
        refine ⟨fun h0 => (by rw [hr] at h0; cases h0), fun j hj => ?_⟩
        rw [hr] at hj
        obtain rfl : j = i := by simpa using hj
        exact wpOp_mono (fun a' w' h3 => ⟨fun h _ => h3.1 h, fun h => absurd h hpu, wpAnyZ_of_wpZ hsel hl hsp rest _ a' w' hc2 h3.2⟩) h

theorem wp_region_Z {id : Nat} {Q : Exit → Act → World → Prop} {l : List Oper} {a : Act} {w : World} (S : World → Prop) (st late pu sg : List Nat) (hm : P.follows .mixedOrders = true)
    (hB : (checkZ .any l.toArray st late pu sg && sg.length == l.length) = true) (h : wpZ P l.toArray Q S st late pu sg a w.drew) : (Code.region id l.toArray true).wp P Q a w := by
  simp only [checkZ, Bool.and_eq_true, beq_iff_eq] at hB
  obtain ⟨⟨⟨⟨h1, h2⟩, h5⟩, h3⟩, h4⟩ := hB
  refine wp_region_any hm (wpAny_of_Z (S := S) (late := late) (pu := pu) _ _ _ _ ?_)
  have := wpAnyZ_of_wpZ (Q := Q) (S := S) h1 h2 h5 sg _ a w.drew h3 h
  rw [h4] at this
  simpa using this

theorem wpZ_st {Q : Exit → Act → World → Prop} {S : World → Prop} {st late pu : List Nat} {i : Nat} {rest : List Nat} {a : Act} {w : World} (o : Oper) (v : Value) (hst : st.contains i = true) (ho : ops[i]? = some o)
    (hg : Region.wanted o (yielded ops a.tmps) = true) (hy : ∀ W, S W → (execOp a.eval o).run P W = .ok (.value v) W) (hS : S w) (h : wpZ P ops Q S st late pu rest (a.put o.dst v) w) :
    wpZ P ops Q S st late pu (i :: rest) a w := by
  simp only [wpZ]; rw [if_pos hst]; exact ⟨o, v, ho, .inl ⟨hg, hy⟩, hS, h⟩

theorem wpZ_pu {Q : Exit → Act → World → Prop} {S : World → Prop} {st late pu : List Nat} {i : Nat} {rest : List Nat} {a : Act} {w : World} (o : Oper) (v : Value) (hst : st.contains i = false) (hpu : pu.contains i = true) (ho : ops[i]? = some o)
    (hg : Region.wanted o (yielded ops a.tmps) = true) (hy : ∀ W, (execOp a.eval o).run P W = .ok (.value v) W) (h : wpZ P ops Q S st late pu rest (a.put o.dst v) w) :
    wpZ P ops Q S st late pu (i :: rest) a w := by
  simp only [wpZ]; rw [if_neg (by rw [hst]; simp), if_pos hpu]; exact ⟨o, v, ho, .inl ⟨hg, fun W _ => hy W⟩, h⟩

/-- An operation whose guard says no. -/
theorem wpZ_no {Q : Exit → Act → World → Prop} {S : World → Prop} {st late pu : List Nat} {i : Nat} {rest : List Nat} {a : Act} {w : World} (o : Oper) (hst : st.contains i = false) (hpu : pu.contains i = true) (ho : ops[i]? = some o)
    (hg : Region.wanted o (yielded ops a.tmps) = false) (h : wpZ P ops Q S st late pu rest (a.put o.dst undef) w) :
    wpZ P ops Q S st late pu (i :: rest) a w := by
  simp only [wpZ]; rw [if_neg (by rw [hst]; simp), if_pos hpu]; exact ⟨o, undef, ho, .inr ⟨hg, rfl⟩, h⟩
theorem wpZ_noS {Q : Exit → Act → World → Prop} {S : World → Prop} {st late pu : List Nat} {i : Nat} {rest : List Nat} {a : Act} {w : World} (o : Oper) (hst : st.contains i = true) (ho : ops[i]? = some o)
    (hg : Region.wanted o (yielded ops a.tmps) = false) (hS : S w) (h : wpZ P ops Q S st late pu rest (a.put o.dst undef) w) :
    wpZ P ops Q S st late pu (i :: rest) a w := by
  simp only [wpZ]; rw [if_pos hst]; exact ⟨o, undef, ho, .inr ⟨hg, rfl⟩, hS, h⟩
/-- A forced one whose guard says no. -/
theorem wpZ_noE {Q : Exit → Act → World → Prop} {S : World → Prop} {st late pu : List Nat} {i : Nat} {rest : List Nat} {a : Act} {w : World} (o : Oper) (hst : st.contains i = false) (hpu : pu.contains i = false) (ho : ops[i]? = some o)
    (hg : Region.wanted o (yielded ops a.tmps) = false) (hS : late.contains i = false → S w) (h : wpZ P ops Q S st late pu rest (a.put o.dst undef) w) :
    wpZ P ops Q S st late pu (i :: rest) a w := by
  simp only [wpZ]; rw [if_neg (by rw [hst]; simp), if_neg (by rw [hpu]; simp)]
  unfold wpOp
  simp only [ho, hg, Bool.false_eq_true, if_false]
  exact ⟨hS, h⟩

theorem wpZ_eff {Q : Exit → Act → World → Prop} {S : World → Prop} {st late pu : List Nat} {i : Nat} {rest : List Nat} {a : Act} {w : World} (o : Oper) (hst : st.contains i = false) (hpu : pu.contains i = false) (ho : ops[i]? = some o)
    (hg : Region.wanted o (yielded ops a.tmps) = true)
    (h : ∀ K : Act → World → Prop, (∀ a' w', (late.contains i = false → S w') → wpZ P ops Q S st late pu rest a' w' → K a' w') → o.wp P a w K (QN Q)) :
    wpZ P ops Q S st late pu (i :: rest) a w := by
  simp only [wpZ]; rw [if_neg (by rw [hst]; simp), if_neg (by rw [hpu]; simp)]
  unfold wpOp
  simp only [ho, hg, if_true]
  exact .inl (h _ (fun a' w' h1 h2 => ⟨h1, h2⟩))

end
#print axioms wp_region_Z
end Go.Own
