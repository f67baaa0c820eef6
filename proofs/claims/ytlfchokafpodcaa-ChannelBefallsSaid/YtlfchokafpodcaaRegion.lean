/- A region that draws its order, walked in ONE order: its reading operations are taken at any world of which S holds, the others are forced. -/
import Derived.Deep.RegionHeld3
import Derived.KernelRfl
namespace Go.Own

section
variable {P : Program} {ops : Array Oper} {md : Region.Mode}

/-- Q at the normal end alone. -/
def QN (Q : Exit → Act → World → Prop) : Exit → Act → World → Prop
  | .normal, a, w => Q .normal a w
  | _, _, _ => False

/-- o yields v in every world of which S holds. -/
def YS (P : Program) (ops : Array Oper) (S : World → Prop) (o : Oper) (v : Value) (a : Act) : Prop :=
  (Region.wanted o (yielded ops a.tmps) = true ∧ ∀ W, S W → (execOp a.eval o).run P W = .ok (.value v) W) ∨ (Region.wanted o (yielded ops a.tmps) = false ∧ v = undef)

theorem YS.of_same {S : World → Prop} {o : Oper} {v : Value} {a a' : Act} (hy : YS P ops S o v a) (he : execOp a'.eval o = execOp a.eval o)
    (hw : Region.wanted o (yielded ops a'.tmps) = Region.wanted o (yielded ops a.tmps)) : YS P ops S o v a' := by
  unfold YS at *
  rw [he, hw]
  exact hy

theorem YS.wpOp {S : World → Prop} {Q : Exit → Act → World → Prop} {i : Nat} {o : Oper} {v : Value} {a : Act} (hi : ops[i]? = some o) (hy : YS P ops S o v a)
    {K : Act → World → Prop} {w : World} (hS : S w) (h : K (a.put o.dst v) w) : wpOp P ops Q i K a w := by
  unfold Go.wpOp
  simp only [hi]
  rcases hy with ⟨hw, hv⟩ | ⟨hw, rfl⟩
  · simp only [hw, if_true, Oper.wp, hv w hS, Oper.upon]; exact .inl h
  · simp only [hw, Bool.false_eq_true, if_false]; exact h

theorem wpOp_putS {S : World → Prop} {Q : Exit → Act → World → Prop} {j : Nat} {oi oj : Oper} {v : Value} (hj : ops[j]? = some oj) (hap : oi.apart ops oj = true)
    (hsi : ∀ cs b, oi.op ≠ .select cs b) (hsj : ∀ cs b, oj.op ≠ .select cs b) {K : Act → World → Prop} {a : Act} {w : World}
    (hy : YS P ops S oi v a) (h : wpOp P ops (QN Q) j K (a.put oi.dst v) w) :
    wpOp P ops (QN Q) j (fun a' w' => YS P ops S oi v a' ∧ K (a'.put oi.dst v) w') a w := by
  obtain ⟨h1, h2, h3⟩ := Oper.apart_spec hap
  have keep : ∀ (a : Act), YS P ops S oi v a → ∀ u, YS P ops S oi v (a.put oj.dst u) := fun a hy u =>
    hy.of_same (execOp_put oi hsi a oj.dst u h3) (wanted_put oi a oj.dst u h3)
  have keepD : ∀ d, YS P ops S oi v { a with defers := d :: a.defers } := fun d => hy.of_same rfl rfl
  unfold wpOp at *
  simp only [hj] at *
  rw [wanted_put oj a oi.dst v h1] at h
  split
  · rename_i hw
    simp only [hw, if_true] at h
    rcases h with h | ⟨hasks, hlets⟩
    case inr => obtain ⟨_, _, hf⟩ := hlets; exact hf.elim
    refine .inl ?_
    unfold Oper.wp at *
    rw [execOp_put oj hsj a oi.dst v h1] at h
    generalize (execOp a.eval oj).run P w = r at *
    cases r with
    | ok n w' =>
      cases n <;> simp only [Oper.upon] at h ⊢
      case value u => exact ⟨keep a hy u, by rw [← Act.put_comm a v u h2]; exact h⟩
      case skip => exact ⟨keep a hy _, by rw [← Act.put_comm a v undef h2]; exact h⟩
      case defer d =>
        refine ⟨keep _ (keepD d) _, ?_⟩
        rw [← Act.put_comm _ v undef h2, ← Act.put_defers]
        exact h
      case enter f args =>
        refine Calls.mono h fun e w'' he => ?_
        cases e with
        | returned u => exact ⟨keep a hy u, by rw [← Act.put_comm a v u h2]; exact he⟩
        | panicked c => exact he.elim
        | outgrown => exact he
      case row row args => exact Rows.mono h fun u w'' he => ⟨keep a hy u, by rw [← Act.put_comm a v u h2]; exact he⟩
    | halt x w' =>
      cases x <;> simp only [Oper.upon] at h ⊢
      case panic u => exact h.elim
  · rename_i hw
    simp only [hw] at h
    exact ⟨keep a hy _, by rw [← Act.put_comm a v undef h2]; exact h⟩

def wpAnyX (P : Program) (md : Region.Mode) (ops : Array Oper) (Q : Exit → Act → World → Prop) (S : World → Prop) (late : List Nat) : Nat → Array Bool → Act → World → Prop
  | 0, listed, a, w => Region.ready md ops listed = [] ∧ Q .normal a w
  | fuel + 1, listed, a, w =>
    (Region.ready md ops listed = [] → Q .normal a w) ∧
    ∀ i ∈ Region.ready md ops listed, wpOp P ops (QN Q) i (fun a' w' => (late.contains i = false → S w') ∧ wpAnyX P md ops Q S late fuel (listed.setIfInBounds i true) a' w') a w

theorem wpOp_QN {Q : Exit → Act → World → Prop} {i : Nat} {K : Act → World → Prop} {a : Act} {w : World} (h : wpOp P ops (QN Q) i K a w) : wpOp P ops Q i K a w := by
  unfold wpOp at *
  split
  · rename_i ho; simp only [ho] at h; exact h
  · rename_i o ho
    simp only [ho] at h
    split
    · rename_i hw
      simp only [hw, if_true] at h
      rcases h with h | ⟨_, hlets⟩
      case inr => obtain ⟨_, _, hf⟩ := hlets; exact hf.elim
      refine .inl ?_
      unfold Oper.wp at *
      generalize (execOp a.eval o).run P w = r at *
      cases r with
      | ok n w' =>
        cases n <;> simp only [Oper.upon] at h ⊢ <;> try exact h
        case enter f args =>
          refine Calls.mono h fun e w'' he => ?_
          cases e with
          | returned u => exact he
          | panicked c => exact he.elim
          | outgrown => obtain ⟨_, _, hf⟩ := he; exact hf.elim
      | halt x w' =>
        cases x <;> simp only [Oper.upon] at h ⊢
        case panic u => exact h.elim
    · rename_i hw; simp only [hw] at h; exact h

theorem wpAny_of_X {Q : Exit → Act → World → Prop} {S : World → Prop} {late : List Nat} : ∀ (fuel : Nat) (listed : Array Bool) (a : Act) (w : World),
    wpAnyX P md ops Q S late fuel listed a w → wpAny P md ops Q fuel listed a w
  | 0, _, _, _, h => h
  | fuel + 1, _, _, _, h => ⟨h.1, fun i hi => wpOp_mono (fun a' w' h3 => wpAny_of_X fuel _ a' w' h3.2) (wpOp_QN (h.2 i hi))⟩

theorem wpAnyX_first {Q : Exit → Act → World → Prop} {S : World → Prop} {late : List Nat} {i : Nat} {oi : Oper} {v : Value} (hi : ops[i]? = some oi)
    (hsel : ∀ (j : Nat) (o : Oper) cs b, ops[j]? = some o → o.op ≠ .select cs b) 
    (hlate : ∀ j oj, late.contains j = true → ops[j]? = some oj → ∃ e ∈ oj.after, Region.binds md e = true ∧ e.on = i) (hli : late.contains i = false) :
    ∀ (fuel : Nat) (listed : Array Bool) (a : Act) (w : World),
      (∀ j oj, ops[j]? = some oj → j ≠ i → listed.getD j true = false → (∀ e ∈ oj.after, Region.binds md e = true → e.on ≠ i) → oi.apart ops oj = true) →
      i ∈ Region.ready md ops listed → YS P ops S oi v a → S w →
      wpAnyX P md ops Q S late fuel (listed.setIfInBounds i true) (a.put oi.dst v) w → wpAnyX P md ops Q S late (fuel + 1) listed a w := by
  intro fuel
  induction fuel with
  | zero =>
    intro listed a w _ hr hy hS H
    refine ⟨fun h => (by rw [h] at hr; cases hr), fun j hj => ?_⟩
    by_cases hji : j = i
    · subst hji; exact hy.wpOp hi hS ⟨fun _ => hS, H⟩
    · have := ready_mono hj hji
      rw [H.1] at this
      cases this
  | succ fuel ih =>
    intro listed a w hfree hr hy hS H
    refine ⟨fun h => (by rw [h] at hr; cases hr), fun j hj => ?_⟩
    by_cases hji : j = i
    · subst hji; exact hy.wpOp hi hS ⟨fun _ => hS, H⟩
    · have h1 := H.2 j (ready_mono hj hji)
      obtain ⟨hjun, oj, hoj, hall⟩ := mem_ready.1 hj
      have hnot : ∀ e ∈ oj.after, Region.binds md e = true → e.on ≠ i := fun e he hb heq => by
        have h1 := hall e he hb
        have h0 := (mem_ready.1 hr).1
        rw [heq] at h1
        rcases Nat.lt_or_ge i listed.size with h' | h'
        · simp [h'] at h0 h1; rw [h0] at h1; cases h1
        · simp [Array.getElem?_eq_none h'] at h1
      have hlj : late.contains j = false := by
        cases hl : late.contains j with
        | false => rfl
        | true =>
          obtain ⟨e, he, hb, hon⟩ := hlate j oj hl hoj
          exact absurd hon (hnot e he hb)
      have h2 := wpOp_putS hoj (hfree j oj hoj hji hjun hnot) (fun cs b => hsel i oi cs b hi) (fun cs b => hsel j oj cs b hoj) hy h1
      have hfree' : ∀ k ok, ops[k]? = some ok → k ≠ i → (listed.setIfInBounds j true).getD k true = false →
          (∀ e ∈ ok.after, Region.binds md e = true → e.on ≠ i) → oi.apart ops ok = true := fun k ok hk hki hun hno => by
        refine hfree k ok hk hki ?_ hno
        by_cases hjk : j = k
        · subst hjk; exact hjun
        · rw [getD_set_ne true hjk] at hun; exact hun
      refine wpOp_mono (fun a' w' h3 => ⟨fun _ => h3.2.1 hlj, ih (listed.setIfInBounds j true) a' w' hfree' (ready_mono hr (Ne.symm hji)) h3.1 (h3.2.1 hlj) ?_⟩) h2
      rw [Array.setIfInBounds_comm _ _ hji]
      exact h3.2.2

/-- The walk in one order: sg: the order; st: those that read. -/
def wpX (P : Program) (ops : Array Oper) (Q : Exit → Act → World → Prop) (S : World → Prop) (st late : List Nat) : List Nat → Act → World → Prop
  | [], a, w => Q .normal a w
  | i :: rest, a, w =>
    if st.contains i then ∃ o v, ops[i]? = some o ∧ YS P ops S o v a ∧ S w ∧ wpX P ops Q S st late rest (a.put o.dst v) w
    else wpOp P ops (QN Q) i (fun a' w' => (late.contains i = false → S w') ∧ wpX P ops Q S st late rest a' w') a w

def checkGo (md : Region.Mode) (ops : Array Oper) (st : List Nat) : List Nat → Array Bool → Bool
  | [], listed => (Region.ready md ops listed).isEmpty
  | i :: rest, listed =>
    (if st.contains i then (Region.ready md ops listed).contains i && Region.free md ops listed i else Region.ready md ops listed == [i]) && checkGo md ops st rest (listed.setIfInBounds i true)

def checkLate (md : Region.Mode) (ops : Array Oper) (st late : List Nat) : Bool :=
  st.all fun i => !late.contains i && (List.range ops.size).all fun j => !late.contains j || match ops[j]? with
    | some oj => oj.after.any fun e => Region.binds md e && e.on == i
    | none => true

def checkX (md : Region.Mode) (ops : Array Oper) (st late sg : List Nat) : Bool :=
  Region.noSelect ops && checkLate md ops st late && checkGo md ops st sg (Array.replicate ops.size false)

theorem wpAnyX_of_wpX {Q : Exit → Act → World → Prop} {S : World → Prop} {st late : List Nat} (hsel : Region.noSelect ops = true) (hl : checkLate md ops st late = true) :
    ∀ (sg : List Nat) (listed : Array Bool) (a : Act) (w : World), checkGo md ops st sg listed = true → wpX P ops Q S st late sg a w → wpAnyX P md ops Q S late sg.length listed a w
  | [], listed, a, w, hc, h => ⟨by simpa [checkGo] using hc, h⟩
  | i :: rest, listed, a, w, hc, h => by
    simp only [checkGo, Bool.and_eq_true] at hc
    obtain ⟨hc1, hc2⟩ := hc
    simp only [wpX] at h
    by_cases hst : st.contains i = true
    · rw [if_pos hst] at hc1 h
      simp only [Bool.and_eq_true] at hc1
      obtain ⟨o, v, ho, hy, hS, hK⟩ := h
      simp only [checkLate, List.all_eq_true, Bool.and_eq_true, Bool.not_eq_true', List.mem_range, Bool.or_eq_true] at hl
      have hli := hl i (by simpa using hst)
      refine wpAnyX_first ho (Region.noSelect_spec hsel) (fun j oj hjl hj => ?_) hli.1 rest.length listed a w (Region.free_spec ho hc1.2) (by simpa using hc1.1) hy hS
        (wpAnyX_of_wpX hsel (by simpa [checkLate] using hl) rest _ _ _ hc2 hK)
      have h3 := hli.2 j (Array.getElem?_eq_some_iff.1 hj).1
      rw [hj] at h3
      rcases h3 with h3 | h3
      · rw [hjl] at h3; cases h3
      · obtain ⟨e, he, hb⟩ := Array.any_eq_true'.1 h3
        simp only [Bool.and_eq_true, beq_iff_eq] at hb
        exact ⟨e, he, hb.1, hb.2⟩
    · rw [if_neg hst] at hc1 h
      have hr : Region.ready md ops listed = [i] := by simpa using hc1
      refine ⟨fun h0 => (by rw [hr] at h0; cases h0), fun j hj => ?_⟩
      rw [hr] at hj
      obtain rfl : j = i := by simpa using hj
      exact wpOp_mono (fun a' w' h3 => ⟨h3.1, wpAnyX_of_wpX hsel hl rest _ a' w' hc2 h3.2⟩) h

theorem wp_region_X {id : Nat} {Q : Exit → Act → World → Prop} {l : List Oper} {a : Act} {w : World} (S : World → Prop) (st late sg : List Nat) (hm : P.follows .mixedOrders = true)
    (hB : (checkX .any l.toArray st late sg && sg.length == l.length) = true) (h : wpX P l.toArray Q S st late sg a w.drew) : (Code.region id l.toArray true).wp P Q a w := by
  simp only [checkX, Bool.and_eq_true, beq_iff_eq] at hB
  obtain ⟨⟨⟨h1, h2⟩, h3⟩, h4⟩ := hB
  refine wp_region_any hm (wpAny_of_X (S := S) (late := late) _ _ _ _ ?_)
  have := wpAnyX_of_wpX (Q := Q) (S := S) h1 h2 sg _ a w.drew h3 h
  rw [h4] at this
  simpa using this

theorem wpX_st {Q : Exit → Act → World → Prop} {S : World → Prop} {st late : List Nat} {i : Nat} {rest : List Nat} {a : Act} {w : World} (o : Oper) (v : Value) (hst : st.contains i = true) (ho : ops[i]? = some o)
    (hg : Region.wanted o (yielded ops a.tmps) = true) (hy : ∀ W, S W → (execOp a.eval o).run P W = .ok (.value v) W) (hS : S w) (h : wpX P ops Q S st late rest (a.put o.dst v) w) :
    wpX P ops Q S st late (i :: rest) a w := by
  simp only [wpX]; rw [if_pos hst]; exact ⟨o, v, ho, .inl ⟨hg, hy⟩, hS, h⟩

theorem wpX_no {Q : Exit → Act → World → Prop} {S : World → Prop} {st late : List Nat} {i : Nat} {rest : List Nat} {a : Act} {w : World} (o : Oper) (hst : st.contains i = true) (ho : ops[i]? = some o)
    (hg : Region.wanted o (yielded ops a.tmps) = false) (hS : S w) (h : wpX P ops Q S st late rest (a.put o.dst undef) w) :
    wpX P ops Q S st late (i :: rest) a w := by
  simp only [wpX]; rw [if_pos hst]; exact ⟨o, undef, ho, .inr ⟨hg, rfl⟩, hS, h⟩

theorem wpX_eff {Q : Exit → Act → World → Prop} {S : World → Prop} {st late : List Nat} {i : Nat} {rest : List Nat} {a : Act} {w : World} (o : Oper) (hst : st.contains i = false) (ho : ops[i]? = some o)
    (hg : Region.wanted o (yielded ops a.tmps) = true)
    (h : ∀ K : Act → World → Prop, (∀ a' w', (late.contains i = false → S w') → wpX P ops Q S st late rest a' w' → K a' w') → o.wp P a w K (QN Q)) :
    wpX P ops Q S st late (i :: rest) a w := by
  simp only [wpX]; rw [if_neg (by rw [hst]; simp)]
  unfold wpOp
  simp only [ho, hg, if_true]
  exact .inl (h _ (fun a' w' h1 h2 => ⟨h1, h2⟩))

end
#print axioms wp_region_X
end Go.Own
