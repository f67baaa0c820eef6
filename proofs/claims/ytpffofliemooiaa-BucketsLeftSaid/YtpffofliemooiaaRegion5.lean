/- A region that draws its order, walked in ONE order, under the wide fence or within a round (as XRegion3): also where it calls yield. -/
import Derived.Test.YtpffofliemooiaaRegion4
import Derived.OrdersIn
namespace Go.Own

/-- The wide fence, for frames of a round (some l) or not (none). -/
abbrev wideF (ro : Option Nat) : Fence := { Fence.wide with round := ro }
theorem wideF_none : wideF none = Fence.wide := rfl
theorem wideF_some (l : Nat) : wideF (some l) = Fence.wide.inRound l := rfl
def NoQ : Exit → Act → World → Prop := fun _ _ _ => False
def noDef (o : Oper) : Bool := match o.op with | .defer _ => false | _ => true
theorem noDef_spec {o : Oper} (h : noDef o = true) : ∀ c, o.op ≠ .defer c := fun c hc => by simp [noDef, hc] at h

theorem calls_in {ro : Option Nat} {n : Nat} {P : Program} {f : FuncId} {args : Array Value} {w : World} {R : Ending → World → Prop} (h : Calls P f args w R) : CallsIn (wideF ro) n P f args w R := (callsIn_wide (n := n)).2 h
theorem calls_out {ro : Option Nat} {n : Nat} {P : Program} {f : FuncId} {args : Array Value} {w : World} {R : Ending → World → Prop} (h : CallsIn (wideF ro) n P f args w R) : Calls P f args w R := (callsIn_wide (n := n)).1 h

/-- What a plain walk shows of one operation holds there, too. -/
theorem oper_in {ro : Option Nat} {n : Nat} {P : Program} {o : Oper} {a : Act} {w : World} {K : Act → World → Prop} {Q Q' : Exit → Act → World → Prop} (hd : noDef o = true) (h : o.wp P a w K (QN Q')) : o.wpIn (wideF ro) n P a w K Q := by
  refine ⟨fun _ _ => trivial, ?_⟩
  rw [show (wideF ro).round = ro from rfl, Oper.semAt_eq _ _ _ (noDef_spec hd)]
  unfold Oper.wp at h
  generalize (execOp a.eval o).run P w = r at *
  cases r with
  | ok x w' =>
    cases x <;> simp only [Oper.upon, Oper.uponIn] at h ⊢
    case value u => exact h
    case skip => exact h
    case defer d => exact h
    case enter f args =>
      refine ⟨(fun h => by cases h), calls_in (h.mono fun e w'' he => ?_)⟩
      cases e with
      | returned u => exact he
      | panicked c => exact he.elim
      | outgrown => obtain ⟨_, _, hf⟩ := he; exact hf.elim
    case row row args =>
      refine ⟨(fun h => by cases h), fun c cs _ => ?_⟩
      obtain ⟨v, w'', h1, h2⟩ := h c cs
      exact ⟨v, w'', h1, stepsIn_wide.2 h2⟩
  | halt x w' =>
    cases x <;> simp only [Oper.upon, Oper.uponIn] at h ⊢
    case panic u => exact h.elim

section
variable {ro : Option Nat} {n : Nat} {P : Program} {ops : Array Oper} {md : Region.Mode}

def opI (ro : Option Nat) (n : Nat) (P : Program) (ops : Array Oper) (i : Nat) (K : Act → World → Prop) (a : Act) (w : World) : Prop :=
  match ops[i]? with
  | none => K a w
  | some o => if Region.wanted o (yielded ops a.tmps) then o.wpIn (wideF ro) n P a w K NoQ else K (a.put o.dst undef) w

theorem operIn_NoQ {o : Oper} {a : Act} {w : World} {K K' : Act → World → Prop} {Q : Exit → Act → World → Prop} (h : ∀ a w, K a w → K' a w) (hh : o.wpIn (wideF ro) n P a w K NoQ) : o.wpIn (wideF ro) n P a w K' Q := by
  refine ⟨hh.1, ?_⟩
  have hh := hh.2
  generalize (o.semAt (wideF ro).round a.eval).run P w = r at *
  cases r with
  | ok x w' =>
    cases x <;> simp only [Oper.uponIn] at hh ⊢ <;>
      first
        | exact h _ _ hh
        | exact ⟨hh.1, CallsIn.mono hh.2 (fun e w'' he => by cases e <;> first | exact h _ _ he | exact he.elim | exact (by obtain ⟨_, _, hf⟩ := he; exact hf.elim))⟩
        | exact ⟨hh.1, RowsIn.mono hh.2 (fun _ _ he => h _ _ he)⟩
        | exact ⟨hh.1, RoundIn.mono hh.2 (fun e w'' he => by cases e <;> first | exact h _ _ he | exact he.elim | exact (by obtain ⟨_, _, hf⟩ := he; exact hf.elim))⟩
  | halt x w' => cases x <;> simp only [Oper.uponIn] at hh ⊢ <;> exact hh.elim

theorem opIn_of_opI {Q : Exit → Act → World → Prop} {i : Nat} {a : Act} {w : World} {K K' : Act → World → Prop} (h : ∀ a w, K a w → K' a w) (hh : opI ro n P ops i K a w) : wpOpIn (wideF ro) n P ops Q i K' a w := by
  unfold opI at hh
  unfold wpOpIn
  cases ho : ops[i]? with
  | none => simp only [ho] at hh; exact h _ _ hh
  | some o =>
    simp only [ho] at hh ⊢
    split
    · rename_i hw; simp only [hw, if_true] at hh; exact operIn_NoQ h hh
    · rename_i hw; simp only [hw] at hh; exact ⟨fun _ _ => trivial, h _ _ hh⟩

theorem opI_mono {i : Nat} {a : Act} {w : World} {K K' : Act → World → Prop} (h : ∀ a w, K a w → K' a w) (hh : opI ro n P ops i K a w) : opI ro n P ops i K' a w := by
  unfold opI at *
  split
  · exact h _ _ (by simpa [*] using hh)
  · rename_i o ho
    simp only [ho] at hh
    split
    · rename_i hw; simp only [hw, if_true] at hh; exact operIn_NoQ h hh
    · rename_i hw; simp only [hw] at hh; exact h _ _ hh

theorem YS.opI {S : World → Prop} {i : Nat} {o : Oper} {v : Value} {a : Act} (hd : noDef o = true) (hi : ops[i]? = some o) (hy : YS P ops S o v a)
    {K : Act → World → Prop} {w : World} (hS : S w) (h : K (a.put o.dst v) w) : opI ro n P ops i K a w := by
  unfold Go.Own.opI
  simp only [hi]
  rcases hy with ⟨hw, hv⟩ | ⟨hw, rfl⟩
  · simp only [hw, if_true, Oper.wpIn, Oper.semAt_eq _ _ _ (noDef_spec hd), hv w hS, Oper.uponIn]; exact ⟨fun _ _ => trivial, h⟩
  · simp only [hw, Bool.false_eq_true, if_false]; exact h

theorem opI_putS {S : World → Prop} {j : Nat} {oi oj : Oper} {v : Value} (hd : noDef oj = true) (hj : ops[j]? = some oj) (hap : oi.apart ops oj = true)
    (hsi : ∀ cs b, oi.op ≠ .select cs b) (hsj : ∀ cs b, oj.op ≠ .select cs b) {K : Act → World → Prop} {a : Act} {w : World}
    (hy : YS P ops S oi v a) (h : opI ro n P ops j K (a.put oi.dst v) w) :
    opI ro n P ops j (fun a' w' => YS P ops S oi v a' ∧ K (a'.put oi.dst v) w') a w := by
  obtain ⟨h1, h2, h3⟩ := Oper.apart_spec hap
  have keep : ∀ (a : Act), YS P ops S oi v a → ∀ u, YS P ops S oi v (a.put oj.dst u) := fun a hy u =>
    hy.of_same (execOp_put oi hsi a oj.dst u h3) (wanted_put oi a oj.dst u h3)
  have keepD : ∀ d, YS P ops S oi v { a with defers := d :: a.defers } := fun d => hy.of_same rfl rfl
  unfold opI at *
  simp only [hj] at *
  rw [wanted_put oj a oi.dst v h1] at h
  split
  · rename_i hw
    simp only [hw, if_true] at h
    unfold Oper.wpIn at *
    refine ⟨fun _ _ => trivial, ?_⟩
    have h := h.2
    rw [Oper.semAt_eq _ _ _ (noDef_spec hd), execOp_put oj hsj a oi.dst v h1] at h
    rw [Oper.semAt_eq _ _ _ (noDef_spec hd)]
    generalize (execOp a.eval oj).run P w = r at *
    cases r with
    | ok x w' =>
      cases x <;> simp only [Oper.uponIn] at h ⊢
      case value u => exact ⟨keep a hy u, by rw [← Act.put_comm a v u h2]; exact h⟩
      case skip => exact ⟨keep a hy _, by rw [← Act.put_comm a v undef h2]; exact h⟩
      case defer d =>
        refine ⟨keep _ (keepD d) _, ?_⟩
        rw [← Act.put_comm _ v undef h2, ← Act.put_defers]
        exact h
      case enter f args =>
        refine ⟨h.1, CallsIn.mono h.2 fun e w'' he => ?_⟩
        cases e with
        | returned u => exact ⟨keep a hy u, by rw [← Act.put_comm a v u h2]; exact he⟩
        | panicked c => exact he.elim
        | outgrown => exact he
      case row row args => exact ⟨h.1, RowsIn.mono h.2 fun u w'' he => ⟨keep a hy u, by rw [← Act.put_comm a v u h2]; exact he⟩⟩
      case round l f tmps assign body =>
        refine ⟨h.1, RoundIn.mono h.2 fun e w'' he => ?_⟩
        cases e with
        | returned u => exact ⟨keep a hy u, by rw [← Act.put_comm a v u h2]; exact he⟩
        | panicked c => exact he.elim
        | outgrown => exact he
    | halt x w' =>
      cases x <;> simp only [Oper.uponIn] at h ⊢
      case panic u => exact h.elim
  · rename_i hw
    simp only [hw] at h
    exact ⟨keep a hy _, by rw [← Act.put_comm a v undef h2]; exact h⟩
end

section
variable {ro : Option Nat} {n : Nat} {P : Program} {ops : Array Oper} {md : Region.Mode}

def anyI (ro : Option Nat) (n : Nat) (P : Program) (md : Region.Mode) (ops : Array Oper) (Q : Exit → Act → World → Prop) (S : World → Prop) (late pu : List Nat) : Nat → Array Bool → Act → World → Prop
  | 0, listed, a, w => Region.ready md ops listed = [] ∧ Q .normal a w
  | fuel + 1, listed, a, w =>
    (Region.ready md ops listed = [] → Q .normal a w) ∧
    ∀ i ∈ Region.ready md ops listed, opI ro n P ops i (fun a' w' => (late.contains i = false → pu.contains i = false → S w') ∧ (pu.contains i = true → w' = w) ∧ anyI ro n P md ops Q S late pu fuel (listed.setIfInBounds i true) a' w') a w

theorem anyIn_of_I {Q : Exit → Act → World → Prop} {S : World → Prop} {late pu : List Nat} : ∀ (fuel : Nat) (listed : Array Bool) (a : Act) (w : World),
    anyI ro n P md ops Q S late pu fuel listed a w → wpAnyIn (wideF ro) n P md ops Q fuel listed a w
  | 0, _, _, _, h => h
  | fuel + 1, _, _, _, h => ⟨h.1, fun i hi => opIn_of_opI (fun a' w' h3 => anyIn_of_I fuel _ a' w' h3.2.2) (h.2 i hi)⟩

theorem anyI_first {Q : Exit → Act → World → Prop} {S : World → Prop} {late pu : List Nat} {i : Nat} {oi : Oper} {v : Value} (hi : ops[i]? = some oi)
    (hnd : ∀ (j : Nat) (o : Oper), ops[j]? = some o → noDef o = true) (hsel : ∀ (j : Nat) (o : Oper) cs b, ops[j]? = some o → o.op ≠ .select cs b)
    (hlate : ∀ j oj, late.contains j = true → ops[j]? = some oj → ∃ e ∈ oj.after, Region.binds md e = true ∧ e.on = i) (hpi : pu.contains i = false) :
    ∀ (fuel : Nat) (listed : Array Bool) (a : Act) (w : World),
      (∀ j oj, ops[j]? = some oj → j ≠ i → listed.getD j true = false → (∀ e ∈ oj.after, Region.binds md e = true → e.on ≠ i) → oi.apart ops oj = true) →
      i ∈ Region.ready md ops listed → YS P ops S oi v a → S w →
      anyI ro n P md ops Q S late pu fuel (listed.setIfInBounds i true) (a.put oi.dst v) w → anyI ro n P md ops Q S late pu (fuel + 1) listed a w := by
  intro fuel
  induction fuel with
  | zero =>
    intro listed a w _ hr hy hS H
    refine ⟨fun h => (by rw [h] at hr; cases hr), fun j hj => ?_⟩
    by_cases hji : j = i
    · subst hji; exact YS.opI (hnd _ _ hi) hi hy hS ⟨fun _ _ => hS, fun _ => rfl, H⟩
    · have := ready_mono hj hji
      rw [H.1] at this
      cases this
  | succ fuel ih =>
    intro listed a w hfree hr hy hS H
    refine ⟨fun h => (by rw [h] at hr; cases hr), fun j hj => ?_⟩
    by_cases hji : j = i
    · subst hji; exact YS.opI (hnd _ _ hi) hi hy hS ⟨fun _ _ => hS, fun _ => rfl, H⟩
    · have h1 := H.2 j (ready_mono hj hji)
      obtain ⟨hjun, oj, hoj, hall⟩ := mem_ready.1 hj
      have hnot : ∀ e ∈ oj.after, Region.binds md e = true → e.on ≠ i := fun e he hb heq => by
        have h1 := hall e he hb
        have h0 := (mem_ready.1 hr).1
        rw [heq] at h1
        rcases Nat.lt_or_ge i listed.size with h' | h'
        · simp [h'] at h0 h1; rw [h0] at h1; cases h1
        · simp [Array.getElem?_eq_none h'] at h1
      have hlj : late.contains j = false := by
        cases hl : late.contains j with
        | false => rfl
        | true =>
          obtain ⟨e, he, hb, hon⟩ := hlate j oj hl hoj
          exact absurd hon (hnot e he hb)
      have h2 := opI_putS (hnd j oj hoj) hoj (hfree j oj hoj hji hjun hnot) (fun cs b => hsel i oi cs b hi) (fun cs b => hsel j oj cs b hoj) hy h1
      have hfree' : ∀ k ok, ops[k]? = some ok → k ≠ i → (listed.setIfInBounds j true).getD k true = false →
          (∀ e ∈ ok.after, Region.binds md e = true → e.on ≠ i) → oi.apart ops ok = true := fun k ok hk hki hun hno => by
        refine hfree k ok hk hki ?_ hno
        by_cases hjk : j = k
        · subst hjk; exact hjun
        · rw [getD_set_ne true hjk] at hun; exact hun
      refine opI_mono (fun a' w' h3 => ⟨h3.2.1, h3.2.2.1, ih (listed.setIfInBounds j true) a' w' hfree' (ready_mono hr (Ne.symm hji)) h3.1 ?_ ?_⟩) h2
      · cases hp : pu.contains j with
        | false => exact h3.2.1 hlj hp
        | true => rw [h3.2.2.1 hp]; exact hS
      · rw [Array.setIfInBounds_comm _ _ hji]
        exact h3.2.2.2

theorem anyI_firstT {Q : Exit → Act → World → Prop} {S : World → Prop} {late pu : List Nat} {i : Nat} {oi : Oper} {v : Value} (hi : ops[i]? = some oi)
    (hnd : ∀ (j : Nat) (o : Oper), ops[j]? = some o → noDef o = true) (hsel : ∀ (j : Nat) (o : Oper) cs b, ops[j]? = some o → o.op ≠ .select cs b) (hpi : pu.contains i = true) :
    ∀ (fuel : Nat) (listed : Array Bool) (a : Act) (w : World),
      (∀ j oj, ops[j]? = some oj → j ≠ i → listed.getD j true = false → (∀ e ∈ oj.after, Region.binds md e = true → e.on ≠ i) → oi.apart ops oj = true) →
      i ∈ Region.ready md ops listed → YS P ops (fun _ => True) oi v a →
      anyI ro n P md ops Q S late pu fuel (listed.setIfInBounds i true) (a.put oi.dst v) w → anyI ro n P md ops Q S late pu (fuel + 1) listed a w := by
  intro fuel
  induction fuel with
  | zero =>
    intro listed a w _ hr hy H
    refine ⟨fun h => (by rw [h] at hr; cases hr), fun j hj => ?_⟩
    by_cases hji : j = i
    · subst hji; exact YS.opI (hnd _ _ hi) hi hy trivial ⟨fun _ h => (by rw [hpi] at h; cases h), fun _ => rfl, H⟩
    · have := ready_mono hj hji
      rw [H.1] at this
      cases this
  | succ fuel ih =>
    intro listed a w hfree hr hy H
    refine ⟨fun h => (by rw [h] at hr; cases hr), fun j hj => ?_⟩
    by_cases hji : j = i
    · subst hji; exact YS.opI (hnd _ _ hi) hi hy trivial ⟨fun _ h => (by rw [hpi] at h; cases h), fun _ => rfl, H⟩
    · have h1 := H.2 j (ready_mono hj hji)
      obtain ⟨hjun, oj, hoj, hall⟩ := mem_ready.1 hj
      have hnot : ∀ e ∈ oj.after, Region.binds md e = true → e.on ≠ i := fun e he hb heq => by
        have h1 := hall e he hb
        have h0 := (mem_ready.1 hr).1
        rw [heq] at h1
        rcases Nat.lt_or_ge i listed.size with h' | h'
        · simp [h'] at h0 h1; rw [h0] at h1; cases h1
        · simp [Array.getElem?_eq_none h'] at h1
      have h2 := opI_putS (hnd j oj hoj) hoj (hfree j oj hoj hji hjun hnot) (fun cs b => hsel i oi cs b hi) (fun cs b => hsel j oj cs b hoj) hy h1
      have hfree' : ∀ k ok, ops[k]? = some ok → k ≠ i → (listed.setIfInBounds j true).getD k true = false →
          (∀ e ∈ ok.after, Region.binds md e = true → e.on ≠ i) → oi.apart ops ok = true := fun k ok hk hki hun hno => by
        refine hfree k ok hk hki ?_ hno
        by_cases hjk : j = k
        · subst hjk; exact hjun
        · rw [getD_set_ne true hjk] at hun; exact hun
      refine opI_mono (fun a' w' h3 => ⟨h3.2.1, h3.2.2.1, ih (listed.setIfInBounds j true) a' w' hfree' (ready_mono hr (Ne.symm hji)) h3.1 ?_⟩) h2
      rw [Array.setIfInBounds_comm _ _ hji]
      exact h3.2.2.2

/-- The walk in one order: sg: the order; st: those that read; pu: those that memory is nothing to. -/
def wpI (ro : Option Nat) (n : Nat) (P : Program) (ops : Array Oper) (Q : Exit → Act → World → Prop) (S : World → Prop) (st late pu : List Nat) : List Nat → Act → World → Prop
  | [], a, w => Q .normal a w
  | i :: rest, a, w =>
    if st.contains i then ∃ o v, ops[i]? = some o ∧ YS P ops S o v a ∧ S w ∧ wpI ro n P ops Q S st late pu rest (a.put o.dst v) w
    else if pu.contains i then ∃ o v, ops[i]? = some o ∧ YS P ops (fun _ => True) o v a ∧ wpI ro n P ops Q S st late pu rest (a.put o.dst v) w
    else opI ro n P ops i (fun a' w' => (late.contains i = false → S w') ∧ wpI ro n P ops Q S st late pu rest a' w') a w

def checkGoI (md : Region.Mode) (ops : Array Oper) (st pu : List Nat) : List Nat → Array Bool → Bool
  | [], listed => (Region.ready md ops listed).isEmpty
  | i :: rest, listed =>
    (if st.contains i || pu.contains i then (Region.ready md ops listed).contains i && Region.free md ops listed i else Region.ready md ops listed == [i]) && checkGoI md ops st pu rest (listed.setIfInBounds i true)

def checkI (md : Region.Mode) (ops : Array Oper) (st late pu sg : List Nat) : Bool :=
  Region.noSelect ops && checkLate md ops st late && st.all (fun i => !pu.contains i) && checkGoI md ops st pu sg (Array.replicate ops.size false)

theorem anyI_of_wpI {Q : Exit → Act → World → Prop} {S : World → Prop} {st late pu : List Nat} (hnd : ∀ (j : Nat) (o : Oper), ops[j]? = some o → noDef o = true) (hsel : Region.noSelect ops = true) (hl : checkLate md ops st late = true) (hsp : st.all (fun i => !pu.contains i) = true) :
    ∀ (sg : List Nat) (listed : Array Bool) (a : Act) (w : World), checkGoI md ops st pu sg listed = true → wpI ro n P ops Q S st late pu sg a w → anyI ro n P md ops Q S late pu sg.length listed a w
  | [], listed, a, w, hc, h => ⟨by simpa [checkGoI] using hc, h⟩
  | i :: rest, listed, a, w, hc, h => by
    simp only [checkGoI, Bool.and_eq_true] at hc
    obtain ⟨hc1, hc2⟩ := hc
    simp only [wpI] at h
    by_cases hst : st.contains i = true
    · rw [if_pos (by rw [hst]; rfl)] at hc1
      rw [if_pos hst] at h
      simp only [Bool.and_eq_true] at hc1
      obtain ⟨o, v, ho, hy, hS, hK⟩ := h
      simp only [checkLate, List.all_eq_true, Bool.and_eq_true, Bool.not_eq_true', List.mem_range, Bool.or_eq_true] at hl
      have hli := hl i (by simpa using hst)
      have hpi : pu.contains i = false := by
        have := List.all_eq_true.1 hsp i (by simpa using hst)
        simpa using this
      refine anyI_first ho hnd (Region.noSelect_spec hsel) (fun j oj hjl hj => ?_) hpi rest.length listed a w (Region.free_spec ho hc1.2) (by simpa using hc1.1) hy hS
        (anyI_of_wpI hnd hsel (by simpa [checkLate] using hl) hsp rest _ _ _ hc2 hK)
      have h3 := hli.2 j (Array.getElem?_eq_some_iff.1 hj).1
      rw [hj] at h3
      rcases h3 with h3 | h3
      · rw [hjl] at h3; cases h3
      · obtain ⟨e, he, hb⟩ := Array.any_eq_true'.1 h3
        simp only [Bool.and_eq_true, beq_iff_eq] at hb
        exact ⟨e, he, hb.1, hb.2⟩
    · rw [if_neg hst] at h
      by_cases hpu : pu.contains i = true
      · rw [if_pos (by rw [hpu]; simp)] at hc1
        rw [if_pos hpu] at h
        simp only [Bool.and_eq_true] at hc1
        obtain ⟨o, v, ho, hy, hK⟩ := h
        exact anyI_firstT ho hnd (Region.noSelect_spec hsel) hpu rest.length listed a w (Region.free_spec ho hc1.2) (by simpa using hc1.1) hy (anyI_of_wpI hnd hsel hl hsp rest _ _ _ hc2 hK)
      · rw [if_neg hpu] at h
        rw [if_neg (by simp only [Bool.not_eq_true] at hst hpu; rw [hst, hpu]; simp)] at hc1
        have hr : Region.ready md ops listed = [i] := by simpa using hc1
        refine ⟨fun h0 => (by rw [hr] at h0; cases h0), fun j hj => ?_⟩
        rw [hr] at hj
        obtain rfl : j = i := by simpa using hj
        exact opI_mono (fun a' w' h3 => ⟨fun h _ => h3.1 h, fun h => absurd h hpu, anyI_of_wpI hnd hsel hl hsp rest _ a' w' hc2 h3.2⟩) h

theorem wpIn_region_I {id : Nat} {Q : Exit → Act → World → Prop} {l : List Oper} {a : Act} {w : World} (S : World → Prop) (st late pu sg : List Nat) (hm : P.follows .mixedOrders = true)
    (hB : (checkI .any l.toArray st late pu sg && sg.length == l.length && l.all noDef) = true) (h : wpI ro n P l.toArray Q S st late pu sg a w.drew) : (Code.region id l.toArray true).wpIn (wideF ro) n P Q a w := by
  simp only [checkI, Bool.and_eq_true, beq_iff_eq] at hB
  obtain ⟨⟨⟨⟨⟨h1, h2⟩, h5⟩, h3⟩, h4⟩, h6⟩ := hB
  have hnd : ∀ (j : Nat) (o : Oper), l.toArray[j]? = some o → noDef o = true := fun j o ho => List.all_eq_true.1 h6 o (List.mem_of_getElem? (by simpa using ho))
  refine wpIn_region_any hm (anyIn_of_I (S := S) (late := late) (pu := pu) _ _ _ _ ?_)
  have := anyI_of_wpI (Q := Q) (S := S) hnd h1 h2 h5 sg _ a w.drew h3 h
  rw [h4] at this
  simpa using this

theorem wpI_st {Q : Exit → Act → World → Prop} {S : World → Prop} {st late pu : List Nat} {i : Nat} {rest : List Nat} {a : Act} {w : World} (o : Oper) (v : Value) (hst : st.contains i = true) (ho : ops[i]? = some o)
    (hg : Region.wanted o (yielded ops a.tmps) = true) (hy : ∀ W, S W → (execOp a.eval o).run P W = .ok (.value v) W) (hS : S w) (h : wpI ro n P ops Q S st late pu rest (a.put o.dst v) w) :
    wpI ro n P ops Q S st late pu (i :: rest) a w := by
  simp only [wpI]; rw [if_pos hst]; exact ⟨o, v, ho, .inl ⟨hg, hy⟩, hS, h⟩

theorem wpI_pu {Q : Exit → Act → World → Prop} {S : World → Prop} {st late pu : List Nat} {i : Nat} {rest : List Nat} {a : Act} {w : World} (o : Oper) (v : Value) (hst : st.contains i = false) (hpu : pu.contains i = true) (ho : ops[i]? = some o)
    (hg : Region.wanted o (yielded ops a.tmps) = true) (hy : ∀ W, (execOp a.eval o).run P W = .ok (.value v) W) (h : wpI ro n P ops Q S st late pu rest (a.put o.dst v) w) :
    wpI ro n P ops Q S st late pu (i :: rest) a w := by
  simp only [wpI]; rw [if_neg (by rw [hst]; simp), if_pos hpu]; exact ⟨o, v, ho, .inl ⟨hg, fun W _ => hy W⟩, h⟩

/-- An operation whose guard says no. -/
theorem wpI_no {Q : Exit → Act → World → Prop} {S : World → Prop} {st late pu : List Nat} {i : Nat} {rest : List Nat} {a : Act} {w : World} (o : Oper) (hst : st.contains i = false) (hpu : pu.contains i = true) (ho : ops[i]? = some o)
    (hg : Region.wanted o (yielded ops a.tmps) = false) (h : wpI ro n P ops Q S st late pu rest (a.put o.dst undef) w) :
    wpI ro n P ops Q S st late pu (i :: rest) a w := by
  simp only [wpI]; rw [if_neg (by rw [hst]; simp), if_pos hpu]; exact ⟨o, undef, ho, .inr ⟨hg, rfl⟩, h⟩
theorem wpI_noS {Q : Exit → Act → World → Prop} {S : World → Prop} {st late pu : List Nat} {i : Nat} {rest : List Nat} {a : Act} {w : World} (o : Oper) (hst : st.contains i = true) (ho : ops[i]? = some o)
    (hg : Region.wanted o (yielded ops a.tmps) = false) (hS : S w) (h : wpI ro n P ops Q S st late pu rest (a.put o.dst undef) w) :
    wpI ro n P ops Q S st late pu (i :: rest) a w := by
  simp only [wpI]; rw [if_pos hst]; exact ⟨o, undef, ho, .inr ⟨hg, rfl⟩, hS, h⟩
/-- A forced one whose guard says no. -/
theorem wpI_noE {Q : Exit → Act → World → Prop} {S : World → Prop} {st late pu : List Nat} {i : Nat} {rest : List Nat} {a : Act} {w : World} (o : Oper) (hst : st.contains i = false) (hpu : pu.contains i = false) (ho : ops[i]? = some o)
    (hg : Region.wanted o (yielded ops a.tmps) = false) (hS : late.contains i = false → S w) (h : wpI ro n P ops Q S st late pu rest (a.put o.dst undef) w) :
    wpI ro n P ops Q S st late pu (i :: rest) a w := by
  simp only [wpI]; rw [if_neg (by rw [hst]; simp), if_neg (by rw [hpu]; simp)]
  unfold opI
  simp only [ho, hg, Bool.false_eq_true, if_false]
  exact ⟨hS, h⟩

theorem wpI_eff {Q : Exit → Act → World → Prop} {S : World → Prop} {st late pu : List Nat} {i : Nat} {rest : List Nat} {a : Act} {w : World} (o : Oper) (hst : st.contains i = false) (hpu : pu.contains i = false) (ho : ops[i]? = some o)
    (hg : Region.wanted o (yielded ops a.tmps) = true)
    (h : ∀ K : Act → World → Prop, (∀ a' w', (late.contains i = false → S w') → wpI ro n P ops Q S st late pu rest a' w' → K a' w') → o.wpIn (wideF ro) n P a w K NoQ) :
    wpI ro n P ops Q S st late pu (i :: rest) a w := by
  simp only [wpI]; rw [if_neg (by rw [hst]; simp), if_neg (by rw [hpu]; simp)]
  unfold opI
  simp only [ho, hg, if_true]
  exact h _ (fun a' w' h1 h2 => ⟨h1, h2⟩)

end
#print axioms wpIn_region_I
end Go.Own
