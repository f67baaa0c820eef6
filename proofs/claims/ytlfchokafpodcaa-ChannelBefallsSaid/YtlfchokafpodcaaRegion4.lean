/- A region that draws its order, with two operations of which either may come first: both orders. -/
import Derived.Test.YtlfchokafpodcaaRegion3
namespace Go.Own

section
variable {P : Program} {ops : Array Oper} {md : Region.Mode}

theorem wpOp_QN_swap {Q Q2 : Exit → Act → World → Prop} {i : Nat} {K : Act → World → Prop} {a : Act} {w : World} (h : wpOp P ops (QN Q) i K a w) : wpOp P ops (QN Q2) i K a w := by
  unfold wpOp at *
  split
  · rename_i ho; simp only [ho] at h; exact h
  · rename_i o ho
    simp only [ho] at h
    split
    · rename_i hw
      simp only [hw, if_true] at h
      rcases h with h | ⟨_, hlets⟩
      case inr => obtain ⟨_, _, hf⟩ := hlets; exact hf.elim
      refine .inl ?_
      unfold Oper.wp at *
      generalize (execOp a.eval o).run P w = r at *
      cases r with
      | ok n w' =>
        cases n <;> simp only [Oper.upon] at h ⊢ <;> exact h
      | halt x w' =>
        cases x <;> simp only [Oper.upon] at h ⊢
        case panic u => exact h.elim
    · rename_i hw; simp only [hw] at h; exact h

/-- F at the normal end alone. -/
def FQ (F : Act → World → Prop) : Exit → Act → World → Prop
  | .normal, a, w => F a w
  | _, _, _ => False

def listAfter : List Nat → Array Bool → Array Bool
  | [], l => l
  | i :: r, l => listAfter r (l.setIfInBounds i true)

def checkPre (md : Region.Mode) (ops : Array Oper) (st pu : List Nat) : List Nat → Array Bool → Bool
  | [], _ => true
  | i :: rest, listed =>
    (if st.contains i || pu.contains i then (Region.ready md ops listed).contains i && Region.free md ops listed i else Region.ready md ops listed == [i]) && checkPre md ops st pu rest (listed.setIfInBounds i true)

theorem wpAnyZ_pre {Q : Exit → Act → World → Prop} {F : Act → World → Prop} {S : World → Prop} {st late pu : List Nat} (hsel : Region.noSelect ops = true) (hl : checkLate md ops st late = true) (hsp : st.all (fun i => !pu.contains i) = true) (n : Nat) :
    ∀ (sg : List Nat) (listed : Array Bool) (a : Act) (w : World), checkPre md ops st pu sg listed = true → (∀ a' w', F a' w' → wpAnyZ P md ops Q S late pu n (listAfter sg listed) a' w') → wpZ P ops (FQ F) S st late pu sg a w → wpAnyZ P md ops Q S late pu (n + sg.length) listed a w
  | [], listed, a, w, _, hF, h => hF a w h
  | i :: rest, listed, a, w, hc, hF, h => by
    simp only [checkPre, Bool.and_eq_true] at hc
    obtain ⟨hc1, hc2⟩ := hc
    simp only [wpZ] at h
    show wpAnyZ P md ops Q S late pu (n + rest.length + 1) listed a w
    by_cases hst : st.contains i = true
    · rw [if_pos (by rw [hst]; rfl)] at hc1
      rw [if_pos hst] at h
      simp only [Bool.and_eq_true] at hc1
      obtain ⟨o, v, ho, hy, hS, hK⟩ := h
      simp only [checkLate, List.all_eq_true, Bool.and_eq_true, Bool.not_eq_true', List.mem_range, Bool.or_eq_true] at hl
      have hli := hl i (by simpa using hst)
      have hpi : pu.contains i = false := by
        have := List.all_eq_true.1 hsp i (by simpa using hst)
        simpa using this
      refine wpAnyZ_first ho (Region.noSelect_spec hsel) (fun j oj hjl hj => ?_) hpi (n + rest.length) listed a w (Region.free_spec ho hc1.2) (by simpa using hc1.1) hy hS
        (wpAnyZ_pre hsel (by simpa [checkLate] using hl) hsp n rest _ _ _ hc2 hF hK)
      have h3 := hli.2 j (Array.getElem?_eq_some_iff.1 hj).1
      rw [hj] at h3
      rcases h3 with h3 | h3
      · rw [hjl] at h3; cases h3
      · obtain ⟨e, he, hb⟩ := Array.any_eq_true'.1 h3
        simp only [Bool.and_eq_true, beq_iff_eq] at hb
        exact ⟨e, he, hb.1, hb.2⟩
    · rw [if_neg hst] at h
      by_cases hpu : pu.contains i = true
      · rw [if_pos (by rw [hpu]; simp)] at hc1
        rw [if_pos hpu] at h
        simp only [Bool.and_eq_true] at hc1
        obtain ⟨o, v, ho, hy, hK⟩ := h
        exact wpAnyZ_firstT ho (Region.noSelect_spec hsel) hpu (n + rest.length) listed a w (Region.free_spec ho hc1.2) (by simpa using hc1.1) hy (wpAnyZ_pre hsel hl hsp n rest _ _ _ hc2 hF hK)
      · rw [if_neg hpu] at h
        rw [if_neg (by simp only [Bool.not_eq_true] at hst hpu; rw [hst, hpu]; simp)] at hc1
        have hr : Region.ready md ops listed = [i] := by simpa using hc1
        refine ⟨fun h0 => (by rw [hr] at h0; cases h0), fun j hj => ?_⟩
        rw [hr] at hj
        obtain rfl : j = i := by simpa using hj
        exact wpOp_mono (fun a' w' h3 => ⟨fun h _ => h3.1 h, fun h => absurd h hpu, wpAnyZ_pre hsel hl hsp n rest _ a' w' hc2 hF h3.2⟩) (wpOp_QN_swap h)

/-- Orders: a list; or a list, then either of two, each with what follows. -/
inductive ZP where
  | run (sg : List Nat)
  | fork (sg : List Nat) (i : Nat) (p : ZP) (j : Nat) (q : ZP)

def ZP.depth : ZP → Nat
  | .run sg => sg.length
  | .fork sg _ p _ _ => p.depth + 1 + sg.length

def wpZP (P : Program) (ops : Array Oper) (Q : Exit → Act → World → Prop) (S : World → Prop) (st late pu : List Nat) : ZP → Act → World → Prop
  | .run sg, a, w => wpZ P ops Q S st late pu sg a w
  | .fork sg i p j q, a, w => wpZ P ops (FQ fun a w =>
      wpOp P ops (QN Q) i (fun a' w' => (late.contains i = false → S w') ∧ wpZP P ops Q S st late pu p a' w') a w ∧
      wpOp P ops (QN Q) j (fun a' w' => (late.contains j = false → S w') ∧ wpZP P ops Q S st late pu q a' w') a w) S st late pu sg a w

def checkZP (md : Region.Mode) (ops : Array Oper) (st pu : List Nat) : ZP → Array Bool → Bool
  | .run sg, l => checkGoZ md ops st pu sg l
  | .fork sg i p j q, l => checkPre md ops st pu sg l && (Region.ready md ops (listAfter sg l) == [i, j]) && (!pu.contains i) && (!pu.contains j) && (p.depth == q.depth) &&
      checkZP md ops st pu p ((listAfter sg l).setIfInBounds i true) && checkZP md ops st pu q ((listAfter sg l).setIfInBounds j true)

theorem wpAnyZ_of_wpZP {Q : Exit → Act → World → Prop} {S : World → Prop} {st late pu : List Nat} (hsel : Region.noSelect ops = true) (hl : checkLate md ops st late = true) (hsp : st.all (fun i => !pu.contains i) = true) :
    ∀ (p : ZP) (listed : Array Bool) (a : Act) (w : World), checkZP md ops st pu p listed = true → wpZP P ops Q S st late pu p a w → wpAnyZ P md ops Q S late pu p.depth listed a w
  | .run sg, listed, a, w, hc, h => wpAnyZ_of_wpZ hsel hl hsp sg listed a w hc h
  | .fork sg i p j q, listed, a, w, hc, h => by
    simp only [checkZP, Bool.and_eq_true, beq_iff_eq, Bool.not_eq_true'] at hc
    obtain ⟨⟨⟨⟨⟨⟨h1, h2⟩, h3⟩, h4⟩, h5⟩, h6⟩, h7⟩ := hc
    refine wpAnyZ_pre hsel hl hsp (p.depth + 1) sg listed a w h1 (fun a' w' hF => ?_) h
    refine ⟨fun h0 => (by rw [h2] at h0; cases h0), fun k hk => ?_⟩
    rw [h2] at hk
    simp only [List.mem_cons, List.not_mem_nil, or_false] at hk
    rcases hk with rfl | rfl
    · exact wpOp_mono (fun a' w' g => ⟨fun hh _ => g.1 hh, fun hh => (by rw [h3] at hh; cases hh), wpAnyZ_of_wpZP hsel hl hsp p _ a' w' h6 g.2⟩) hF.1
    · refine wpOp_mono (fun a' w' g => ⟨fun hh _ => g.1 hh, fun hh => (by rw [h4] at hh; cases hh), ?_⟩) hF.2
      rw [h5]
      exact wpAnyZ_of_wpZP hsel hl hsp q _ a' w' h7 g.2

theorem wp_region_ZP {id : Nat} {Q : Exit → Act → World → Prop} {l : List Oper} {a : Act} {w : World} (S : World → Prop) (st late pu : List Nat) (p : ZP) (hm : P.follows .mixedOrders = true)
    (hB : (Region.noSelect l.toArray && checkLate .any l.toArray st late && st.all (fun i => !pu.contains i) && checkZP .any l.toArray st pu p (Array.replicate l.toArray.size false) && p.depth == l.length) = true)
    (h : wpZP P l.toArray Q S st late pu p a w.drew) : (Code.region id l.toArray true).wp P Q a w := by
  simp only [Bool.and_eq_true, beq_iff_eq] at hB
  obtain ⟨⟨⟨⟨h1, h2⟩, h5⟩, h3⟩, h4⟩ := hB
  refine wp_region_any hm (wpAny_of_Z (S := S) (late := late) (pu := pu) _ _ _ _ ?_)
  have := wpAnyZ_of_wpZP (Q := Q) (S := S) h1 h2 h5 p _ a w.drew h3 h
  rw [h4] at this
  simpa using this

theorem wpZ_fork {F : Act → World → Prop} {S : World → Prop} {st late pu : List Nat} {a : Act} {w : World} (h : F a w) : wpZ P ops (FQ F) S st late pu [] a w := h

/-- At the fork: a step of its own for each of the two. -/
theorem fork_eff {Q : Exit → Act → World → Prop} {S : World → Prop} {late : List Nat} {i : Nat} {K0 : Act → World → Prop} {a : Act} {w : World} (o : Oper) (ho : ops[i]? = some o)
    (hg : Region.wanted o (yielded ops a.tmps) = true)
    (h : ∀ K : Act → World → Prop, (∀ a' w', (late.contains i = false → S w') → K0 a' w' → K a' w') → o.wp P a w K (QN Q)) :
    wpOp P ops (QN Q) i (fun a' w' => (late.contains i = false → S w') ∧ K0 a' w') a w := by
  unfold wpOp
  simp only [ho, hg, if_true]
  exact .inl (h _ (fun a' w' h1 h2 => ⟨h1, h2⟩))

end
#print axioms wp_region_ZP
end Go.Own
