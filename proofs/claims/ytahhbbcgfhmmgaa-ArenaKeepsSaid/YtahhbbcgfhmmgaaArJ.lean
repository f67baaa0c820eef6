/- An arena's invariant through Drop. -/
import Derived.Test.YtahhbbcgfhmmgaaArI
namespace Go.Proofs.Ytahhbbcgfhmmgaa

def cutA (A : AR) (i : Nat) : AR := { A with all := A.all.set i PL.zero, free := A.free ++ [i], taken := A.taken - 1 }
def lessA (A : AR) (id : Int) : AR := if id < 0 then A else { A with all := A.all.set id.toNat { plA A id with kids := (plA A id).kids - 1 } }
def loose (A : AR) (id : Int) : Prop := 0 ≤ id ∧ (plA A id).held = false ∧ (plA A id).kids = 0
instance (A : AR) (id : Int) : Decidable (loose A id) := by unfold loose; exact inferInstance
def goA : Nat → AR → Int → AR × Nat
  | 0, A, _ => (A, 0)
  | f + 1, A, id => if loose A id then ((goA f (lessA (cutA A id.toNat) (plA A id).parent) (plA A id).parent).1, (goA f (lessA (cutA A id.toNat) (plA A id).parent) (plA A id).parent).2 + 1) else (A, 0)
def unA (A : AR) (id : Int) : AR := { A with all := A.all.set id.toNat { plA A id with held := false } }
def dropA (A : AR) (id : Int) : Nat × Nat × AR := if hasA A id = false ∨ (plA A id).held = false then (0, 120, A) else ((goA A.taken (unA A id) id).2, 0, (goA A.taken (unA A id) id).1)
theorem goA_no {A : AR} {id : Int} (h : ¬ loose A id) (f : Nat) : goA f A id = (A, 0) := by
  cases f with
  | zero => rfl
  | succ f => rw [goA, if_neg h]
theorem goA_yes {A : AR} {id : Int} (h : loose A id) (f : Nat) : goA (f + 1) A id = ((goA f (lessA (cutA A id.toNat) (plA A id).parent) (plA A id).parent).1, (goA f (lessA (cutA A id.toNat) (plA A id).parent) (plA A id).parent).2 + 1) := by
  rw [goA, if_pos h]

/-- A place whose flag 'held' or nothing but that changes. -/
theorem AI.flag {A : AR} {born : Nat → Nat} (hI : AI A born) {i : Nat} {p : PL} (hp : A.all[i]? = some p) (ht : p.taken = true) : AI (unA A i) born := by
  have hi : i < A.all.length := (List.getElem?_eq_some_iff.1 hp).1
  have e : unA A i = { A with all := A.all.set i { p with held := false } } := by unfold unA; rw [plA_in hp]; rfl
  rw [e]
  have hset : ∀ j, (A.all.set i { p with held := false })[j]? = if j = i then some { p with held := false } else A.all[j]? := fun j => by
    by_cases h : j = i
    · subst h; rw [if_pos rfl, List.getElem?_set_self hi]
    · rw [if_neg h, List.getElem?_set_ne (Ne.symm h)]
  refine ⟨hI.cap1, hI.cap2, by simpa using hI.len, hI.nodup, fun j => ?_, by simpa using hI.count, fun j r hr hrt => ?_, fun j r hr hrt => ?_, fun j r hr hrt => ?_, fun j r hr => ?_⟩
  · dsimp only
    rw [hset j]
    by_cases h : j = i
    · subst h
      rw [if_pos rfl, hI.free j]
      simp [hp, ht]
    · rw [if_neg h]; exact hI.free j
  · dsimp only at hr
    rw [hset j] at hr
    by_cases h : j = i
    · rw [if_pos h] at hr; simp at hr; subst hr; simp [ht] at hrt
    · rw [if_neg h] at hr; exact hI.zero j r hr hrt
  · dsimp only at hr ⊢
    rw [hset j] at hr
    obtain ⟨r0, h1, h2, h3⟩ : ∃ r0, A.all[j]? = some r0 ∧ r0.taken = true ∧ r0.parent = r.parent := by
      by_cases h : j = i
      · rw [if_pos h] at hr; simp at hr; exact ⟨p, by rw [h]; exact hp, ht, by rw [← hr]⟩
      · rw [if_neg h] at hr; exact ⟨r, hr, hrt, rfl⟩
    rcases hI.up j r0 h1 h2 with h | ⟨u, q, g1, g2, g3, g4⟩
    · exact .inl (by omega)
    · refine .inr ⟨u, if u = i then { p with held := false } else q, by omega, ?_, ?_, g4⟩
      · rw [hset u]; split
        · rfl
        · exact g2
      · split
        · exact ht
        · exact g3
  · dsimp only at hr ⊢
    rw [kidsOf_same (q' := { p with held := false }) _ hp rfl]
    rw [hset j] at hr
    by_cases h : j = i
    · rw [if_pos h] at hr; simp at hr; subst hr; subst h; exact hI.kids j p hp ht
    · rw [if_neg h] at hr; exact hI.kids j r hr hrt
  · dsimp only at hr
    rw [hset j] at hr
    by_cases h : j = i
    · rw [if_pos h] at hr; simp at hr; subst hr; exact hI.nums i p hp
    · rw [if_neg h] at hr; exact hI.nums j r hr

/-- A place that nobody needs goes. -/
theorem AI.cut {A : AR} {born : Nat → Nat} (hI : AI A born) {i : Nat} {p : PL} (hp : A.all[i]? = some p) (ht : p.taken = true) (hk : p.kids = 0) : AI (lessA (cutA A i) p.parent) born ∧ (lessA (cutA A i) p.parent).taken = A.taken - 1 ∧
    (∀ j, j ≠ i → (j : Int) ≠ p.parent → (lessA (cutA A i) p.parent).all[j]? = A.all[j]?) ∧ (lessA (cutA A i) p.parent).all[i]? = some PL.zero ∧
    (∀ u : Nat, (u : Int) = p.parent → ∃ q, A.all[u]? = some q ∧ q.taken = true ∧ (lessA (cutA A i) p.parent).all[u]? = some { q with kids := q.kids - 1 }) := by
  have hi : i < A.all.length := (List.getElem?_eq_some_iff.1 hp).1
  have h1 := hI.lt hp ht
  have hnf : i ∉ A.free := fun h => by
    obtain ⟨q, h2, h3⟩ := (hI.free i).1 h
    rw [hp] at h2; simp at h2; subst h2
    rw [ht] at h3; exact absurd h3 (by simp)
  have hk0 : kidsOf A.all i = 0 := by rw [← hI.kids i p hp ht]; exact hk
  have hset : ∀ j, (A.all.set i PL.zero)[j]? = if j = i then some PL.zero else A.all[j]? := fun j => by
    by_cases h : j = i
    · subst h; rw [if_pos rfl, List.getElem?_set_self hi]
    · rw [if_neg h, List.getElem?_set_ne (Ne.symm h)]
  have hkid : ∀ x, kidsOf (A.all.set i PL.zero) x + (if p.parent = x then 1 else 0) = kidsOf A.all x := fun x => by
    have := kidsOf_set (p := PL.zero) x hp
    have e1 : isKid x PL.zero = false := by simp [isKid, PL.zero]
    have e2 : isKid x p = decide (p.parent = x) := by simp [isKid, ht]
    rw [e1, e2] at this
    simp only [decide_eq_true_eq] at this
    simpa using this
  have hnd : (A.free ++ [i]).Nodup := by
    rw [List.nodup_append]
    exact ⟨hI.nodup, by simp, fun a ha b hb hab => by simp at hb; subst hb; subst hab; exact hnf ha⟩
  have hcnt := hI.count
  rcases hI.up i p hp ht with hpar | ⟨u, q, hpar, hq, hqt, hb⟩
  · have e : lessA (cutA A i) p.parent = cutA A i := by unfold lessA; rw [if_pos (by omega)]
    rw [e]
    refine ⟨⟨hI.cap1, hI.cap2, by simpa [cutA] using hI.len, hnd, fun j => ?_, by simp [cutA]; omega, fun j r hr hrt => ?_, fun j r hr hrt => ?_, fun j r hr hrt => ?_, fun j r hr => ?_⟩, rfl, fun j hj _ => by simp only [cutA]; rw [hset j, if_neg hj], by simp only [cutA]; rw [hset i, if_pos rfl], fun u hu => by omega⟩
    all_goals (try simp only [cutA] at hr)
    all_goals (try rw [hset j] at hr)
    · simp only [cutA]
      rw [hset j, List.mem_append, hI.free j]
      by_cases h : j = i
      · subst h; simp [hp, ht, PL.zero]
      · simp [h]
    · by_cases h : j = i
      · rw [if_pos h] at hr; simp at hr; exact hr.symm
      · rw [if_neg h] at hr; exact hI.zero j r hr hrt
    · by_cases h : j = i
      · rw [if_pos h] at hr; simp at hr; subst hr; simp [PL.zero] at hrt
      · rw [if_neg h] at hr
        rcases hI.up j r hr hrt with h | ⟨u, q, g1, g2, g3, g4⟩
        · exact .inl h
        · have hu : u ≠ i := by
            rintro rfl
            exact kidsOf_no hr hrt hk0 g1
          exact .inr ⟨u, q, g1, by simp only [cutA]; rw [hset u, if_neg hu]; exact g2, g3, g4⟩
    · by_cases h : j = i
      · rw [if_pos h] at hr; simp at hr; subst hr; simp [PL.zero] at hrt
      · rw [if_neg h] at hr
        have := hkid j
        rw [if_neg (by omega)] at this
        simp only [cutA]
        rw [hI.kids j r hr hrt]; omega
    · by_cases h : j = i
      · rw [if_pos h] at hr; simp at hr; subst hr; simp [PL.zero]
      · rw [if_neg h] at hr; exact hI.nums j r hr
  · have hui : u ≠ i := by rintro rfl; omega
    have hqu : (A.all.set i PL.zero)[u]? = some q := by rw [hset u, if_neg hui]; exact hq
    have hul : u < (A.all.set i PL.zero).length := (List.getElem?_eq_some_iff.1 hqu).1
    have epl : plA (cutA A i) (u : Int) = q := plA_in hqu
    have e : lessA (cutA A i) p.parent = { cutA A i with all := (A.all.set i PL.zero).set u { q with kids := q.kids - 1 } } := by
      unfold lessA; rw [if_neg (by omega), hpar, epl]; rfl
    rw [e]
    have hset2 : ∀ j, ((A.all.set i PL.zero).set u { q with kids := q.kids - 1 })[j]? = if j = u then some { q with kids := q.kids - 1 } else if j = i then some PL.zero else A.all[j]? := fun j => by
      by_cases h : j = u
      · subst h; rw [if_pos rfl, List.getElem?_set_self hul]
      · rw [if_neg h, List.getElem?_set_ne (Ne.symm h), hset j]
    have hkid2 : ∀ x, kidsOf ((A.all.set i PL.zero).set u { q with kids := q.kids - 1 }) x = kidsOf (A.all.set i PL.zero) x := fun x => kidsOf_same (q' := { q with kids := q.kids - 1 }) x hqu rfl
    refine ⟨⟨hI.cap1, hI.cap2, by simpa [cutA] using hI.len, hnd, fun j => ?_, by simp [cutA]; omega, fun j r hr hrt => ?_, fun j r hr hrt => ?_, fun j r hr hrt => ?_, fun j r hr => ?_⟩, rfl, fun j hj hju => by simp only; rw [hset2 j, if_neg (by omega), if_neg hj], by simp only; rw [hset2 i, if_neg (Ne.symm hui), if_pos rfl], fun v hv => ?_⟩
    all_goals (try simp only at hr)
    all_goals (try rw [hset2 j] at hr)
    · simp only [cutA]
      rw [hset2 j, List.mem_append, hI.free j]
      by_cases h : j = i
      · subst h
        rw [if_neg (Ne.symm hui)]
        simp [PL.zero]
      · by_cases h2 : j = u
        · subst h2
          simp [hq, hqt, h]
        · simp [h, h2]
    · by_cases h2 : j = u
      · rw [if_pos h2] at hr; simp at hr; subst hr; simp [hqt] at hrt
      · rw [if_neg h2] at hr
        by_cases h : j = i
        · rw [if_pos h] at hr; simp at hr; exact hr.symm
        · rw [if_neg h] at hr; exact hI.zero j r hr hrt
    · obtain ⟨r0, h1, h2, h3⟩ : ∃ r0, A.all[j]? = some r0 ∧ r0.taken = true ∧ r0.parent = r.parent := by
        by_cases h2 : j = u
        · rw [if_pos h2] at hr; simp at hr; exact ⟨q, by rw [h2]; exact hq, hqt, by rw [← hr]⟩
        · rw [if_neg h2] at hr
          by_cases h : j = i
          · rw [if_pos h] at hr; simp at hr; subst hr; simp [PL.zero] at hrt
          · rw [if_neg h] at hr; exact ⟨r, hr, hrt, rfl⟩
      rcases hI.up j r0 h1 h2 with h | ⟨v, s, g1, g2, g3, g4⟩
      · exact .inl (by omega)
      · have hvi : v ≠ i := by
          rintro rfl
          exact kidsOf_no h1 h2 hk0 g1
        refine .inr ⟨v, if v = u then { q with kids := q.kids - 1 } else s, by omega, ?_, ?_, g4⟩
        · simp only
          rw [hset2 v]
          split
          · rfl
          · first | exact g2 | (rw [if_neg hvi]; exact g2)
        · split
          · exact hqt
          · exact g3
    · simp only
      rw [hkid2 j]
      have := hkid j
      by_cases h2 : j = u
      · rw [if_pos h2] at hr; simp at hr; subst hr; subst h2
        rw [if_pos hpar] at this
        have := hI.kids j q hq hqt
        simp only
        omega
      · rw [if_neg h2] at hr
        rw [if_neg (by omega)] at this
        by_cases h : j = i
        · rw [if_pos h] at hr; simp at hr; subst hr; simp [PL.zero] at hrt
        · rw [if_neg h] at hr
          rw [hI.kids j r hr hrt]; omega
    · by_cases h2 : j = u
      · rw [if_pos h2] at hr; simp at hr; subst hr; exact hI.nums u q hq
      · rw [if_neg h2] at hr
        by_cases h : j = i
        · rw [if_pos h] at hr; simp at hr; subst hr; simp [PL.zero]
        · rw [if_neg h] at hr; exact hI.nums j r hr
    · have hvu : v = u := by omega
      subst hvu
      exact ⟨q, hq, hqt, by simp only; rw [hset2 v, if_pos rfl]⟩

end Go.Proofs.Ytahhbbcgfhmmgaa
