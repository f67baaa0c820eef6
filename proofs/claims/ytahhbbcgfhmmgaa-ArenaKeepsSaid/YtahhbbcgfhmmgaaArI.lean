/- An arena's invariant through its steps. -/
import Derived.Test.YtahhbbcgfhmmgaaArH
namespace Go.Proofs.Ytahhbbcgfhmmgaa

/-- As many different numbers below n as n at most. -/
theorem pigeon : ∀ (n : Nat) (l : List Nat), l.Nodup → (∀ x ∈ l, x < n) → l.length ≤ n
  | 0, l, _, h => by
    cases l with
    | nil => simp
    | cons x l => exact absurd (h x (by simp)) (by omega)
  | n + 1, l, hn, h => by
    by_cases hm : n ∈ l
    · have h1 := pigeon n (l.erase n) (hn.erase n) (fun x hx => by
        have h2 := (List.Nodup.mem_erase_iff hn).1 hx
        have := h x h2.2
        have := h2.1
        omega)
      rw [List.length_erase_of_mem hm] at h1
      omega
    · have h1 := pigeon n l hn (fun x hx => by
        have := h x hx
        have : x ≠ n := fun e => hm (e ▸ hx)
        omega)
      omega

theorem AI.lt {A : AR} {born : Nat → Nat} (hI : AI A born) {i : Nat} {p : PL} (hp : A.all[i]? = some p) (ht : p.taken = true) : 1 ≤ A.taken := by
  have hi : i < A.all.length := (List.getElem?_eq_some_iff.1 hp).1
  have h1 : i ∉ A.free := fun h => by
    obtain ⟨q, h2, h3⟩ := (hI.free i).1 h
    rw [hp] at h2; simp at h2; subst h2
    rw [ht] at h3; exact absurd h3 (by simp)
  have h2 := pigeon A.all.length (i :: A.free) (List.nodup_cons.2 ⟨h1, hI.nodup⟩) (fun x hx => by
    rcases List.mem_cons.1 hx with rfl | hx
    · exact hi
    · obtain ⟨q, h2, -⟩ := (hI.free x).1 hx
      exact (List.getElem?_eq_some_iff.1 h2).1)
  have := hI.count
  simp at h2
  omega

theorem isKid_kids (x : Int) (q : PL) (k : Nat) (h : Bool) : isKid x { q with kids := k, held := h } = isKid x q := rfl
theorem kidsOf_same {l : List PL} {u : Nat} {q q' : PL} (x : Int) (hq : l[u]? = some q) (h : isKid x q' = isKid x q) : kidsOf (l.set u q') x = kidsOf l x := by
  have := kidsOf_set (p := q') x hq
  rw [h] at this
  omega
theorem kidsOf_has {l : List PL} {j : Nat} {p : PL} (hp : l[j]? = some p) (ht : p.taken = true) : 0 < kidsOf l p.parent := by
  unfold kidsOf
  refine List.length_pos_of_mem (a := p) (List.mem_filter.2 ⟨List.mem_of_getElem? hp, ?_⟩)
  simp [isKid, ht]
theorem kidsOf_no {l : List PL} {j : Nat} {p : PL} (hp : l[j]? = some p) (ht : p.taken = true) {x : Int} (h : kidsOf l x = 0) : p.parent ≠ x := by
  rintro rfl
  have := kidsOf_has hp ht
  omega

/-- What a take does. -/
theorem take_does {A : AR} {born : Nat → Nat} (hI : AI A born) (hlt : A.taken < A.cap) (p : PL) :
    (takeA A p).2.all[(takeA A p).1]? = some p.up ∧ (∀ j, j ≠ (takeA A p).1 → (takeA A p).2.all[j]? = A.all[j]?) ∧ (∀ q, A.all[(takeA A p).1]? = some q → q.taken = false) ∧
    (∀ x, kidsOf (takeA A p).2.all x = kidsOf A.all x + if isKid x p.up then 1 else 0) ∧ (∀ j, j ∈ (takeA A p).2.free ↔ j ∈ A.free ∧ j ≠ (takeA A p).1) ∧ (takeA A p).2.free.Nodup ∧
    (takeA A p).2.taken = A.taken + 1 ∧ (takeA A p).2.taken + (takeA A p).2.free.length = (takeA A p).2.all.length ∧ (takeA A p).2.all.length ≤ A.cap := by
  have hcnt := hI.count
  rcases List.eq_nil_or_concat A.free with hf | ⟨fs, id, hf⟩
  · rw [take_new hf]
    rw [hf] at hcnt
    refine ⟨by simp, fun j hj => ?_, fun q hq => by simp at hq, fun x => kidsOf_append _ _ _, fun j => by simp [hf], by simp [hf], rfl, by simpa [hf] using hcnt, by simp at hcnt ⊢; omega⟩
    dsimp only at hj ⊢
    rcases Nat.lt_or_ge j A.all.length with h | h
    · rw [List.getElem?_append_left h]
    · rw [List.getElem?_eq_none (by simp; omega), List.getElem?_eq_none h]
  · rw [List.concat_eq_append] at hf
    rw [take_old hf]
    obtain ⟨p0, hp0, h0⟩ := (hI.free id).1 (by rw [hf]; simp)
    have hi : id < A.all.length := (List.getElem?_eq_some_iff.1 hp0).1
    have hnd := hI.nodup
    rw [hf] at hnd hcnt
    have hnd2 := List.nodup_append.1 hnd
    refine ⟨by simp [hi], fun j hj => List.getElem?_set_ne (by simpa using hj.symm), fun q hq => ?_, fun x => ?_, fun j => ?_, hnd2.1, rfl, ?_, by simpa using hI.len⟩
    · dsimp only at hq
      rw [hp0] at hq; simp at hq; subst hq; exact h0
    · have := kidsOf_set (p := p.up) x hp0
      have h1 : isKid x p0 = false := by simp [isKid, h0]
      rw [h1] at this
      simpa using this
    · dsimp only
      rw [hf]
      constructor
      · intro h
        exact ⟨by simp [h], fun e => hnd2.2.2 j h id (by simp) e⟩
      · rintro ⟨h1, h2⟩
        simp at h1
        rcases h1 with h1 | h1
        · exact h1
        · exact absurd h1 h2
    · simp at hcnt ⊢; omega

def takeB (A : AR) (p : PL) : AR := if p.parent < 0 then (takeA A p).2 else bumpA (takeA A p).2 p.parent

theorem AI.take {A : AR} {born : Nat → Nat} (hI : AI A born) (hlt : A.taken < A.cap) (p : PL) (hk : p.kids = 0) (hn : p.st ≤ 4294967295 ∧ p.bit ≤ 255) (hp : p.parent = -1 ∨ ∃ (u : Nat) (q : PL), p.parent = u ∧ A.all[u]? = some q ∧ q.taken = true) :
    ∃ N, AI (takeB A p) (fun j => if j = (takeA A p).1 then N else born j) := by
  obtain ⟨t1, t2, t3, t4, t5, t6, t7, t8, t9⟩ := take_does hI hlt p
  have tc := take_cap A p
  generalize (takeA A p).1 = id at *
  have hno : ∀ x : Nat, x = id → kidsOf A.all x = 0 := by
    rintro x rfl
    rcases Nat.eq_zero_or_pos (kidsOf A.all x) with h | h
    · exact h
    · obtain ⟨j, q, h1, h2, h3⟩ := kidsOf_pos h
      rcases hI.up j q h1 h2 with h4 | ⟨u, q', h4, h5, h6, -⟩
      · omega
      · have hux : u = x := by omega
        subst hux
        have := t3 q' h5
        rw [h6] at this; exact absurd this (by simp)
  rcases hp with hp | ⟨u, q, hp, hq, hqt⟩
  · refine ⟨0, ?_⟩
    have e : takeB A p = (takeA A p).2 := by unfold takeB; rw [if_pos (by omega)]
    rw [e]
    have hkid : ∀ x : Nat, kidsOf (takeA A p).2.all x = kidsOf A.all x := fun x => by
      rw [t4 x]
      have : isKid (x : Int) p.up = false := by simp [isKid, PL.up, hp]
      rw [this]; rfl
    refine ⟨by rw [tc]; exact hI.cap1, by rw [tc]; exact hI.cap2, by rw [tc]; exact t9, t6, fun j => ?_, t8, fun j r hr hrt => ?_, fun j r hr hrt => ?_, fun j r hr hrt => ?_, fun j r hr => ?_⟩
    · rw [t5 j]
      by_cases hj : j = id
      · subst hj
        simp [t1, PL.up]
      · rw [t2 j hj, hI.free j]
        simp [hj]
    · by_cases hj : j = id
      · subst hj
        rw [t1] at hr; simp at hr; subst hr; simp [PL.up] at hrt
      · rw [t2 j hj] at hr; exact hI.zero j r hr hrt
    · by_cases hj : j = id
      · subst hj
        rw [t1] at hr; simp at hr; subst hr; exact .inl hp
      · rw [t2 j hj] at hr
        rcases hI.up j r hr hrt with h | ⟨u, q, h1, h2, h3, h4⟩
        · exact .inl h
        · have hu : u ≠ id := by
            rintro rfl
            have := t3 q h2
            rw [h3] at this; exact absurd this (by simp)
          exact .inr ⟨u, q, h1, by rw [t2 u hu]; exact h2, h3, by simp only [if_neg hu, if_neg hj]; exact h4⟩
    · rw [hkid j]
      by_cases hj : j = id
      · rw [hno j hj]
        subst hj
        rw [t1] at hr; simp at hr; subst hr; exact hk
      · rw [t2 j hj] at hr; exact hI.kids j r hr hrt
    · by_cases hj : j = id
      · subst hj
        rw [t1] at hr; simp at hr; subst hr; exact hn
      · rw [t2 j hj] at hr; exact hI.nums j r hr
  · refine ⟨born u + 1, ?_⟩
    have hu : u ≠ id := by
      rintro rfl
      have := t3 q hq
      rw [hqt] at this; exact absurd this (by simp)
    have hqu := t2 u hu
    rw [hq] at hqu
    have hul : u < (takeA A p).2.all.length := (List.getElem?_eq_some_iff.1 hqu).1
    have epl : plA (takeA A p).2 (u : Int) = q := plA_in hqu
    have e : takeB A p = { (takeA A p).2 with all := (takeA A p).2.all.set u { q with kids := q.kids + 1 } } := by
      unfold takeB bumpA
      rw [if_neg (by omega), hp, epl]; rfl
    rw [e]
    have hset : ∀ j, ((takeA A p).2.all.set u { q with kids := q.kids + 1 })[j]? = if j = u then some { q with kids := q.kids + 1 } else (takeA A p).2.all[j]? := fun j => by
      by_cases h : j = u
      · subst h; rw [if_pos rfl, List.getElem?_set_self hul]
      · rw [if_neg h, List.getElem?_set_ne (Ne.symm h)]
    have hkid : ∀ x : Nat, kidsOf ((takeA A p).2.all.set u { q with kids := q.kids + 1 }) x = kidsOf A.all x + if x = u then 1 else 0 := fun x => by
      rw [kidsOf_same (q' := { q with kids := q.kids + 1 }) x hqu rfl, t4 x]
      congr 1
      by_cases h : x = u
      · subst h; simp [isKid, PL.up, hp]
      · rw [if_neg h]
        have : isKid (x : Int) p.up = false := by simp [isKid, PL.up, hp]; omega
        rw [this]; rfl
    refine ⟨by simp only [tc]; exact hI.cap1, by simp only [tc]; exact hI.cap2, by simp only [tc, List.length_set]; exact t9, t6, fun j => ?_, by simp only [List.length_set]; exact t8, fun j r hr hrt => ?_, fun j r hr hrt => ?_, fun j r hr hrt => ?_, fun j r hr => ?_⟩
    · dsimp only
      rw [t5 j, hset j]
      by_cases hju : j = u
      · subst hju
        rw [if_pos rfl, hI.free j]
        simp [hq, hqt]
      · rw [if_neg hju]
        by_cases hj : j = id
        · subst hj
          simp [t1, PL.up]
        · rw [t2 j hj, hI.free j]
          simp [hj]
    · dsimp only at hr
      rw [hset j] at hr
      by_cases hju : j = u
      · rw [if_pos hju] at hr; simp at hr; subst hr; simp [hqt] at hrt
      · rw [if_neg hju] at hr
        by_cases hj : j = id
        · subst hj
          rw [t1] at hr; simp at hr; subst hr; simp [PL.up] at hrt
        · rw [t2 j hj] at hr; exact hI.zero j r hr hrt
    · dsimp only at hr ⊢
      rw [hset j] at hr
      have key : ∀ r0 : PL, A.all[j]? = some r0 → r0.taken = true → r0.parent = r.parent → j ≠ id → r.parent = -1 ∨ ∃ (u1 : Nat) (q1 : PL), r.parent = u1 ∧ ((takeA A p).2.all.set u { q with kids := q.kids + 1 })[u1]? = some q1 ∧ q1.taken = true ∧ (if u1 = id then born u + 1 else born u1) < (if j = id then born u + 1 else born j) := by
        intro r0 h1 h2 h3 hj
        rcases hI.up j r0 h1 h2 with h | ⟨u1, q1, g1, g2, g3, g4⟩
        · exact .inl (by omega)
        · have hu1 : u1 ≠ id := by
            rintro rfl
            have := t3 q1 g2
            rw [g3] at this; exact absurd this (by simp)
          refine .inr ⟨u1, if u1 = u then { q with kids := q.kids + 1 } else q1, by omega, ?_, ?_, by rw [if_neg hu1, if_neg hj]; exact g4⟩
          · rw [hset u1]
            split
            · rfl
            · rw [t2 u1 hu1]; exact g2
          · split
            · exact hqt
            · exact g3
      by_cases hju : j = u
      · rw [if_pos hju] at hr; simp at hr
        exact key q (by rw [hju]; exact hq) hqt (by rw [← hr]) (by rw [hju]; exact hu)
      · rw [if_neg hju] at hr
        by_cases hj : j = id
        · subst hj
          rw [t1] at hr; simp at hr
          exact .inr ⟨u, { q with kids := q.kids + 1 }, by rw [← hr]; exact hp, by rw [hset u, if_pos rfl], hqt, by rw [if_pos rfl, if_neg hu]; omega⟩
        · rw [t2 j hj] at hr
          exact key r hr hrt rfl hj
    · dsimp only at hr ⊢
      rw [hset j] at hr
      rw [hkid j]
      by_cases hju : j = u
      · rw [if_pos hju] at hr ⊢
        simp at hr
        subst hr
        have := hI.kids u q hq hqt
        subst hju
        dsimp only
        omega
      · rw [if_neg hju] at hr ⊢
        by_cases hj : j = id
        · rw [hno j hj]
          subst hj
          rw [t1] at hr; simp at hr; subst hr; exact hk
        · rw [t2 j hj] at hr; exact hI.kids j r hr hrt
    · dsimp only at hr
      rw [hset j] at hr
      by_cases hju : j = u
      · rw [if_pos hju] at hr; simp at hr; subst hr
        exact hI.nums u q hq
      · rw [if_neg hju] at hr
        by_cases hj : j = id
        · subst hj
          rw [t1] at hr; simp at hr; subst hr; exact hn
        · rw [t2 j hj] at hr; exact hI.nums j r hr

end Go.Proofs.Ytahhbbcgfhmmgaa
