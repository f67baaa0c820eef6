/- What a place is but for its kids; plain law of ArenaEmpties. -/
import Derived.Test.YtahhbbcgfhmmgaaArO
namespace Go.Proofs.Ytahhbbcgfhmmgaa
open Go.Own

def PL.core (p : PL) : PL := { p with kids := 0 }
def coreAt (A : AR) (j : Nat) : Option PL := A.all[j]?.map PL.core
theorem held_core (A : AR) (j : Nat) : heldA A j ↔ ∃ c, coreAt A j = some c ∧ c.taken = true ∧ c.held = true := by
  unfold heldA coreAt
  constructor
  · rintro ⟨p, h1, h2, h3⟩
    exact ⟨p.core, by rw [h1]; rfl, h2, h3⟩
  · rintro ⟨c, h1, h2, h3⟩
    cases hq : A.all[j]? with
    | none => rw [hq] at h1; simp at h1
    | some p => rw [hq] at h1; simp at h1; subst h1; exact ⟨p, rfl, h2, h3⟩
theorem core_of {A : AR} {j : Nat} {c : PL} (h : coreAt A j = some c) : ∃ p, A.all[j]? = some p ∧ p.core = c := by
  unfold coreAt at h
  cases hq : A.all[j]? with
  | none => rw [hq] at h; simp at h
  | some p => rw [hq] at h; simp at h; exact ⟨p, rfl, h⟩
theorem take_core {A : AR} {born : Nat → Nat} (hI : AI A born) (hlt : A.taken < A.cap) (p : PL) (hp : p.parent = -1 ∨ ∃ (u : Nat) (q : PL), p.parent = u ∧ A.all[u]? = some q ∧ q.taken = true) (j : Nat) :
    coreAt (takeB A p) j = if j = (takeA A p).1 then some p.up.core else coreAt A j := by
  obtain ⟨t1, t2, t3, -, -, -, -, -, -⟩ := take_does hI hlt p
  generalize (takeA A p).1 = id at *
  have h0 : coreAt (takeA A p).2 j = if j = id then some p.up.core else coreAt A j := by
    unfold coreAt
    by_cases hj : j = id
    · subst hj; rw [if_pos rfl, t1]; rfl
    · rw [if_neg hj, t2 j hj]
  rcases hp with hp | ⟨u, q, hp, hq, hqt⟩
  · have e : takeB A p = (takeA A p).2 := by unfold takeB; rw [if_pos (by omega)]
    rw [e]; exact h0
  · have hu : u ≠ id := by
      rintro rfl
      have := t3 q hq
      rw [hqt] at this; exact absurd this (by simp)
    have hqu := t2 u hu
    rw [hq] at hqu
    have hul : u < (takeA A p).2.all.length := (List.getElem?_eq_some_iff.1 hqu).1
    have epl : plA (takeA A p).2 (u : Int) = q := plA_in hqu
    have e : takeB A p = { (takeA A p).2 with all := (takeA A p).2.all.set u { q with kids := q.kids + 1 } } := by
      unfold takeB bumpA
      rw [if_neg (by omega), hp, epl]; rfl
    rw [e, ← h0]
    unfold coreAt
    by_cases hj : j = u
    · subst hj
      simp only
      rw [List.getElem?_set_self hul, hqu]; rfl
    · simp only
      rw [List.getElem?_set_ne (Ne.symm hj)]
theorem take_free {A : AR} {born : Nat → Nat} (hI : AI A born) (hlt : A.taken < A.cap) (p : PL) : ∀ c, coreAt A (takeA A p).1 = some c → c.taken = false := by
  obtain ⟨t1, t2, t3, -, -, -, -, -, -⟩ := take_does hI hlt p
  intro c hc
  obtain ⟨q, hq, rfl⟩ := core_of hc
  exact t3 q hq
theorem takeB_taken (A : AR) (p : PL) : (takeB A p).taken = A.taken + 1 ∧ (takeB A p).cap = A.cap := by
  have h : (takeA A p).2.taken = A.taken + 1 ∧ (takeA A p).2.cap = A.cap := by
    unfold takeA
    cases A.free.getLast? <;> exact ⟨rfl, rfl⟩
  unfold takeB
  split
  · exact h
  · exact h

/-- As ArenaEmpties builds: whoever is there is held, and in the list. -/
def E1 (c : Nat) (A : AR) (Hs : List Nat) : Prop := ∃ born, AI A born ∧ A.cap = c ∧ Hs.Nodup ∧ (∀ j, j ∈ Hs ↔ heldA A j) ∧ (∀ j c, coreAt A j = some c → c.taken = true → c.held = true) ∧ A.taken = Hs.length
theorem E1.new {c : Nat} (h1 : 1 ≤ c) (h2 : c ≤ 65536) : E1 c (AR.new c) [] :=
  ⟨fun _ => 0, AI.new h1 h2, rfl, List.nodup_nil, fun j => by simp [heldA, AR.new], fun j c h => by simp [coreAt, AR.new] at h, rfl⟩
theorem E1.take {c : Nat} {A : AR} {Hs : List Nat} (h : E1 c A Hs) (hlt : A.taken < A.cap) (p : PL) (hk : p.kids = 0) (hn : p.st ≤ 4294967295 ∧ p.bit ≤ 255) (hp : p.parent = -1 ∨ ∃ (u : Nat) (q : PL), p.parent = u ∧ A.all[u]? = some q ∧ q.taken = true) : E1 c (takeB A p) (Hs ++ [(takeA A p).1]) := by
  obtain ⟨born, hI, h1, h2, h3, h4, h5⟩ := h
  obtain ⟨N, hI'⟩ := hI.take hlt p hk hn hp
  obtain ⟨g1, g2⟩ := takeB_taken A p
  have hc := take_core hI hlt p hp
  have hf := take_free hI hlt p
  generalize (takeA A p).1 = id at *
  have hnot : id ∉ Hs := fun hm => by
    obtain ⟨c, x1, x2, -⟩ := (held_core A id).1 ((h3 id).1 hm)
    have := hf c x1
    rw [x2] at this; exact absurd this (by simp)
  refine ⟨_, hI', by rw [g2]; exact h1, ?_, fun j => ?_, fun j c hj ht => ?_, by rw [g1, h5]; simp⟩
  · rw [List.nodup_append]
    exact ⟨h2, by simp, fun a ha b hb hab => by simp at hb; subst hb; subst hab; exact hnot ha⟩
  · rw [List.mem_append, List.mem_singleton, held_core, hc j, h3 j, held_core]
    by_cases hj : j = id
    · rw [if_pos hj]
      exact ⟨fun _ => ⟨_, rfl, rfl, rfl⟩, fun _ => .inr hj⟩
    · rw [if_neg hj]
      simp [hj]
  · rw [hc j] at hj
    by_cases hji : j = id
    · rw [if_pos hji] at hj; simp at hj; subst hj; rfl
    · rw [if_neg hji] at hj
      exact h4 j c hj ht
theorem E1.root {c : Nat} {A : AR} {Hs : List Nat} (h : E1 c A Hs) {s : Nat} (hs : s ≤ 4294967295) (d m : Int) : ((rootA A s d m).2.1 = 0 ∧ E1 c (rootA A s d m).2.2 (Hs ++ [(rootA A s d m).1])) ∨ ((rootA A s d m).2.1 = 2 ∧ (rootA A s d m).2.2 = A) := by
  have hI := h.choose_spec.1
  unfold rootA
  by_cases hf : A.taken = A.cap
  · rw [if_pos hf]; exact .inr ⟨rfl, rfl⟩
  · rw [if_neg hf]
    have hlt : A.taken < A.cap := by have := hI.count; have := hI.len; omega
    have h1 := h.take hlt (rootP s d m) rfl ⟨hs, by simp [rootP]⟩ (.inl rfl)
    have e : takeB A (rootP s d m) = (takeA A (rootP s d m)).2 := by unfold takeB; rw [if_pos (by simp [rootP])]
    rw [e] at h1
    exact .inl ⟨rfl, h1⟩
theorem E1.child {c : Nat} {A : AR} {Hs : List Nat} (h : E1 c A Hs) {i : Nat} (hi : i ∈ Hs) {bit s : Nat} (hb : bit ≤ 1) (hs : s ≤ 4294967295) (d m : Int) : ((childA A i bit s d m).2.1 = 0 ∧ E1 c (childA A i bit s d m).2.2 (Hs ++ [(childA A i bit s d m).1])) ∨ ((childA A i bit s d m).2.1 = 2 ∧ (childA A i bit s d m).2.2 = A) := by
  have hI := h.choose_spec.1
  obtain ⟨p, hp, ht, -⟩ := (h.choose_spec.2.2.2.1 i).1 hi
  have hv : hasA A (i : Int) = true := by rw [has_in hp]; exact ht
  unfold childA
  rw [if_neg (by rw [hv]; simp), if_neg (by omega)]
  by_cases hf : A.taken = A.cap
  · rw [if_pos hf]; exact .inr ⟨rfl, rfl⟩
  · rw [if_neg hf]
    have hlt : A.taken < A.cap := by have := hI.count; have := hI.len; omega
    have h1 := h.take hlt (childP i bit s d m) rfl ⟨hs, by show bit ≤ 255; omega⟩ (.inr ⟨i, p, rfl, hp, ht⟩)
    have e : takeB A (childP i bit s d m) = bumpA (takeA A (childP i bit s d m)).2 i := by unfold takeB; rw [if_neg (by show ¬ (i : Int) < 0; omega)]; rfl
    rw [e] at h1
    exact .inl ⟨rfl, h1⟩

/-- As ArenaEmpties drops. -/
def E2 (c M : Nat) (A : AR) (Hs : List Nat) (gone : Nat) : Prop := ∃ born, AI A born ∧ A.cap = c ∧ Hs.Nodup ∧ (∀ j, j ∈ Hs ↔ heldA A j) ∧ tight A ∧ A.taken + gone = M
theorem E1.next {c : Nat} {A : AR} {Hs : List Nat} (h : E1 c A Hs) : E2 c Hs.length A Hs 0 := by
  obtain ⟨born, hI, h1, h2, h3, h4, h5⟩ := h
  exact ⟨born, hI, h1, h2, h3, fun i p hp ht => .inl (h4 i p.core (by unfold coreAt; rw [hp]; rfl) ht), by omega⟩
theorem mem_cut {l : List Nat} (hn : l.Nodup) {k : Nat} {i : Nat} (hk : l[k]? = some i) (j : Nat) : j ∈ l.take k ++ l.drop (k + 1) ↔ j ∈ l ∧ j ≠ i := by
  have hkl : k < l.length := (List.getElem?_eq_some_iff.1 hk).1
  have hki : l[k] = i := (List.getElem?_eq_some_iff.1 hk).2
  have e : l = l.take k ++ i :: l.drop (k + 1) := by
    conv => lhs; rw [← List.take_append_drop k l, List.drop_eq_getElem_cons hkl, hki]
  have hn2 := hn
  rw [e, List.nodup_append] at hn2
  obtain ⟨-, x2, x3⟩ := hn2
  have x4 := List.nodup_cons.1 x2
  constructor
  · intro h
    rcases List.mem_append.1 h with h | h
    · exact ⟨List.mem_of_mem_take h, fun e => x3 j h i (by simp) e⟩
    · exact ⟨List.mem_of_mem_drop h, fun e => x4.1 (e ▸ h)⟩
  · rintro ⟨h1, h2⟩
    rw [e] at h1
    rcases List.mem_append.1 h1 with h | h
    · exact List.mem_append_left _ h
    · rcases List.mem_cons.1 h with h | h
      · exact absurd h h2
      · exact List.mem_append_right _ h
theorem nodup_cut {l : List Nat} (hn : l.Nodup) (k : Nat) : (l.take k ++ l.drop (k + 1)).Nodup := by
  have h : List.Sublist (l.take k ++ l.drop (k + 1)) (l.take k ++ l.drop k) := by
    refine List.Sublist.append (List.Sublist.refl _) ?_
    exact List.drop_sublist_drop_left l (by omega)
  rw [List.take_append_drop] at h
  exact hn.sublist h
theorem E2.drop {c M : Nat} {A : AR} {Hs : List Nat} {gone : Nat} (h : E2 c M A Hs gone) {k i : Nat} (hk : Hs[k]? = some i) : (dropA A i).2.1 = 0 ∧ E2 c M (dropA A i).2.2 (Hs.take k ++ Hs.drop (k + 1)) (gone + (dropA A i).1) ∧ (dropA A i).1 ≤ 65536 := by
  obtain ⟨born, hI, h1, h2, h3, h4, h5⟩ := h
  obtain ⟨g1, g2, g3, g4, g5⟩ := drop_yes hI ((h3 i).1 (List.mem_of_getElem? hk))
  refine ⟨g1, ⟨born, hI.drop i, by rw [g5]; exact h1, nodup_cut h2 k, fun j => by rw [mem_cut h2 hk j, g3 j, h3 j], g4 h4, by omega⟩, ?_⟩
  have := hI.count; have := hI.len; have := hI.cap2; omega
theorem E2.last {c M : Nat} {A : AR} {gone : Nat} (h : E2 c M A [] gone) : A.taken = 0 ∧ gone = M := by
  obtain ⟨born, hI, h1, h2, h3, h4, h5⟩ := h
  have := all_gone hI h4 (fun i hi => by simpa using (h3 i).2 hi)
  omega

theorem and_bit (n : Nat) (h : n ≤ 255) : bits BinOp.and IntKind.u8 (n : Int) 1 = ((n % 2 : Nat) : Int) := by
  have h1 : (BitVec.ofInt 8 (n : Int)).toNat = n := by
    rw [BitVec.ofInt_natCast, BitVec.toNat_ofNat]; exact Nat.mod_eq_of_lt (by omega)
  show IntKind.u8.wrap ((BitVec.ofInt 8 (n : Int) &&& BitVec.ofInt 8 (1 : Int)).toNat : Int) = _
  rw [BitVec.toNat_and, h1]
  have h2 : (BitVec.ofInt 8 (1 : Int)).toNat = 1 := by decide
  rw [h2, Nat.and_one_is_mod]
  exact IntWalk.u8_in _ (by omega)
theorem round_ (on : Int) (L : Nat) (hL : 0 < L) (hL6 : L ≤ 4611686018427387903) : ∃ (r : Int) (q : Nat), on.tmod L = r ∧ IntKind.i64.wrap r = r ∧ IntKind.i64.wrap (r + L) = r + L ∧ (r + L).tmod L = q ∧ IntKind.i64.wrap q = q ∧ q < L := by
  have hb : -(L : Int) < on.tmod L ∧ on.tmod L < L := by
    refine ⟨?_, Int.tmod_lt_of_pos _ (by omega)⟩
    rcases Int.le_total 0 on with h | h
    · have := Int.tmod_nonneg (L : Int) h; omega
    · have h1 := Int.tmod_lt_of_pos (-on) (b := (L : Int)) (by omega)
      rw [Int.neg_tmod] at h1; omega
  have h2 : 0 ≤ (on.tmod L + L).tmod L ∧ (on.tmod L + L).tmod L < L := ⟨Int.tmod_nonneg _ (by omega), Int.tmod_lt_of_pos _ (by omega)⟩
  refine ⟨_, ((on.tmod L + L).tmod L).toNat, rfl, IntWalk.i64_in _ (by omega), IntWalk.i64_in _ (by omega), by omega, IntWalk.i64_in _ (by omega), by omega⟩

end Go.Proofs.Ytahhbbcgfhmmgaa
