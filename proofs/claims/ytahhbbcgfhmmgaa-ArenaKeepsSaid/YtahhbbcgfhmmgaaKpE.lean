/- The steps of ArenaKeeps: plain law. -/
import Derived.Test.YtahhbbcgfhmmgaaKpA
import Derived.Test.YtahhbbcgfhmmgaaArM
namespace Go.Proofs.Ytahhbbcgfhmmgaa
open Go.Own

structure KE (c : Nat) (A : AR) (B : List BE) (gone t : Nat) : Prop where
  ai : ∃ born, AI A born
  cap : A.cap = c
  ti : tight A
  bk : Bk A B
  len : B.length = A.taken
  told : t = gone + B.length
theorem KE.new {c : Nat} (h1 : 1 ≤ c) (h2 : c ≤ 65536) : KE c (AR.new c) [] 0 0 :=
  ⟨⟨_, AI.new h1 h2⟩, rfl, fun i p hp => by simp [AR.new] at hp, Bk.new c, rfl, rfl⟩
theorem KE.b6 {c : Nat} {A : AR} {B : List BE} {g t : Nat} (h : KE c A B g t) : B.length ≤ 65536 ∧ A.all.length ≤ 65536 ∧ B.length ≤ A.all.length := by
  obtain ⟨born, hI⟩ := h.ai
  have := hI.count; have := hI.len; have := hI.cap2; have := h.len
  omega

theorem takeB_place {A : AR} {born : Nat → Nat} (hI : AI A born) (hlt : A.taken < A.cap) (p : PL) (hp : p.parent = -1 ∨ ∃ (u : Nat) (q : PL), p.parent = u ∧ A.all[u]? = some q ∧ q.taken = true) {j : Nat} {r : PL} (hr : (takeB A p).all[j]? = some r) (hj : j ≠ (takeA A p).1) : ∃ r0, A.all[j]? = some r0 ∧ r.core = r0.core ∧ r0.kids ≤ r.kids := by
  obtain ⟨t1, t2, t3, -, -, -, -, -, -⟩ := take_does hI hlt p
  generalize (takeA A p).1 = id at *
  rcases hp with hp | ⟨u, q, hp, hq, hqt⟩
  · have e : takeB A p = (takeA A p).2 := by unfold takeB; rw [if_pos (by omega)]
    rw [e, t2 j hj] at hr
    exact ⟨r, hr, rfl, Nat.le_refl _⟩
  · have hu : u ≠ id := by
      rintro rfl
      have := t3 q hq
      rw [hqt] at this; exact absurd this (by simp)
    have hqu := t2 u hu
    rw [hq] at hqu
    have hul : u < (takeA A p).2.all.length := (List.getElem?_eq_some_iff.1 hqu).1
    have epl : plA (takeA A p).2 (u : Int) = q := plA_in hqu
    have e : takeB A p = { (takeA A p).2 with all := (takeA A p).2.all.set u { q with kids := q.kids + 1 } } := by
      unfold takeB bumpA
      rw [if_neg (by omega), hp, epl]; rfl
    rw [e] at hr
    simp only at hr
    by_cases hju : j = u
    · subst hju
      rw [List.getElem?_set_self hul] at hr
      simp at hr; subst hr
      exact ⟨q, hq, rfl, by simp⟩
    · rw [List.getElem?_set_ne (Ne.symm hju), t2 j hj] at hr
      exact ⟨r, hr, rfl, Nat.le_refl _⟩
theorem takeB_len (A : AR) (p : PL) : (takeB A p).all.length = (takeA A p).2.all.length := by
  unfold takeB bumpA
  split
  · rfl
  · simp

/-- One more. -/
theorem KE.take {c : Nat} {A : AR} {B : List BE} {g t : Nat} (h : KE c A B g t) (hlt : A.taken < A.cap) (p : PL) (hk : p.kids = 0) (hn : p.st ≤ 4294967295 ∧ p.bit ≤ 255) (hp : p.parent = -1 ∨ ∃ (u : Nat) (q : PL), p.parent = u ∧ A.all[u]? = some q ∧ q.taken = true) (bt : Nat) (hbt : 0 ≤ p.parent → bt = p.bit) :
    KE c (takeB A p) (B ++ [⟨(takeA A p).1, p.up.core, bt⟩]) g (t + 1) ∧ (∀ e ∈ B, e.id ≠ (takeA A p).1) ∧ (takeB A p).all.length = max A.all.length (B.length + 1) ∧ (takeA A p).1 < (takeB A p).all.length := by
  obtain ⟨born, hI⟩ := h.ai
  obtain ⟨N, hI'⟩ := hI.take hlt p hk hn hp
  obtain ⟨g1, g2⟩ := takeB_taken A p
  have hc := take_core hI hlt p hp
  have hf := take_free hI hlt p
  have hpl := fun {j r} => takeB_place (j := j) (r := r) hI hlt p hp
  have hlen := takeB_len A p
  have hidl : (takeA A p).1 < (takeA A p).2.all.length := by
    obtain ⟨t1, -⟩ := take_does hI hlt p
    exact (List.getElem?_eq_some_iff.1 t1).1
  have hal : (takeA A p).2.all.length = max A.all.length (B.length + 1) := by
    have hcnt := hI.count
    have hbl := h.len
    rcases List.eq_nil_or_concat A.free with hfr | ⟨fs, id, hfr⟩
    · rw [take_new hfr]
      rw [hfr] at hcnt
      simp at hcnt ⊢; omega
    · rw [List.concat_eq_append] at hfr
      rw [take_old hfr]
      rw [hfr] at hcnt
      simp at hcnt ⊢; omega
  have hself : (takeB A p).all[(takeA A p).1]?.map PL.core = some p.up.core := by
    have := hc (takeA A p).1
    rw [if_pos rfl] at this; exact this
  generalize (takeA A p).1 = id at *
  have hnot : ∀ e ∈ B, e.id ≠ id := fun e he heq => by
    obtain ⟨h1, h2⟩ := (h.bk.mem e.id e.c).1 ⟨e, he, rfl, rfl⟩
    rw [heq] at h1
    have := hf _ h1
    rw [h2] at this; exact absurd this (by simp)
  refine ⟨⟨⟨_, hI'⟩, by rw [g2]; exact h.cap, fun j r hr hrt => ?_, ⟨?_, fun j cc => ?_, fun e he => ?_⟩, by rw [g1]; have := h.len; simp; omega, by have := h.told; simp; omega⟩, hnot, by rw [hlen, hal], by rw [hlen]; exact hidl⟩
  · by_cases hj : j = id
    · subst hj
      rw [hr] at hself
      simp at hself
      have : r.core.held = true := by rw [hself]; rfl
      exact .inl this
    · obtain ⟨r0, x1, x2, x3⟩ := hpl hr hj
      have y1 : r0.taken = true := by
        have : r.core.taken = r0.core.taken := by rw [x2]
        have h3 : r.taken = r0.taken := this
        rw [← h3]; exact hrt
      rcases h.ti j r0 x1 y1 with h3 | h3
      · refine .inl ?_
        have : r.core.held = r0.core.held := by rw [x2]
        have h4 : r.held = r0.held := this
        rw [h4]; exact h3
      · exact .inr (by omega)
  · rw [List.map_append, List.nodup_append]
    refine ⟨h.bk.nodup, by simp, fun a ha b hb hab => ?_⟩
    simp at hb
    subst hb; subst hab
    obtain ⟨e, he, heq⟩ := List.mem_map.1 ha
    exact hnot e he heq
  · rw [hc j]
    by_cases hj : j = id
    · rw [if_pos hj]
      constructor
      · rintro ⟨e, he, h1, h2⟩
        rcases List.mem_append.1 he with he | he
        · exact absurd (h1.trans hj) (hnot e he)
        · simp at he; subst he; subst h2
          exact ⟨rfl, rfl⟩
      · rintro ⟨h1, -⟩
        simp at h1
        exact ⟨⟨id, p.up.core, bt⟩, List.mem_append_right _ (by simp), hj.symm, h1⟩
    · rw [if_neg hj]
      constructor
      · rintro ⟨e, he, h1, h2⟩
        rcases List.mem_append.1 he with he | he
        · exact (h.bk.mem j cc).1 ⟨e, he, h1, h2⟩
        · simp at he; subst he
          exact absurd h1.symm hj
      · intro h1
        obtain ⟨e, he, h2, h3⟩ := (h.bk.mem j cc).2 h1
        exact ⟨e, List.mem_append_left _ he, h2, h3⟩
  · rcases List.mem_append.1 he with he | he
    · exact h.bk.bit e he
    · simp at he; subst he
      exact hbt

def newE (i : Nat) (s : Nat) (d m par : Int) (b bt : Nat) : BE := ⟨i, ⟨s, d, m, par, b, 0, true, true⟩, bt⟩
/-- What a call that puts one in leaves. -/
def Put (c : Nat) (B : List BE) (g t M : Nat) (A' : AR) (id e : Nat) (s : Nat) (d m par : Int) (b bt : Nat) : Prop :=
  e = 0 ∧ KE c A' (B ++ [newE id s d m par b bt]) g (t + 1) ∧ (∀ f ∈ B, f.id ≠ id) ∧ A'.all.length = max M (B.length + 1) ∧ id < A'.all.length
theorem KE.root {c : Nat} {A : AR} {B : List BE} {g t : Nat} (h : KE c A B g t) {s : Nat} (hs : s ≤ 4294967295) (d m : Int) (bt : Nat) :
    Put c B g t A.all.length (rootA A s d m).2.2 (rootA A s d m).1 (rootA A s d m).2.1 s d m (-1) 0 bt ∨ (¬ (rootA A s d m).2.1 = 0 ∧ (rootA A s d m).2.2 = A) := by
  obtain ⟨born, hI⟩ := h.ai
  unfold rootA
  by_cases hf : A.taken = A.cap
  · rw [if_pos hf]; exact .inr ⟨by simp, rfl⟩
  · rw [if_neg hf]
    have hlt : A.taken < A.cap := by have := hI.count; have := hI.len; omega
    have h1 := h.take hlt (rootP s d m) rfl ⟨hs, by simp [rootP]⟩ (.inl rfl) bt (fun h => by simp [rootP] at h)
    have e : takeB A (rootP s d m) = (takeA A (rootP s d m)).2 := by unfold takeB; rw [if_pos (by simp [rootP])]
    rw [e] at h1
    exact .inl ⟨rfl, h1⟩
theorem KE.child {c : Nat} {A : AR} {B : List BE} {g t : Nat} (h : KE c A B g t) (id : Int) {bit s : Nat} (hs : s ≤ 4294967295) (d m : Int) :
    (Put c B g t A.all.length (childA A id bit s d m).2.2 (childA A id bit s d m).1 (childA A id bit s d m).2.1 s d m id bit bit ∧ bit ≤ 1 ∧ ∃ e ∈ B, (e.id : Int) = id) ∨ (¬ (childA A id bit s d m).2.1 = 0 ∧ (childA A id bit s d m).2.2 = A) := by
  obtain ⟨born, hI⟩ := h.ai
  unfold childA
  cases hv : hasA A id with
  | false => rw [if_pos rfl]; exact .inr ⟨by simp, rfl⟩
  | true =>
    rw [if_neg (by simp)]
    by_cases hb : 1 < bit
    · rw [if_pos hb]; exact .inr ⟨by simp, rfl⟩
    · rw [if_neg hb]
      by_cases hf : A.taken = A.cap
      · rw [if_pos hf]; exact .inr ⟨by simp, rfl⟩
      · rw [if_neg hf]
        have hlt : A.taken < A.cap := by have := hI.count; have := hI.len; omega
        obtain ⟨i, p, rfl, hp, ht⟩ := has_yes hv
        have h1 := h.take hlt (childP i bit s d m) rfl ⟨hs, by show bit ≤ 255; omega⟩ (.inr ⟨i, p, rfl, hp, ht⟩) bit (fun _ => rfl)
        have e : takeB A (childP i bit s d m) = bumpA (takeA A (childP i bit s d m)).2 i := by unfold takeB; rw [if_neg (by show ¬ (i : Int) < 0; omega)]; rfl
        rw [e] at h1
        obtain ⟨k, f, h2, h3, -⟩ := h.bk.has hp ht
        exact .inl ⟨⟨rfl, h1⟩, by omega, f, List.mem_of_getElem? h2, by rw [h3]⟩

/-- A drop: what stands in the book for it, and what freed makes of it. -/
theorem lessA_len (A : AR) (id : Int) : (lessA A id).all.length = A.all.length := by
  unfold lessA
  split
  · rfl
  · simp
theorem goA_len : ∀ (f : Nat) (A : AR) (id : Int), (goA f A id).1.all.length = A.all.length ∧ (goA f A id).1.cap = A.cap
  | 0, A, id => ⟨rfl, rfl⟩
  | f + 1, A, id => by
    by_cases hl : loose A id
    · rw [goA_yes hl]
      obtain ⟨h1, h2⟩ := goA_len f (lessA (cutA A id.toNat) (plA A id).parent) (plA A id).parent
      refine ⟨by simp only; rw [h1, lessA_len]; simp [cutA], ?_⟩
      simp only
      rw [h2]
      unfold lessA; split <;> rfl
    · rw [goA_no hl]; exact ⟨rfl, rfl⟩
theorem KE.still {c : Nat} {A : AR} {B : List BE} {g t : Nat} (h : KE c A B g t) : FI A A B (-1) := by
  have hno : ¬ loose A (-1) := fun h => absurd h.1 (by omega)
  refine ⟨h.ai, h.bk, .inl rfl, fun i p hp ht => ?_, h.len, by rw [goA_no hno]⟩
  rcases h.ti i p hp ht with h1 | h1
  · exact .inl h1
  · exact .inr (.inl h1)
theorem KE.drop {c : Nat} {A : AR} {B : List BE} {g t : Nat} (h : KE c A B g t) {k : Nat} {e : BE} (hk : B[k]? = some e) (hh : e.c.held = true) :
    FI (dropA A e.id).2.2 (unA A e.id) (B.set k e.un) e.id ∧ (dropA A e.id).2.1 = 0 ∧ (dropA A e.id).2.2.taken + (dropA A e.id).1 = A.taken ∧ (dropA A e.id).2.2.all.length = A.all.length ∧ tight (dropA A e.id).2.2 ∧ (dropA A e.id).2.2.cap = c ∧ (∃ born, AI (dropA A e.id).2.2 born) := by
  obtain ⟨born, hI⟩ := h.ai
  obtain ⟨p, hp, hpc, hpt⟩ := h.bk.at hk
  have hph : p.held = true := by rw [← hpc] at hh; exact hh
  obtain ⟨d1, d2, -, d4, d5⟩ := drop_yes hI ⟨p, hp, hpt, hph⟩
  have hil : e.id < A.all.length := (List.getElem?_eq_some_iff.1 hp).1
  have epl := plA_in hp
  have hv : hasA A (e.id : Int) = true := by rw [has_in hp]; exact hpt
  have ed : dropA A (e.id : Int) = ((goA A.taken (unA A e.id) e.id).2, 0, (goA A.taken (unA A e.id) e.id).1) := by unfold dropA; rw [if_neg (by rw [hv, epl, hph]; simp)]
  have hpu : (unA A e.id).all = A.all.set e.id { p with held := false } := by show A.all.set e.id { plA A e.id with held := false } = _; rw [epl]
  have hset : ∀ j, (unA A e.id).all[j]? = if j = e.id then some { p with held := false } else A.all[j]? := fun j => by
    rw [hpu]
    by_cases h : j = e.id
    · subst h; rw [if_pos rfl, List.getElem?_set_self hil]
    · rw [if_neg h, List.getElem?_set_ne (Ne.symm h)]
  have hkl : k < B.length := (List.getElem?_eq_some_iff.1 hk).1
  have hmap : (B.set k e.un).map BE.id = B.map BE.id := by
    rw [List.map_set]
    have : e.un.id = (B.map BE.id)[k]'(by simpa using hkl) := by
      rw [List.getElem_map, (List.getElem?_eq_some_iff.1 hk).2]; rfl
    rw [this, List.set_getElem_self]
  have huni : ∀ (j : Nat) (f : BE), B[j]? = some f → f.id = e.id → j = k := by
    intro j f hj hf
    have h1 : (B.map BE.id)[j]? = some e.id := by rw [List.getElem?_map, hj]; simp [hf]
    have h2 : (B.map BE.id)[k]? = some e.id := by rw [List.getElem?_map, hk]; rfl
    have hjl : j < (B.map BE.id).length := by have := (List.getElem?_eq_some_iff.1 hj).1; simpa using this
    exact (List.getElem?_inj hjl h.bk.nodup).1 (h1.trans h2.symm)
  refine ⟨⟨⟨born, hI.flag hp hpt⟩, ⟨by rw [hmap]; exact h.bk.nodup, fun j cc => ?_, fun f hf => ?_⟩, .inr ⟨e.id, { p with held := false }, rfl, by rw [hset e.id, if_pos rfl], hpt⟩, fun j r hr hrt => ?_, by rw [List.length_set]; exact h.len, by rw [ed]; rfl⟩, d1, d2, ?_, d4 h.ti, by rw [d5]; exact h.cap, ⟨born, hI.drop _⟩⟩
  · have hcore : coreAt (unA A e.id) j = if j = e.id then some { e.c with held := false } else coreAt A j := by
      unfold coreAt
      rw [hset j]
      by_cases hj : j = e.id
      · rw [if_pos hj, if_pos hj, ← hpc]; rfl
      · rw [if_neg hj, if_neg hj]
    rw [hcore]
    constructor
    · rintro ⟨f, hf, rfl, rfl⟩
      obtain ⟨j2, hj2⟩ := List.mem_iff_getElem?.1 hf
      by_cases hjk : j2 = k
      · subst hjk
        rw [List.getElem?_set_self hkl] at hj2
        simp at hj2; subst hj2
        have : e.un.id = e.id := rfl
        rw [if_pos this]
        exact ⟨rfl, by show e.c.taken = true; rw [← hpc]; exact hpt⟩
      · rw [List.getElem?_set_ne (Ne.symm hjk)] at hj2
        rw [if_neg (fun h => hjk (huni j2 f hj2 h))]
        exact (h.bk.mem f.id f.c).1 ⟨f, List.mem_of_getElem? hj2, rfl, rfl⟩
    · rintro ⟨h1, h2⟩
      by_cases hj : j = e.id
      · rw [if_pos hj] at h1
        simp at h1
        exact ⟨e.un, List.mem_of_getElem? (i := k) (by rw [List.getElem?_set_self hkl]), hj.symm, h1⟩
      · rw [if_neg hj] at h1
        obtain ⟨f, hf, x1, x2⟩ := (h.bk.mem j cc).2 ⟨h1, h2⟩
        obtain ⟨j2, hj2⟩ := List.mem_iff_getElem?.1 hf
        have hjk : j2 ≠ k := by
          rintro rfl
          rw [hk] at hj2; simp at hj2; subst hj2
          exact hj x1.symm
        exact ⟨f, List.mem_of_getElem? (i := j2) (by rw [List.getElem?_set_ne (Ne.symm hjk)]; exact hj2), x1, x2⟩
  · obtain ⟨j2, hj2⟩ := List.mem_iff_getElem?.1 hf
    by_cases hjk : j2 = k
    · subst hjk
      rw [List.getElem?_set_self hkl] at hj2
      simp at hj2; subst hj2
      exact h.bk.bit e (List.mem_of_getElem? hk)
    · rw [List.getElem?_set_ne (Ne.symm hjk)] at hj2
      exact h.bk.bit f (List.mem_of_getElem? hj2)
  · rw [hset j] at hr
    by_cases hj : j = e.id
    · exact .inr (.inr (by rw [hj]))
    · rw [if_neg hj] at hr
      rcases h.ti j r hr hrt with h1 | h1
      · exact .inl h1
      · exact .inr (.inl h1)
  · rw [ed]
    simp only
    rw [(goA_len _ _ _).1, hpu, List.length_set]
theorem KE.freed {c : Nat} {R : AR} {B2 : List BE} {id2 : Int} {g t : Nat} (hF : FI R R B2 id2) (hT : tight R) (hc : R.cap = c) (ht : t = g + R.taken) : KE c R B2 g t :=
  ⟨hF.ai, hc, hT, hF.bk, hF.len, by rw [hF.len]; exact ht⟩
/-- A drop that says no. -/
theorem drop_no {c : Nat} {A : AR} {B : List BE} {g t : Nat} (h : KE c A B g t) {id : Int} (hn : ∀ (k : Nat) (e : BE), B[k]? = some e → (e.id : Int) = id → e.c.held = false) : dropA A id = (0, 120, A) := by
  unfold dropA
  rcases has_view A id with hv | ⟨i, p, rfl, hp, ht, hv, epl⟩
  · rw [if_pos (.inl hv)]
  · obtain ⟨k, e, h1, h2, h3⟩ := h.bk.has hp ht
    have h4 := hn k e h1 (by rw [h2])
    rw [h3] at h4
    rw [if_pos (.inr (by rw [epl]; exact h4))]

end Go.Proofs.Ytahhbbcgfhmmgaa
