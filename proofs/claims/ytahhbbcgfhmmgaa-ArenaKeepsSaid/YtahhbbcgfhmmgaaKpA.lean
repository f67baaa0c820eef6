/- The book of ArenaKeeps: plain law. -/
import Derived.Test.YtahhbbcgfhmmgaaArP
namespace Go.Proofs.Ytahhbbcgfhmmgaa
open Go.Own

/-- An entry: its number, what was handed in, the bit as it stands in the book. -/
structure BE where
  id : Nat
  c : PL
  bt : Nat
def BE.cells (e : BE) : List Value := [.int .i64 e.id, .int .u32 e.c.st, .int .i64 e.c.depth, .int .i64 e.c.metric, .int .i64 e.c.parent, .int .u8 e.bt, .bool e.c.held]
def BE.un (e : BE) : BE := { e with c := { e.c with held := false } }

/-- The book tells who is there. -/
structure Bk (A : AR) (B : List BE) : Prop where
  nodup : (B.map BE.id).Nodup
  mem : ∀ (i : Nat) (c : PL), (∃ e ∈ B, e.id = i ∧ e.c = c) ↔ coreAt A i = some c ∧ c.taken = true
  bit : ∀ e ∈ B, 0 ≤ e.c.parent → e.bt = e.c.bit
theorem Bk.new (c : Nat) : Bk (AR.new c) [] := ⟨by simp, fun i c => by simp [coreAt, AR.new], by simp⟩
theorem Bk.at {A : AR} {B : List BE} (h : Bk A B) {k : Nat} {e : BE} (hk : B[k]? = some e) : ∃ p, A.all[e.id]? = some p ∧ p.core = e.c ∧ p.taken = true := by
  obtain ⟨h1, h2⟩ := (h.mem e.id e.c).1 ⟨e, List.mem_of_getElem? hk, rfl, rfl⟩
  obtain ⟨p, h3, h4⟩ := core_of h1
  refine ⟨p, h3, h4, ?_⟩
  rw [← h4] at h2; exact h2
theorem Bk.has {A : AR} {B : List BE} (h : Bk A B) {i : Nat} {p : PL} (hp : A.all[i]? = some p) (ht : p.taken = true) : ∃ (k : Nat) (e : BE), B[k]? = some e ∧ e.id = i ∧ e.c = p.core := by
  obtain ⟨e, h1, h2, h3⟩ := (h.mem i p.core).2 ⟨by unfold coreAt; rw [hp]; rfl, ht⟩
  obtain ⟨k, hk⟩ := List.mem_iff_getElem?.1 h1
  exact ⟨k, e, hk, h2, h3⟩

/-- Who is needed, as the book tells it. -/
theorem Bk.kids {A : AR} {born : Nat → Nat} {B : List BE} (hI : AI A born) (h : Bk A B) {k : Nat} {e : BE} (hk : B[k]? = some e) {p : PL} (hp : A.all[e.id]? = some p) : 0 < p.kids ↔ ∃ (j : Nat) (f : BE), B[j]? = some f ∧ f.c.parent = e.id := by
  obtain ⟨p', h1, h2, h3⟩ := h.at hk
  rw [hp] at h1; simp at h1; subst h1
  rw [hI.kids e.id p hp h3]
  constructor
  · intro h4
    obtain ⟨j, q, h5, h6, h7⟩ := kidsOf_pos h4
    obtain ⟨k2, f, g1, g2, g3⟩ := h.has h5 h6
    exact ⟨k2, f, g1, by rw [g3]; exact h7⟩
  · rintro ⟨j, f, h4, h5⟩
    obtain ⟨q, g1, g2, g3⟩ := h.at h4
    have h6 : q.parent = (e.id : Int) := by rw [← h5, ← g2]; rfl
    have := kidsOf_has g1 g3
    rw [h6] at this
    exact this

/-- One that nobody needs is struck. -/
theorem Bk.cut {A : AR} {born : Nat → Nat} {B : List BE} (hI : AI A born) (h : Bk A B) {k : Nat} {e : BE} (hk : B[k]? = some e) {p : PL} (hp : A.all[e.id]? = some p) (h0 : p.kids = 0) : Bk (lessA (cutA A e.id) p.parent) (B.take k ++ B.drop (k + 1)) := by
  obtain ⟨p', h1, h2, h3⟩ := h.at hk
  rw [hp] at h1; simp at h1; subst h1
  obtain ⟨-, -, c1, c2, c3⟩ := hI.cut hp h3 h0
  have hkl : k < B.length := (List.getElem?_eq_some_iff.1 hk).1
  have hke : B[k] = e := (List.getElem?_eq_some_iff.1 hk).2
  have eB : B = B.take k ++ e :: B.drop (k + 1) := by
    conv => lhs; rw [← List.take_append_drop k B, List.drop_eq_getElem_cons hkl, hke]
  have hcore : ∀ j, coreAt (lessA (cutA A e.id) p.parent) j = if j = e.id then some PL.zero.core else coreAt A j := by
    intro j
    unfold coreAt
    by_cases hj : j = e.id
    · subst hj; rw [if_pos rfl, c2]; rfl
    · rw [if_neg hj]
      by_cases hu : (j : Int) = p.parent
      · obtain ⟨q, x1, x2, x3⟩ := c3 j hu
        rw [x3, x1]; rfl
      · rw [c1 j hj hu]
  have hnd := h.nodup
  rw [eB, List.map_append, List.map_cons, List.nodup_append] at hnd
  obtain ⟨n1, n2, n3⟩ := hnd
  have n4 := List.nodup_cons.1 n2
  have hne : ∀ f ∈ B.take k ++ B.drop (k + 1), f.id ≠ e.id := by
    intro f hf
    rcases List.mem_append.1 hf with hf | hf
    · exact n3 _ (List.mem_map_of_mem hf) _ (by simp)
    · intro he; exact n4.1 (he ▸ List.mem_map_of_mem hf)
  refine ⟨?_, fun j c => ?_, fun f hf => h.bit f ?_⟩
  · rw [List.map_append, List.nodup_append]
    exact ⟨n1, n4.2, fun a ha b hb => n3 a ha b (List.mem_cons_of_mem _ hb)⟩
  · rw [hcore j]
    constructor
    · rintro ⟨f, hf, rfl, rfl⟩
      rw [if_neg (hne f hf)]
      refine (h.mem f.id f.c).1 ⟨f, ?_, rfl, rfl⟩
      rw [eB]
      rcases List.mem_append.1 hf with hf | hf
      · exact List.mem_append_left _ hf
      · exact List.mem_append_right _ (by simp [hf])
    · rintro ⟨h4, h5⟩
      by_cases hj : j = e.id
      · rw [if_pos hj] at h4; simp at h4; subst h4; simp [PL.core, PL.zero] at h5
      · rw [if_neg hj] at h4
        obtain ⟨f, hf, g1, g2⟩ := (h.mem j c).2 ⟨h4, h5⟩
        refine ⟨f, ?_, g1, g2⟩
        rw [eB] at hf
        rcases List.mem_append.1 hf with hf | hf
        · exact List.mem_append_left _ hf
        · rcases List.mem_cons.1 hf with rfl | hf
          · exact absurd g1.symm hj
          · exact List.mem_append_right _ hf
  · rw [eB]
    rcases List.mem_append.1 hf with hf | hf
    · exact List.mem_append_left _ hf
    · exact List.mem_append_right _ (by simp [hf])

theorem next_tight {A : AR} {born : Nat → Nat} (hI : AI A born) {id : Int} (hid : idOk A id) (hl : loose A id) (hT : tightBut A id) : tightBut (lessA (cutA A id.toNat) (plA A id).parent) (plA A id).parent := by
  rcases hid with rfl | ⟨i, p, rfl, hp, ht⟩
  · exact absurd hl.1 (by omega)
  · have epl := plA_in hp
    have g3 := hl.2.2
    rw [epl] at g3 ⊢
    obtain ⟨-, -, c1, c2, c3⟩ := hI.cut hp ht g3
    rw [Int.toNat_natCast]
    intro j r hr hrt
    by_cases hu : (j : Int) = p.parent
    · exact .inr (.inr hu)
    · by_cases hj : j = i
      · subst hj
        rw [c2] at hr; simp at hr; subst hr; simp [PL.zero] at hrt
      · rw [c1 j hj hu] at hr
        rcases hT j r hr hrt with h | h | h
        · exact .inl h
        · exact .inr (.inl h)
        · omega

/-- As freed goes on: what is there, whom to look at; R: what is left at the end. -/
structure FI (R : AR) (A : AR) (B : List BE) (id : Int) : Prop where
  ai : ∃ born, AI A born
  bk : Bk A B
  ok : idOk A id
  but : tightBut A id
  len : B.length = A.taken
  res : (goA A.taken A id).1 = R
def needed (B : List BE) (e : BE) : Prop := e.c.held = true ∨ ∃ (j : Nat) (f : BE), B[j]? = some f ∧ f.c.parent = e.id
theorem FI.next {R A : AR} {B : List BE} {id : Int} (h : FI R A B id) {k : Nat} {e : BE} (hk : B[k]? = some e) (hn : ¬ needed B e) : ∃ A2 id2, FI R A2 (B.take k ++ B.drop (k + 1)) id2 := by
  obtain ⟨born, hI⟩ := h.ai
  obtain ⟨p, h1, h2, h3⟩ := h.bk.at hk
  have hh : p.held = false := by
    cases hq : p.held with
    | false => rfl
    | true => exact absurd (.inl (by rw [← h2]; exact hq)) hn
  have hk0 : p.kids = 0 := by
    rcases Nat.eq_zero_or_pos p.kids with h4 | h4
    · exact h4
    · exact absurd (.inr ((h.bk.kids hI hk h1).1 h4)) hn
  obtain rfl : (e.id : Int) = id := by
    rcases h.but e.id p h1 h3 with h4 | h4 | h4
    · rw [hh] at h4; exact absurd h4 (by simp)
    · omega
    · exact h4
  have epl := plA_in h1
  have hl : loose A e.id := ⟨by omega, by rw [epl]; exact hh, by rw [epl]; exact hk0⟩
  obtain ⟨g1, g2, g3⟩ := hI.next h.ok hl
  have g4 := next_tight hI h.ok hl h.but
  have g5 := h.bk.cut hI hk h1 hk0
  have hkl : k < B.length := (List.getElem?_eq_some_iff.1 hk).1
  have hr := h.res
  rw [epl, Int.toNat_natCast] at g1 g2 g3 g4
  refine ⟨_, _, ⟨⟨born, g1⟩, g5, g2, g4, ?_, ?_⟩⟩
  · have := h.len; simp; omega
  · obtain ⟨f, hf⟩ : ∃ f, A.taken = f + 1 := ⟨A.taken - 1, by omega⟩
    rw [hf, goA_yes hl, epl, Int.toNat_natCast] at hr
    rw [show (lessA (cutA A e.id) p.parent).taken = f by omega]
    exact hr
theorem FI.last {R A : AR} {B : List BE} {id : Int} (h : FI R A B id) (hn : ∀ (k : Nat) (e : BE), B[k]? = some e → needed B e) : R = A := by
  obtain ⟨born, hI⟩ := h.ai
  rw [← h.res]
  by_cases hl : loose A id
  · exfalso
    rcases h.ok with rfl | ⟨i, p, rfl, hp, ht⟩
    · exact absurd hl.1 (by omega)
    · have epl := plA_in hp
      have h2 := hl.2.1
      have h3 := hl.2.2
      rw [epl] at h2 h3
      obtain ⟨k, e, g1, g2, g3⟩ := h.bk.has hp ht
      subst g2
      rcases hn k e g1 with h4 | h4
      · rw [g3] at h4
        have h5 : p.held = true := h4
        rw [h2] at h5; exact absurd h5 (by simp)
      · have := (h.bk.kids hI g1 hp).2 h4
        omega
  · rw [goA_no hl]

end Go.Proofs.Ytahhbbcgfhmmgaa
