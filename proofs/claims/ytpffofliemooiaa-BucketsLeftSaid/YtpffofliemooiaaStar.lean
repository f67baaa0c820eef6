/- Many parts as one; one of them taken out, and put back. -/
import Derived.Test.YtpffofliemooiaaArr
namespace Go.Own

def starL : List Asn → Asn
  | [] => pureA True
  | A :: L => starA A (starL L)

theorem Hold.unL {w : World} : ∀ {Rs L : List Asn}, Hold w (starL Rs :: L) ↔ Hold w (Rs ++ L)
  | [], L => by
    show Hold w (pureA True :: L) ↔ _
    rw [Hold.pure]; simp
  | A :: Rs, L => by
    show Hold w (starA A (starL Rs) :: L) ↔ _
    rw [Hold.star]
    constructor
    · intro h
      have h2 : Hold w (starL Rs :: A :: L) := h.swap
      have h3 := Hold.unL.1 h2
      refine h3.perm ?_
      exact List.perm_middle
    · intro h
      have h2 : Hold w (Rs ++ (A :: L)) := h.perm (by simpa using List.perm_middle.symm)
      exact (Hold.unL.2 h2).swap

theorem perm_erase {α : Type} : ∀ {l : List α} {k : Nat} {a : α}, l[k]? = some a → List.Perm l (a :: l.eraseIdx k)
  | x :: l, 0, a, h => by simp at h; subst h; simp
  | x :: l, k + 1, a, h => by
    have ih := perm_erase (l := l) (k := k) (by simpa using h)
    simp only [List.eraseIdx_cons_succ]
    exact (ih.cons x).trans (List.Perm.swap a x _)
theorem perm_set {α : Type} : ∀ {l : List α} {k : Nat} {a : α}, k < l.length → List.Perm (a :: l.eraseIdx k) (l.set k a)
  | x :: l, 0, a, _ => by simp
  | x :: l, k + 1, a, h => by
    have ih := perm_set (l := l) (k := k) (a := a) (by simpa using h)
    simp only [List.eraseIdx_cons_succ, List.set_cons_succ]
    exact (List.Perm.swap x a _).trans (ih.cons x)

/-- One of them by itself. -/
theorem Hold.out {w : World} {Rs L : List Asn} {k : Nat} {A : Asn} (h : Hold w (starL Rs :: L)) (hk : Rs[k]? = some A) : Hold w (A :: Go.Own.starL (Rs.eraseIdx k) :: L) := by
  have h1 := (Hold.unL.1 h).perm ((perm_erase hk).append_right L)
  have h2 : Hold w (Rs.eraseIdx k ++ (A :: L)) := h1.perm (by simpa using List.perm_middle.symm)
  exact (Hold.unL.2 h2).swap
/-- Put back, another one by now. -/
theorem Hold.back {w : World} {Rs L : List Asn} {k : Nat} {A : Asn} (h : Hold w (A :: Go.Own.starL (Rs.eraseIdx k) :: L)) (hk : k < Rs.length) : Hold w (Go.Own.starL (Rs.set k A) :: L) := by
  have h1 := Hold.unL.1 h.swap
  have h2 : Hold w ((A :: Rs.eraseIdx k) ++ L) := h1.perm List.perm_middle
  exact Hold.unL.2 (h2.perm ((perm_set hk).append_right L))
theorem Hold.addL {w : World} {Rs L : List Asn} {A : Asn} (h : Hold w (A :: Go.Own.starL Rs :: L)) : Hold w (Go.Own.starL (Rs ++ [A]) :: L) := by
  have h1 : Hold w (Rs ++ (A :: L)) := Hold.unL.1 h.swap
  exact Hold.unL.2 (by simpa using h1)
theorem Hold.tailL {w : World} {Rs L : List Asn} {A : Asn} (h : Hold w (Go.Own.starL (A :: Rs) :: L)) : Hold w (A :: Go.Own.starL Rs :: L) := by
  have h1 : Hold w (A :: (Rs ++ L)) := Hold.unL.1 h
  have h2 : Hold w (Rs ++ (A :: L)) := h1.perm List.perm_middle.symm
  exact (Hold.unL.2 h2).swap
theorem Reads.ofL {Rs : List Asn} {k : Nat} {A : Asn} (hk : Rs[k]? = some A) {sz n : Nat} {v : Value} {xs : List Value} (h : Reads A sz v n xs) : Reads (starL Rs) sz v n xs := by
  induction Rs generalizing k with
  | nil => simp at hk
  | cons C Rs ih =>
    rintro B w ⟨B1, B2, rfl, h1, h2⟩
    cases k with
    | zero =>
      simp at hk
      subst hk
      obtain ⟨S, h3, h4⟩ := h B1 w h1
      exact ⟨S, h3, fun k hk => by simp [h4 k hk]⟩
    | succ k =>
      obtain ⟨S, h3, h4⟩ := ih (by simpa using hk) B2 w h2
      exact ⟨S, h3, fun k hk => by simp [h4 k hk]⟩
theorem Hold.nilL {w : World} {L : List Asn} (h : Hold w L) : Hold w (Go.Own.starL [] :: L) := Hold.pure.2 ⟨trivial, h⟩
/-- Empty rows, as many as you like. -/
theorem Hold.nilRows {w : World} {L : List Asn} (E : TypeId) (sz : Nat) (h : Hold w L) : ∀ n, Hold w (Go.Own.starL (List.replicate n (rowA E sz none 0 0 [])) :: L)
  | 0 => h.nilL
  | n + 1 => by
    have := (h.nilRows E sz n).nilRow E sz
    rw [List.replicate_succ']
    exact this.addL

end Go.Own
