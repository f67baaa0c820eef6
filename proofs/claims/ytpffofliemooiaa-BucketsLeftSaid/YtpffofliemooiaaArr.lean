/- Parts in whatever order. -/
import Derived.Test.YtpffofliemooiaaBk
namespace Go.Own

theorem perm_sep {w : World} {L L' : List Asn} (h : List.Perm L L') : ∀ X, Sep w L X → ∃ X', Sep w L' X' ∧ List.Perm X X' := by
  induction h with
  | nil => exact fun X h => ⟨X, h, List.Perm.refl _⟩
  | cons A _ ih =>
    rintro X ⟨B, Y, rfl, h1, h2⟩
    obtain ⟨Y', h3, h4⟩ := ih Y h2
    exact ⟨B ++ Y', ⟨B, Y', rfl, h1, h3⟩, h4.append_left B⟩
  | swap A C L =>
    rintro X ⟨B, Y, rfl, h1, ⟨B2, Y2, rfl, h5, h6⟩⟩
    exact ⟨B2 ++ (B ++ Y2), ⟨B2, _, rfl, h5, ⟨B, Y2, rfl, h1, h6⟩⟩, List.perm_append_comm_assoc B B2 Y2⟩
  | trans _ _ ih1 ih2 =>
    intro X h
    obtain ⟨Y, h1, h2⟩ := ih1 X h
    obtain ⟨Z, h3, h4⟩ := ih2 Y h1
    exact ⟨Z, h3, h2.trans h4⟩

theorem Hold.perm {w : World} {L L' : List Asn} (h : Hold w L) (hp : List.Perm L L') : Hold w L' := by
  obtain ⟨X, h1, h3, h4⟩ := h
  obtain ⟨X', h5, h6⟩ := perm_sep hp X h1
  exact ⟨X', h5, h6.nodup_iff.1 h3, fun k hk => h4 k (h6.mem_iff.2 hk)⟩

/-- A part by its number. -/
@[reducible] def atA : List Asn → Nat → Asn
  | [], _ => pureA True
  | A :: _, 0 => A
  | _ :: L, n + 1 => atA L n
@[reducible] def dropA : Nat → List Asn → List Asn
  | 0, L => L
  | _ + 1, [] => []
  | n + 1, _ :: L => dropA n L
/-- The parts told by their numbers, then T. -/
@[reducible] def arrA : List Nat → List Asn → List Asn → List Asn
  | [], _, T => T
  | i :: r, L, T => atA L i :: arrA r L T
theorem atA_eq : ∀ (L : List Asn) (i : Nat), i < L.length → L[i]? = some (atA L i)
  | [], _, h => by simp at h
  | A :: _, 0, _ => rfl
  | _ :: L, n + 1, h => by simpa using atA_eq L n (by simpa using h)
theorem dropA_eq : ∀ (n : Nat) (L : List Asn), dropA n L = L.drop n
  | 0, L => rfl
  | _ + 1, [] => rfl
  | n + 1, _ :: L => dropA_eq n L
theorem arrA_eq (L T : List Asn) : ∀ l : List Nat, arrA l L T = l.map (atA L) ++ T
  | [] => rfl
  | i :: r => by simp only [arrA, List.map_cons, List.cons_append, arrA_eq L T r]
theorem Hold.arr {w : World} {L : List Asn} (h : Hold w L) (is : List Nat) (hp : List.Perm is (List.range is.length) := by decide) (hn : is.length ≤ L.length := by simp) : Hold w (arrA is L (dropA is.length L)) := by
  refine h.perm ?_
  rw [arrA_eq, dropA_eq]
  have e : L.take is.length = (List.range is.length).map (atA L) := by
    apply List.ext_getElem?
    intro j
    by_cases hj : j < is.length
    · rw [List.getElem?_take, if_pos hj, List.getElem?_map, List.getElem?_range hj]
      exact atA_eq L j (by omega)
    · rw [List.getElem?_take, if_neg hj, List.getElem?_eq_none (by simp; omega)]
  conv => lhs; rw [← List.take_append_drop is.length L, e]
  exact (hp.symm.map _).append_right _

end Go.Own
