/- Parts in whatever order. -/
import Derived.Test.YtibmokkalloabaaBk
namespace Go.Own

theorem perm_sep {w : World} {L L' : List Asn} (h : List.Perm L L') : ∀ X, Sep w L X → ∃ X', Sep w L' X' ∧ List.Perm X X' := by
  induction h with
  | nil => exact fun X h => ⟨X, h, List.Perm.refl _⟩
  | cons A _ ih =>
    rintro X ⟨B, Y, rfl, h1, h2⟩
    obtain ⟨Y', h3, h4⟩ := ih Y h2
    exact ⟨B ++ Y', ⟨B, Y', rfl, h1, h3⟩, h4.append_left B⟩
  | swap A C L =>
    rintro X ⟨B, Y, rfl, h1, ⟨B2, Y2, rfl, h5, h6⟩⟩
    exact ⟨B2 ++ (B ++ Y2), ⟨B2, _, rfl, h5, ⟨B, Y2, rfl, h1, h6⟩⟩, List.perm_append_comm_assoc B B2 Y2⟩
  | trans _ _ ih1 ih2 =>
    intro X h
    obtain ⟨Y, h1, h2⟩ := ih1 X h
    obtain ⟨Z, h3, h4⟩ := ih2 Y h1
    exact ⟨Z, h3, h2.trans h4⟩

theorem Hold.perm {w : World} {L L' : List Asn} (h : Hold w L) (hp : List.Perm L L') : Hold w L' := by
  obtain ⟨X, h1, h3, h4⟩ := h
  obtain ⟨X', h5, h6⟩ := perm_sep hp X h1
  exact ⟨X', h5, h6.nodup_iff.1 h3, fun k hk => h4 k (h6.mem_iff.2 hk)⟩

/-- The parts told by their numbers, the rest behind them. -/
@[reducible] def pickA (L : List Asn) : List Nat → List Asn
  | [] => []
  | i :: r => (match L, i with
    | [], _ => pureA True
    | A :: _, 0 => A
    | _ :: A :: _, 1 => A
    | _ :: _ :: A :: _, 2 => A
    | _ :: _ :: _ :: A :: _, 3 => A
    | _ :: _ :: _ :: _ :: A :: _, 4 => A
    | _ :: _ :: _ :: _ :: _ :: A :: _, 5 => A
    | _ :: _ :: _ :: _ :: _ :: _ :: A :: _, 6 => A
    | _ :: _ :: _ :: _ :: _ :: _ :: _ :: A :: _, 7 => A
    | _, i => L.getD i (pureA True)) :: pickA L r
theorem pickA_eq (L : List Asn) : ∀ l : List Nat, (∀ i ∈ l, i < L.length) → pickA L l = l.map fun i => L.getD i (pureA True)
  | [], _ => rfl
  | i :: r, h => by
    have h1 := h i (by simp)
    have e := pickA_eq L r (fun j hj => h j (by simp [hj]))
    simp only [pickA, List.map_cons, e]
    congr 1
    split <;> first | rfl | (simp at h1)
@[reducible] def dropA : Nat → List Asn → List Asn
  | 0, L => L
  | _ + 1, [] => []
  | n + 1, _ :: L => dropA n L
theorem dropA_eq : ∀ (n : Nat) (L : List Asn), dropA n L = L.drop n
  | 0, L => rfl
  | _ + 1, [] => rfl
  | n + 1, _ :: L => dropA_eq n L
theorem Hold.arr {w : World} {L : List Asn} (h : Hold w L) (is : List Nat) (hp : List.Perm is (List.range is.length) := by decide) (hn : is.length ≤ L.length := by simp) : Hold w (pickA L is ++ dropA is.length L) := by
  refine h.perm ?_
  rw [pickA_eq L is (fun i hi => by have := hp.mem_iff.1 hi; simp at this; omega), dropA_eq]
  have e : L.take is.length = (List.range is.length).map fun i => L.getD i (pureA True) := by
    apply List.ext_getElem?
    intro j
    by_cases hj : j < is.length
    · rw [List.getElem?_take, if_pos hj, List.getElem?_map, List.getElem?_range hj]
      simp [List.getD, List.getElem?_eq_getElem (show j < L.length by omega)]
    · rw [List.getElem?_take, if_neg hj, List.getElem?_eq_none (by simp; omega)]
  conv => lhs; rw [← List.take_append_drop is.length L, e]
  exact (hp.symm.map _).append_right _

end Go.Own
