/- Parts put back where they were. -/
import Derived.Test.YtpffofliemooiaaHold
namespace Go.Own

theorem front_sep_back {w : World} : ∀ (n : Nat) (L : List Asn) (X : List Nat), Sep w (front n L) X → ∃ X', Sep w L X' ∧ List.Perm X X'
  | 0, L, X, h => ⟨X, h, List.Perm.refl _⟩
  | _ + 1, [], X, h => ⟨X, h, List.Perm.refl _⟩
  | n + 1, A :: L, X, h => by
    have ih := front_sep_back (w := w) n L
    simp only [front] at h
    revert h ih
    cases front n L with
    | nil =>
      intro h ih
      obtain ⟨B, Y, rfl, h1, h2⟩ := h
      obtain ⟨Y', h3, h4⟩ := ih Y h2
      exact ⟨B ++ Y', ⟨B, Y', rfl, h1, h3⟩, h4.append_left B⟩
    | cons C R =>
      intro h ih
      obtain ⟨B, Y, rfl, h1, ⟨B2, Y2, rfl, h2, h3⟩⟩ := h
      obtain ⟨Y', h5, h6⟩ := ih (B ++ Y2) ⟨B, Y2, rfl, h1, h3⟩
      exact ⟨B2 ++ Y', ⟨B2, Y', rfl, h2, h5⟩, (List.perm_append_comm_assoc B B2 Y2).trans (h6.append_left B2)⟩

theorem Hold.bk {w : World} {L : List Asn} (n : Nat) (h : Hold w (front n L)) : Hold w L := by
  obtain ⟨X, h1, h3, h4⟩ := h
  obtain ⟨X', h5, h6⟩ := front_sep_back n L X h1
  exact ⟨X', h5, h6.nodup_iff.1 h3, fun k hk => h4 k (h6.mem_iff.2 hk)⟩

end Go.Own
