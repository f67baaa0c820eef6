/- The walk of MarkerClear. -/
import Derived.Test.YtibmokkalloabaaMkY
open Go.RowKit Go.Own
namespace Go.Proofs.Ytibmokkalloabaa

/-- The first k numbers laid, zeros behind them. -/
def lay (f : Nat → Int) (m k : Nat) : List Value := (List.range m).map fun i => .int .u8 (if i < k then f i else 0)
theorem lay_set (f : Nat → Int) (m k : Nat) : (lay f m k).set k (.int .u8 (f k)) = lay f m (k + 1) := by
  apply List.ext_getElem?
  intro j
  rw [List.getElem?_set]
  unfold lay
  by_cases hj : j < m
  · by_cases e : k = j
    · subst e; simp [hj]
    · rw [if_neg e]
      simp only [List.getElem?_map, List.getElem?_range hj, Option.map_some]
      by_cases h1 : j < k
      · rw [if_pos h1, if_pos (by omega)]
      · rw [if_neg h1, if_neg (by omega)]
  · have h1 : ((List.range m).map fun i => Value.int .u8 (if i < k + 1 then f i else 0))[j]? = none := by simp; omega
    rw [h1]
    by_cases e : k = j
    · subst e; rw [if_pos rfl, if_neg (by simp; omega)]
    · rw [if_neg e]; simp; omega
theorem lay_zero (f : Nat → Int) (m : Nat) : ((madeCells (Value.int .u8 0).cells (m * 1)).toList).take (m * 1) = lay f m 0 := by
  have e : (Value.int .u8 0).cells = #[.int .u8 0] := rfl
  rw [e]
  unfold madeCells
  apply List.ext_getElem?
  intro j
  by_cases hj : j < m
  · simp [lay, hj, Nat.mod_one]
  · simp [lay, hj, Nat.mod_one]
theorem lay_get (f : Nat → Int) (m k j : Nat) (h : j < m) : (lay f m k)[j]? = some (.int .u8 (if j < k then f j else 0)) := by simp [lay, h]
def layU (f : Nat → Int) (m : Nat) : List UInt8 := (List.range m).map fun i => UInt8.ofNat (f i).toNat
theorem lay_ub (f : Nat → Int) (m : Nat) (h : ∀ i, i < m → 0 ≤ f i ∧ f i < 256) : lay f m m = ub (layU f m) := by
  unfold lay layU ub
  rw [List.map_map]
  apply List.map_congr_left
  intro i hi
  have h1 : i < m := by simpa using hi
  have h2 := h i h1
  simp only [h1, if_true, Function.comp]
  congr 1
  simp; omega
@[simp] theorem layU_length (f : Nat → Int) (m : Nat) : (layU f m).length = m := by simp [layU]
theorem layU_get (f : Nat → Int) (m j : Nat) (h : j < m) (hf : 0 ≤ f j ∧ f j < 256) : (((layU f m).getD j 0).toNat : Int) = f j := by
  simp [layU, List.getD, h]; omega

/-- Full confidence, and full doubt. -/
def ful (N : Int) (B m i : Nat) : Int := if bitOf B m i = 0 then 0 else N - 1
def oth (N : Int) (B m i : Nat) : Int := if bitOf B m i = 0 then N - 1 else 0
theorem ful_bd {N : Int} (h1 : 2 ≤ N) (h2 : N ≤ 16) (B m i : Nat) : 0 ≤ ful N B m i ∧ ful N B m i < 256 := by unfold ful; split <;> omega
theorem oth_bd {N : Int} (h1 : 2 ≤ N) (h2 : N ≤ 16) (B m i : Nat) : 0 ≤ oth N B m i ∧ oth N B m i < 256 := by unfold oth; split <;> omega

theorem wgt_le {N : Int} (b l : Nat) (hl : (l : Int) < N) : -(N - 1) ≤ wgt N b l ∧ wgt N b l ≤ N - 1 := by unfold wgt; split <;> omega
theorem wgt_most {N : Int} (B m i l : Nat) (hl : (l : Int) < N) : wgt N (bitOf B m i) l = N - 1 ↔ (l : Int) = ful N B m i := by unfold wgt ful; split <;> omega
theorem wgt_least {N : Int} (B m i l : Nat) (hl : (l : Int) = oth N B m i) : wgt N (bitOf B m i) l = -(N - 1) := by unfold wgt oth at *; split <;> simp_all <;> omega

theorem atS_le {N : Int} (B m : Nat) (ys : List UInt8) : ∀ k : Nat, (∀ i, i < k → ((ys.getD i 0).toNat : Int) < N) →
    -(k * (N - 1)) ≤ atS N B m ys k ∧ atS N B m ys k ≤ k * (N - 1) ∧ (atS N B m ys k = k * (N - 1) ↔ ∀ i, i < k → ((ys.getD i 0).toNat : Int) = ful N B m i)
  | 0, _ => by simp [atS]
  | k + 1, h => by
    obtain ⟨h1, h2, h3⟩ := atS_le B m ys k (fun i hi => h i (by omega))
    have h4 := wgt_le (bitOf B m k) (ys.getD k 0).toNat (h k (by omega))
    have h5 := wgt_most B m k (ys.getD k 0).toNat (h k (by omega))
    have e : ((k + 1 : Nat) : Int) * (N - 1) = k * (N - 1) + (N - 1) := by rw [Int.natCast_add, Int.add_mul]; simp
    rw [e]
    simp only [atS]
    refine ⟨by omega, by omega, ⟨fun hh i hi => ?_, fun hh => ?_⟩⟩
    · rcases Nat.lt_or_ge i k with hik | hik
      · exact h3.1 (by omega) i hik
      · obtain rfl : i = k := by omega
        exact h5.1 (by omega)
    · rw [h3.2 (fun i hi => hh i (by omega)), h5.2 (hh k (by omega))]
theorem atS_least {N : Int} (B m : Nat) (ys : List UInt8) : ∀ k : Nat, (∀ i, i < k → ((ys.getD i 0).toNat : Int) = oth N B m i) → atS N B m ys k = -(k * (N - 1))
  | 0, _ => by simp [atS]
  | k + 1, h => by
    have h1 := atS_least B m ys k (fun i hi => h i (by omega))
    have h2 := wgt_least B m k _ (h k (by omega))
    have e : ((k + 1 : Nat) : Int) * (N - 1) = k * (N - 1) + (N - 1) := by rw [Int.natCast_add, Int.add_mul]; simp
    rw [e]
    simp only [atS]
    omega

theorem val_full {N : Int} (h1 : 2 ≤ N) (h2 : N ≤ 16) (B m : Nat) : valAt N B m (layU (ful N B m) m) 0 = m * (N - 1) := by
  unfold valAt
  rw [List.drop_zero]
  have hg : ∀ i, i < m → (((layU (ful N B m) m).getD i 0).toNat : Int) = ful N B m i := fun i hi => layU_get _ _ _ hi (ful_bd h1 h2 B m i)
  exact (atS_le B m _ m (fun i hi => by rw [hg i hi]; unfold ful; split <;> omega)).2.2.2 hg
theorem val_other {N : Int} (h1 : 2 ≤ N) (h2 : N ≤ 16) (B m : Nat) : valAt N B m (layU (oth N B m) m) 0 = -(m * (N - 1)) := by
  unfold valAt
  rw [List.drop_zero]
  exact atS_least B m _ m (fun i hi => layU_get _ _ _ hi (oth_bd h1 h2 B m i))
theorem allB_lay {N : Int} (f : Nat → Int) (m : Nat) (h : ∀ i, i < m → 0 ≤ f i ∧ f i < 256 ∧ f i < N) : allB N (((layU f m).drop 0).take m) = true := by
  rw [List.drop_zero, List.take_of_length_le (by simp)]
  refine allB_yes fun k hk => ?_
  have hk2 : k < m := by simpa using hk
  have h1 := h k hk2
  have := layU_get f m k hk2 ⟨h1.1, h1.2.1⟩
  simp only [List.getD, List.getElem?_eq_getElem hk, Option.getD_some] at this
  omega
/-- Worth the most is full confidence alone. -/
theorem val_first {N : Int} (h1 : 2 ≤ N) (h2 : N ≤ 16) (B m : Nat) (ys : List UInt8) (hm : m ≤ ys.length) (ha : allB N ((ys.drop 0).take m) = true) :
    -(m * (N - 1)) ≤ valAt N B m ys 0 ∧ valAt N B m ys 0 ≤ m * (N - 1) ∧ (decide (valAt N B m ys 0 = m * (N - 1)) = (ys.take m == layU (ful N B m) m)) := by
  have hA : ∀ i, i < m → ((ys.getD i 0).toNat : Int) < N := fun i hi => by have := allB_get ha (by omega) hi; simpa using this
  obtain ⟨h3, h4, h5⟩ := atS_le B m ys m hA
  unfold valAt
  rw [List.drop_zero]
  refine ⟨h3, h4, ?_⟩
  rw [Bool.eq_iff_iff, decide_eq_true_iff, h5, beq_iff_eq]
  constructor
  · intro h
    apply List.ext_getElem?
    intro j
    by_cases hj : j < m
    · have e := h j hj
      have e2 := layU_get (ful N B m) m j hj (ful_bd h1 h2 B m j)
      rw [List.getElem?_take, if_pos hj]
      have a1 : ys[j]? = some (ys.getD j 0) := by simp [List.getD, List.getElem?_eq_getElem (show j < ys.length by omega)]
      have a2 : (layU (ful N B m) m)[j]? = some ((layU (ful N B m) m).getD j 0) := by simp [List.getD, List.getElem?_eq_getElem (show j < (layU (ful N B m) m).length by simpa using hj)]
      rw [a1, a2]
      congr 1
      apply UInt8.toNat_inj.1
      omega
    · rw [List.getElem?_eq_none (by simp; omega), List.getElem?_eq_none (by simp; omega)]
  · intro h i hi
    have e2 := layU_get (ful N B m) m i hi (ful_bd h1 h2 B m i)
    rw [← e2, ← h]
    simp [List.getD, List.getElem?_take, hi]

end Go.Proofs.Ytibmokkalloabaa
