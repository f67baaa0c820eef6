/- Arguments opened: arrays. -/
import Derived.Test.YtlfchokafpodcaaLaw
open Go.ChangeShapes Go.WideShapes Go.ChangeAt Go.RowKit Go.Deep
namespace Go.Own

theorem mapM_each {α β : Type} (g : α → Option β) : ∀ (l : List α) (ys : List β), l.mapM g = some ys → ∀ x ∈ l, ∃ y, g x = some y
  | [], _, _, x, hx => by simp at hx
  | a :: l, ys, h, x, hx => by
    rw [List.mapM_cons] at h
    cases hg : g a with
    | none => simp [hg] at h
    | some b =>
      cases hm : l.mapM g with
      | none => simp [hg, hm] at h
      | some bs =>
        rcases List.mem_cons.1 hx with rfl | hx
        · exact ⟨b, hg⟩
        · exact mapM_each g l bs hm x hx

theorem trod_array {H : Type} {enc : TypeId × Value → H} {P : Program} {W : World} {b0 : Nat} {spare : Nat → Bool} {held : Bool} {fuel : Nat} {t e : TypeId} {n : Nat} {cs : List Value} {x : DataW H × List MemPlace} (ht : P.underlying t = some (.array n e))
    (h : DataW.trod enc P W b0 spare held fuel t cs = some x) :
    cs.length = P.cellsOf t ∧ ∃ fuel', ∀ i, i < n → ∃ y, DataW.trod enc P W b0 spare held fuel' e ((cs.drop (i * P.cellsOf e)).take (P.cellsOf e)) = some y := by
  cases fuel with
  | zero => simp [DataW.trod] at h
  | succ fuel =>
    simp only [DataW.trod, ht] at h
    split at h
    · rename_i hl
      refine ⟨hl, fuel, fun i hi => ?_⟩
      cases hm : (List.range n).mapM fun i => DataW.trod enc P W b0 spare held fuel e ((cs.drop (i * P.cellsOf e)).take (P.cellsOf e)) with
      | none => simp [hm] at h
      | some ys => exact mapM_each _ _ _ hm i (by simpa using hi)
    · cases h

theorem trod_fields {H : Type} {enc : TypeId × Value → H} {P : Program} {W : World} {b0 : Nat} {spare : Nat → Bool} {held : Bool} {fuel : Nat} {t : TypeId} {fs : Array Field} {cs : List Value} {x : DataW H × List MemPlace} (ht : P.underlying t = some (.struct fs))
    (h : DataW.trod enc P W b0 spare held fuel t cs = some x) :
    cs.length = P.cellsOf t ∧ ∃ fuel', ∀ f ∈ fs.toList, ∃ y, DataW.trod enc P W b0 spare held fuel' f.type ((cs.drop f.offset).take (P.cellsOf f.type)) = some y := by
  cases fuel with
  | zero => simp [DataW.trod] at h
  | succ fuel =>
    simp only [DataW.trod, ht] at h
    split at h
    · rename_i hl
      refine ⟨hl, fuel, fun f hf => ?_⟩
      cases hm : fs.toList.mapM fun f => DataW.trod enc P W b0 spare held fuel f.type ((cs.drop f.offset).take (P.cellsOf f.type)) with
      | none => simp [hm] at h
      | some ys => exact mapM_each _ _ _ hm f hf
    · cases h

theorem weights_in {H : Type} {P : Program} {e : TypeId} {d : DataW H} {q : Nat} : ∀ {l : List (DataW H)}, d ∈ l → q ∈ d.weights P e → q ∈ DataW.weightsAll P e l
  | x :: r, hd, hq => by
    simp only [DataW.weightsAll, List.mem_append]
    rcases List.mem_cons.1 hd with rfl | hd
    · exact .inl hq
    · exact .inr (weights_in hd hq)

/-- A slice among the arguments, whatever its elements are: its cells, and each element opened. -/
theorem open_rows {H : Type} {enc : TypeId × Value → H} {P : Program} {W : World} {held : Bool} {fuel : Nat} {t e : TypeId} {sz by_ : Nat} {cs : List Value} {x : DataW H × List MemPlace} (ht : P.underlying t = some (.slice e)) (hc : P.cellsOf e = sz) (hb : P.bytesOf e = by_) (hsz : 0 < sz)
    (h : DataW.trod enc P W 0 (fun _ => true) held fuel t cs = some x) (hlt : ∀ p ∈ x.2, p.block < W.heap.size) (hw : ∀ q ∈ x.1.weights P t, q ≤ reachBytes) :
    ∃ ao n cap cells S, cs = [.slice ao n cap] ∧ Rd W sz (.slice ao n cap) n cells S ∧ (∀ k, k ∈ S → k < W.heap.size) ∧ n * by_ ≤ 140737488351232 ∧
      ∀ i, i < n → ∃ fuel' y, DataW.trod enc P W 0 (fun _ => true) held fuel' e ((cells.drop (i * sz)).take sz) = some y ∧ (∀ p ∈ y.2, p.block < W.heap.size) ∧ ∀ q ∈ y.1.weights P e, q ≤ reachBytes := by
  rcases open_slice ht h with ⟨rfl, rfl⟩ | ⟨a, len, cap, m, k, D, Pl, rfl, _, hl, hm, hmm, rfl, hel⟩
  · exact ⟨none, 0, 0, [], [], rfl, ⟨by simp, none, 0, rfl, Nat.le_refl _, by unfold maxLen; omega, .inl rfl⟩, by simp, by omega, fun i hi => by omega⟩
  · simp only [if_true] at hmm
    subst hmm
    rw [hc] at hel
    have hwn : len * by_ ≤ 140737488351232 := by
      have := hw _ (by
        simp only [DataW.weights, ht, hb]
        exact List.mem_cons_self)
      simp only [List.length_map, List.length_range] at this
      unfold reachBytes at this
      have h2 : len * by_ ≤ (len + (m - len)) * by_ := Nat.mul_le_mul_right _ (by omega)
      omega
    by_cases h0 : len = 0
    · subst h0
      exact ⟨some a, 0, m, [], [], rfl, ⟨by simp, some a, m, rfl, hl, hm, .inl rfl⟩, by simp, by omega, fun i hi => by omega⟩
    obtain ⟨b, off, spot⟩ := a
    have hspot : spot = none := by
      obtain ⟨cs', h1, _⟩ := hel 0 (by omega)
      obtain ⟨_, hlen, hget⟩ := World.cells?_some h1
      have g0 := hget 0 hsz
      rw [List.getElem?_eq_getElem (by omega)] at g0
      simpa [Addr.add] using World.cell?_spot g0
    subst hspot
    have hbl : b < W.heap.size := hlt (.cell b off) (List.mem_append_left _ (MemPlace.mem_row.2 ⟨0, by rw [hc]; exact Nat.mul_pos (by omega) hsz, by simp⟩))
    have ad : ∀ x y : Nat, ((Addr.add ⟨b, off, none⟩ x).add y) = ⟨b, off + (x + y), none⟩ := fun x y => by
      rw [add_add]
      unfold Addr.add
      by_cases hx : x + y = 0
      · rw [if_pos hx, hx]; rfl
      · rw [if_neg hx]
    have hcell : ∀ i j, i < m → j < sz → ∃ v, W.cell? ⟨b, off + (i * sz + j), none⟩ = some v := fun i j hi hj => by
      obtain ⟨cs', h1, _⟩ := hel i hi
      obtain ⟨_, hlen, hget⟩ := World.cells?_some h1
      have g := hget j hj
      rw [ad, List.getElem?_eq_getElem (by omega)] at g
      exact ⟨_, g⟩
    have hall : ∀ q, q < len * sz → ∃ v, W.cell? ⟨b, off + q, none⟩ = some v := fun q hq => by
      have h1 : q / sz < len := (Nat.div_lt_iff_lt_mul hsz).2 hq
      have h2 := Nat.mod_lt q hsz
      have h3 := Nat.div_add_mod q sz
      obtain ⟨v, hv⟩ := hcell (q / sz) (q % sz) (by omega) h2
      rw [show q / sz * sz + q % sz = q from by rw [Nat.mul_comm]; exact h3] at hv
      exact ⟨v, hv⟩
    obtain ⟨f, hf⟩ : ∃ f : Nat → Value, ∀ q, q < len * sz → W.cell? ⟨b, off + q, none⟩ = some (f q) :=
      ⟨fun q => (W.cell? ⟨b, off + q, none⟩).getD undef, fun q hq => by obtain ⟨v, hv⟩ := hall q hq; simp [hv]⟩
    refine ⟨some ⟨b, off, none⟩, len, m, (List.range (len * sz)).map f, [b], rfl, ⟨by simp, _, m, rfl, hl, hm, .inr ⟨b, off, rfl, rfl, hbl, fun q hq => by rw [hf q hq]; simp [hq]⟩⟩, by simpa using hbl, hwn, fun i hi => ?_⟩
    obtain ⟨cs', h1, h2⟩ := hel i (by omega)
    obtain ⟨_, hlen, hget⟩ := World.cells?_some h1
    have hle : (i + 1) * sz ≤ len * sz := Nat.mul_le_mul_right _ hi
    rw [Nat.succ_mul] at hle
    have e : (((List.range (len * sz)).map f).drop (i * sz)).take sz = cs' := by
      apply List.ext_getElem?
      intro j
      by_cases hj : j < sz
      · have g := hget j hj
        rw [ad] at g
        rw [← g, hf _ (by omega), List.getElem?_take, if_pos hj, List.getElem?_drop, List.getElem?_map, List.getElem?_range (by omega)]
        rfl
      · rw [List.getElem?_take, if_neg hj, List.getElem?_eq_none (by omega)]
    refine ⟨k, (D i, Pl i), by rw [e]; exact h2, fun p hp => hlt p (List.mem_append_right _ (List.mem_flatMap.2 ⟨i, by simpa using (by omega : i < m), hp⟩)), fun q hq => hw q ?_⟩
    simp only [DataW.weights, ht, List.mem_cons, List.mem_append]
    exact .inr (.inl (weights_in (d := D i) (List.mem_map.2 ⟨i, by simpa using hi, rfl⟩) hq))

end Go.Own
