/- What is held, what is needed: plain laws of an arena; arguments. -/
import Derived.Test.YtahhbbcgfhmmgaaArN
import Derived.Test.YtahhbbcgfhmmgaaArgs2
open Go.ChangeShapes Go.WideShapes Go.ChangeAt Go.RowKit Go.Own
namespace Go.Proofs.Ytahhbbcgfhmmgaa

theorem sub_len : ∀ (a b : List Nat), a.Nodup → (∀ x ∈ a, x ∈ b) → a.length ≤ b.length
  | [], b, _, _ => by simp
  | x :: a, b, hn, h => by
    have hn2 := List.nodup_cons.1 hn
    have hx := h x (by simp)
    have h1 := sub_len a (b.erase x) hn2.2 (fun y hy => by
      have hne : y ≠ x := fun e => hn2.1 (e ▸ hy)
      exact (List.mem_erase_of_ne hne).2 (h y (by simp [hy])))
    rw [List.length_erase_of_mem hx] at h1
    have := List.length_pos_of_mem hx
    simp; omega

/-- There is a place i, taken and held. -/
def heldA (A : AR) (i : Nat) : Prop := ∃ p, A.all[i]? = some p ∧ p.taken = true ∧ p.held = true
/-- Whoever is taken is held or has kids, but for the place id. -/
def tightBut (A : AR) (id : Int) : Prop := ∀ (i : Nat) (p : PL), A.all[i]? = some p → p.taken = true → p.held = true ∨ 0 < p.kids ∨ (i : Int) = id
def tight (A : AR) : Prop := ∀ (i : Nat) (p : PL), A.all[i]? = some p → p.taken = true → p.held = true ∨ 0 < p.kids

theorem next_held {A : AR} {born : Nat → Nat} (hI : AI A born) {id : Int} (hid : idOk A id) (hl : loose A id) (j : Nat) : heldA (lessA (cutA A id.toNat) (plA A id).parent) j ↔ heldA A j := by
  rcases hid with rfl | ⟨i, p, rfl, hp, ht⟩
  · exact absurd hl.1 (by omega)
  · have epl := plA_in hp
    have h2 := hl.2.1
    have h3 := hl.2.2
    rw [epl] at h2 h3 ⊢
    obtain ⟨g1, g2, c1, c2, c3⟩ := hI.cut hp ht h3
    rw [Int.toNat_natCast]
    by_cases hj : j = i
    · subst hj
      constructor
      · rintro ⟨q, x1, x2, -⟩
        rw [c2] at x1; simp at x1; subst x1; simp [PL.zero] at x2
      · rintro ⟨q, x1, -, x3⟩
        rw [hp] at x1; simp at x1; subst x1; rw [h2] at x3; exact absurd x3 (by simp)
    · by_cases hu : (j : Int) = p.parent
      · obtain ⟨q, x1, x2, x3⟩ := c3 j hu
        constructor
        · rintro ⟨r, y1, y2, y3⟩
          rw [x3] at y1; simp at y1; subst y1
          exact ⟨q, x1, x2, y3⟩
        · rintro ⟨r, y1, y2, y3⟩
          rw [x1] at y1; simp at y1; subst y1
          exact ⟨_, x3, x2, y3⟩
      · unfold heldA
        rw [c1 j hj hu]
theorem go_held {born : Nat → Nat} : ∀ (f : Nat) {A : AR} {id : Int}, AI A born → idOk A id → ∀ j, heldA (goA f A id).1 j ↔ heldA A j
  | 0, A, id, _, _, j => Iff.rfl
  | f + 1, A, id, hI, hid, j => by
    by_cases hl : loose A id
    · rw [goA_yes hl]
      obtain ⟨h1, h2, h3⟩ := hI.next hid hl
      exact (go_held f h1 h2 j).trans (next_held hI hid hl j)
    · rw [goA_no hl]
theorem go_tight {born : Nat → Nat} : ∀ (f : Nat) {A : AR} {id : Int}, AI A born → idOk A id → A.taken ≤ f → tightBut A id → tight (goA f A id).1
  | 0, A, id, hI, _, hf, _ => by
    intro i p hp ht
    have := hI.lt hp ht
    omega
  | f + 1, A, id, hI, hid, hf, hT => by
    by_cases hl : loose A id
    · rw [goA_yes hl]
      obtain ⟨h1, h2, h3⟩ := hI.next hid hl
      refine go_tight f h1 h2 (by omega) ?_
      rcases hid with rfl | ⟨i, p, rfl, hp, ht⟩
      · exact absurd hl.1 (by omega)
      · have epl := plA_in hp
        have g3 := hl.2.2
        rw [epl] at g3 ⊢
        obtain ⟨-, -, c1, c2, c3⟩ := hI.cut hp ht g3
        rw [Int.toNat_natCast]
        intro j r hr hrt
        by_cases hu : (j : Int) = p.parent
        · exact .inr (.inr hu)
        · by_cases hj : j = i
          · subst hj
            rw [c2] at hr; simp at hr; subst hr; simp [PL.zero] at hrt
          · rw [c1 j hj hu] at hr
            rcases hT j r hr hrt with h | h | h
            · exact .inl h
            · exact .inr (.inl h)
            · omega
    · rw [goA_no hl]
      intro i p hp ht
      rcases hT i p hp ht with h | h | rfl
      · exact .inl h
      · exact .inr h
      · have epl := plA_in hp
        unfold loose at hl
        rw [epl] at hl
        cases hh : p.held with
        | true => exact .inl rfl
        | false =>
          refine .inr (Nat.pos_of_ne_zero fun h0 => hl ⟨by omega, hh, h0⟩)

/-- Nobody is held, each is needed: nobody is there. -/
theorem all_gone {A : AR} {born : Nat → Nat} (hI : AI A born) (hT : tight A) (hH : ∀ i, ¬ heldA A i) : A.taken = 0 := by
  have none_ : ∀ (i : Nat) (p : PL), A.all[i]? = some p → p.taken = true → False := by
    intro i p hp ht
    have key : ∀ n, ∃ (h : Nat) (q : PL) (l : List Nat), A.all[h]? = some q ∧ q.taken = true ∧ l.length = n ∧ (h :: l).Nodup ∧ (∀ x ∈ h :: l, x < A.all.length) ∧ ∀ x ∈ h :: l, born x ≤ born h := by
      intro n
      induction n with
      | zero => exact ⟨i, p, [], hp, ht, rfl, by simp, fun x hx => by simp at hx; subst hx; exact (List.getElem?_eq_some_iff.1 hp).1, fun x hx => by simp at hx; subst hx; exact Nat.le_refl _⟩
      | succ n ih =>
        obtain ⟨h, q, l, h1, h2, h3, h4, h5, h6⟩ := ih
        have hk : 0 < q.kids := by
          rcases hT h q h1 h2 with h | h'
          · exact absurd ⟨q, h1, h2, h⟩ (hH _)
          · exact h'
        rw [hI.kids h q h1 h2] at hk
        obtain ⟨j, r, g1, g2, g3⟩ := kidsOf_pos hk
        have hb : born h < born j := by
          rcases hI.up j r g1 g2 with e | ⟨u, q', e1, -, -, e4⟩
          · omega
          · have : u = h := by omega
            subst this; exact e4
        refine ⟨j, r, h :: l, g1, g2, by simp [h3], List.nodup_cons.2 ⟨fun hm => by have := h6 j hm; omega, h4⟩, fun x hx => ?_, fun x hx => ?_⟩
        · rcases List.mem_cons.1 hx with rfl | hx
          · exact (List.getElem?_eq_some_iff.1 g1).1
          · exact h5 x hx
        · rcases List.mem_cons.1 hx with rfl | hx
          · exact Nat.le_refl _
          · have := h6 x hx; omega
    obtain ⟨h, q, l, -, -, h3, h4, h5, -⟩ := key A.all.length
    have := pigeon A.all.length (h :: l) h4 h5
    simp at this; omega
  have hs := sub_len (List.range A.all.length) A.free List.nodup_range (fun x hx => by
    have hxl : x < A.all.length := by simpa using hx
    refine (hI.free x).2 ⟨A.all[x], List.getElem?_eq_getElem hxl, ?_⟩
    cases h : A.all[x].taken with
    | false => rfl
    | true => exact absurd h (fun h => none_ x _ (List.getElem?_eq_getElem hxl) h))
  have := hI.count
  simp at hs
  omega

/-- The same of the other calls: what is held behind them. -/
theorem drop_yes {A : AR} {born : Nat → Nat} (hI : AI A born) {i : Nat} (h : heldA A i) : (dropA A i).2.1 = 0 ∧ (dropA A i).2.2.taken + (dropA A i).1 = A.taken ∧ (∀ j, heldA (dropA A i).2.2 j ↔ heldA A j ∧ j ≠ i) ∧ (tight A → tight (dropA A i).2.2) ∧ (dropA A i).2.2.cap = A.cap := by
  obtain ⟨p, hp, ht, hh⟩ := h
  have hil : i < A.all.length := (List.getElem?_eq_some_iff.1 hp).1
  have epl := plA_in hp
  have hv : hasA A (i : Int) = true := by rw [has_in hp]; exact ht
  have e : dropA A (i : Int) = ((goA A.taken (unA A i) i).2, 0, (goA A.taken (unA A i) i).1) := by unfold dropA; rw [if_neg (by rw [hv, epl, hh]; simp)]
  have hpu : (unA A i).all = A.all.set i { p with held := false } := by show A.all.set i { plA A i with held := false } = _; rw [epl]
  have hset : ∀ j, (unA A i).all[j]? = if j = i then some { p with held := false } else A.all[j]? := fun j => by
    rw [hpu]
    by_cases h : j = i
    · subst h; rw [if_pos rfl, List.getElem?_set_self hil]
    · rw [if_neg h, List.getElem?_set_ne (Ne.symm h)]
  have hIu := hI.flag hp ht
  have hid : idOk (unA A i) i := .inr ⟨i, { p with held := false }, rfl, by rw [hset i, if_pos rfl], ht⟩
  have hgo := AI.go A.taken hIu hid
  have hcap : ∀ (f : Nat) (B : AR) (id : Int), (goA f B id).1.cap = B.cap := by
    intro f
    induction f with
    | zero => intro B id; rfl
    | succ f ih =>
      intro B id
      by_cases hl : loose B id
      · rw [goA_yes hl]
        simp only
        rw [ih]
        unfold lessA; split <;> rfl
      · rw [goA_no hl]
  rw [e]
  refine ⟨rfl, hgo.2, fun j => ?_, fun hT => ?_, hcap _ _ _⟩
  · rw [go_held A.taken hIu hid j]
    unfold heldA
    rw [hset j]
    by_cases hj : j = i
    · rw [if_pos hj]; simp [hj]
    · rw [if_neg hj]; simp [hj]
  · refine go_tight A.taken hIu hid (Nat.le_refl _) ?_
    intro j r hr hrt
    rw [hset j] at hr
    by_cases hj : j = i
    · exact .inr (.inr (by rw [hj]))
    · rw [if_neg hj] at hr
      rcases hT j r hr hrt with h | h
      · exact .inl h
      · exact .inr (.inl h)

/-- One call's cells. -/
def OpRow (vs : List Value) : Prop := ∃ (k : Int) (told : Bool) (on : Int) (bit s : Nat) (d m : Int), vs = [.int .i64 k, .bool told, .int .i64 on, .int .u8 bit, .int .u32 s, .int .i64 d, .int .i64 m] ∧ bit ≤ 255 ∧ s ≤ 4294967295 ∧ In64 on

theorem c3 : Try.prog.cellsOf 3 = 1 := by kernel_rfl
theorem b3 : Try.prog.bytesOf 3 = 8 := by kernel_rfl
theorem c4 : Try.prog.cellsOf 4 = 1 := by kernel_rfl
theorem c5 : Try.prog.cellsOf 5 = 1 := by kernel_rfl
theorem c30 : Try.prog.cellsOf 30 = 1 := by kernel_rfl
theorem c32 : Try.prog.cellsOf 32 = 3 := by kernel_rfl
theorem c34 : Try.prog.cellsOf 34 = 7 := by kernel_rfl
theorem b34 : Try.prog.bytesOf 34 = 56 := by kernel_rfl
theorem u32_wf {n : Int} (h : (Lit.int .u32 n).wf = true) : ∃ F : Nat, n = F ∧ F ≤ 4294967295 := by
  simp only [Lit.wf, IntKind.has, IntKind.min, IntKind.max, IntKind.bits, IntKind.signed, Bool.and_eq_true, decide_eq_true_eq] at h
  simp at h
  exact ⟨n.toNat, by omega, by omega⟩
theorem u8_wf {n : Int} (h : (Lit.int .u8 n).wf = true) : ∃ F : Nat, n = F ∧ F ≤ 255 := by
  simp only [Lit.wf, IntKind.has, IntKind.min, IntKind.max, IntKind.bits, IntKind.signed, Bool.and_eq_true, decide_eq_true_eq] at h
  simp at h
  exact ⟨n.toNat, by omega, by omega⟩

theorem seven_cells {vs : List Value} {v0 v1 v2 v3 v4 v5 v6 : Value} (h : vs.length = 7) (g0 : vs[0]? = some v0) (g1 : vs[1]? = some v1) (g2 : vs[2]? = some v2) (g3 : vs[3]? = some v3) (g4 : vs[4]? = some v4) (g5 : vs[5]? = some v5) (g6 : vs[6]? = some v6) : vs = [v0, v1, v2, v3, v4, v5, v6] := by
  match vs, h, g0, g1, g2, g3, g4, g5, g6 with
  | [_, _, _, _, _, _, _], _, g0, g1, g2, g3, g4, g5, g6 => simp at g0 g1 g2 g3 g4 g5 g6; simp [g0, g1, g2, g3, g4, g5, g6]

section
variable {H : Type} {enc0 : TypeId × Value → H} {W : World} {r : Reach} {b1 : Nat} {v : Value} {d : DataW H} {ps : List MemPlace}
theorem cell_off {vs : List Value} {o n k : Nat} {v : Value} (h : (((vs.drop o).take n).drop k).take 1 = [v]) (hk : k < n) : vs[o + k]? = some v := by
  have := cell_at h
  rw [List.getElem?_take, if_pos hk, List.getElem?_drop] at this
  exact this
theorem opRow {fuel : Nat} {vs : List Value} {x : DataW H × List MemPlace} (h : DataW.trod enc0 Try.prog W 0 (fun _ => true) true fuel 34 vs = some x) : OpRow vs := by
  obtain ⟨h1, f2, h2⟩ := trod_fields2 Try.underlying34 h
  rw [c34] at h1
  obtain ⟨y0, a0, -, -⟩ := h2 _ (List.mem_of_getElem? (i := 0) rfl)
  obtain ⟨y1, a1, -, -⟩ := h2 _ (List.mem_of_getElem? (i := 1) rfl)
  obtain ⟨y2, a2, -, -⟩ := h2 _ (List.mem_of_getElem? (i := 2) rfl)
  obtain ⟨y3, a3, -, -⟩ := h2 _ (List.mem_of_getElem? (i := 3) rfl)
  obtain ⟨y4, a4, -, -⟩ := h2 _ (List.mem_of_getElem? (i := 4) rfl)
  simp only [c3, c4, c5, c32] at a0 a1 a2 a3 a4
  obtain ⟨k, e0, -, -⟩ := DataW.trod_int Try.underlying3 a0
  obtain ⟨told, e1, -⟩ := DataW.trod_bool Try.underlying4 a1
  obtain ⟨on, e2, -, w2⟩ := DataW.trod_int Try.underlying3 a2
  obtain ⟨bit, e3, -, w3⟩ := DataW.trod_int Try.underlying5 a3
  obtain ⟨g1, f3, g2⟩ := trod_fields2 Try.underlying32 a4
  obtain ⟨z0, k0, -, -⟩ := g2 _ (List.mem_of_getElem? (i := 0) rfl)
  obtain ⟨z1, k1, -, -⟩ := g2 _ (List.mem_of_getElem? (i := 1) rfl)
  obtain ⟨z2, k2, -, -⟩ := g2 _ (List.mem_of_getElem? (i := 2) rfl)
  simp only [c3, c30] at k0 k1 k2
  obtain ⟨s, m0, -, w4⟩ := DataW.trod_int Try.underlying30 k0
  obtain ⟨d, m1, -, -⟩ := DataW.trod_int Try.underlying3 k1
  obtain ⟨m, m2, -, -⟩ := DataW.trod_int Try.underlying3 k2
  obtain ⟨bit, rfl, hb⟩ := u8_wf w3
  obtain ⟨s, rfl, hs⟩ := u32_wf w4
  exact ⟨k, told, on, bit, s, d, m, seven_cells h1 (cell_at e0) (cell_at e1) (cell_at e2) (cell_at e3) (cell_off m0 (by omega)) (cell_off m1 (by omega)) (cell_off m2 (by omega)), hb, hs, in64_wf w2⟩
theorem open_ops (hval : Value.okWide Try.prog W r b1 22 v) (hd : DataW.Trod enc0 Try.prog W 0 (fun _ => true) true 22 v d ps) (hlt : ∀ p ∈ ps, p.block < W.heap.size) (hw : ∀ q ∈ d.weights Try.prog 22, q ≤ reachBytes) :
    ∃ ao n cap, v = .slice ao n cap ∧ RowsOf (oldA W) 7 OpRow ao n cap ∧ n * 56 ≤ 140737488351232 :=
  open_structs Try.underlying22 c34 b34 (by omega) (fun fuel cs x h1 h2 h3 => opRow h1) hval hd hlt hw
theorem open_order (hval : Value.okWide Try.prog W r b1 23 v) (hd : DataW.Trod enc0 Try.prog W 0 (fun _ => true) true 23 v d ps) (hlt : ∀ p ∈ ps, p.block < W.heap.size) (hw : ∀ q ∈ d.weights Try.prog 23, q ≤ reachBytes) :
    ∃ ao n cap zs, v = .slice ao n cap ∧ Reads (oldA W) 1 (.slice ao n cap) n (Go.Own.i64s zs) ∧ (∀ z ∈ zs, In64 z) := by
  obtain ⟨ao, n, cap, zs, e, h1, h2, h3, h4⟩ := open_irow Try.underlying23 c3 b3 Try.underlying3 hval hd hlt hw
  exact ⟨ao, n, cap, zs, e, h1, h3⟩
end

end Go.Proofs.Ytahhbbcgfhmmgaa
