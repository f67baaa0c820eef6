/- Own words, the second text: slices of what is owned or read, make, copy, a text out of bytes. -/
import Derived.Test.YtlfchokafpodcaaOwn
import Derived.Laws.MakeOwn
import Derived.Laws.CopyRow
import Derived.Laws.BytesString
open Go.RowKit
namespace Go.Own

/-- The cells of a row of bytes. -/
def ub (l : List UInt8) : List Value := l.map fun x => .int .u8 (x.toNat : Int)

@[simp] theorem ub_length (l : List UInt8) : (ub l).length = l.length := by simp [ub]
theorem ub_append (l k : List UInt8) : ub (l ++ k) = ub l ++ ub k := by simp [ub]
theorem ub_take (l : List UInt8) (n : Nat) : ub (l.take n) = (ub l).take n := by simp [ub]
theorem ub_drop (l : List UInt8) (n : Nat) : ub (l.drop n) = (ub l).drop n := by simp [ub]
theorem ub_one (l : List UInt8) : ∀ u ∈ ub l, u.oneCell' = true := by
  intro u hu
  obtain ⟨_, _, rfl⟩ := List.mem_map.1 hu
  rfl
theorem ub_get (l : List UInt8) (k : Nat) (h : k < l.length) : (ub l)[k]? = some (.int .u8 ((l[k]'h).toNat : Int)) := by simp [ub, h]

theorem ub_get? {l : List UInt8} {k : Nat} {x : UInt8} (h : l[k]? = some x) : (ub l)[k]? = some (.int .u8 (x.toNat : Int)) := by simp [ub, h]

theorem sliced_form (ao : Option Addr) (l u m s : Nat) : ∃ ao', sliced ao l u m s = .slice ao' (u - l) (m - l) := ⟨_, rfl⟩

theorem Rd.sliced {w : World} {sz : Nat} {ao : Option Addr} {n cap : Nat} {xs : List Value} {S : List Nat} (h : Rd w sz (.slice ao n cap) n xs S) {l u m : Nat} (h1 : l ≤ u) (h2 : u ≤ n) (h3 : u ≤ m) (h4 : m ≤ cap) :
    Rd w sz (sliced ao l u m sz) (u - l) ((xs.drop (l * sz)).take ((u - l) * sz)) S := by
  obtain ⟨h5, h6, h7⟩ := h.bounds
  have e1 : u * sz ≤ n * sz := Nat.mul_le_mul_right _ h2
  have e2 : (u - l) * sz + l * sz = u * sz := by rw [← Nat.add_mul]; congr 1; omega
  refine ⟨by rw [List.length_take, List.length_drop]; omega, _, _, rfl, by omega, by omega, ?_⟩
  by_cases hz : u - l = 0
  · exact .inl hz
  · obtain ⟨b, o, rfl, rfl, hb, hc⟩ := h.addr (by omega)
    refine .inr ⟨b, o + l * sz, ?_, rfl, hb, fun j hj => ?_⟩
    · rw [if_neg (by omega)]; simp [Addr.add_lit]
    · rw [Nat.add_assoc, hc _ (by omega), List.getElem?_take, if_pos hj, List.getElem?_drop]

theorem Own.sliced {w : World} {E : TypeId} {sz : Nat} {ao : Option Addr} {n cap : Nat} {xs : List Value} {B : List Nat} (h : Own w E sz (.slice ao n cap) n xs B) {l u m : Nat} (h1 : l ≤ u) (h2 : u ≤ n) (h3 : u ≤ m) (h4 : m ≤ cap) :
    Own w E sz (sliced ao l u m sz) (u - l) ((xs.drop (l * sz)).take ((u - l) * sz)) B := by
  obtain ⟨a1, ⟨hv, rfl, rfl⟩ | ⟨b, off, cap', cur, hv, rfl, hh, a3, a4, a5, a6⟩⟩ := h
  · simp only [Value.slice.injEq] at hv
    obtain ⟨rfl, _, rfl⟩ := hv
    obtain rfl : l = 0 := by omega
    obtain rfl : u = 0 := by omega
    obtain rfl : m = 0 := by omega
    exact ⟨by simp, .inl ⟨by simp [Go.sliced], by simp, rfl⟩⟩
  · simp only [Value.slice.injEq] at hv
    obtain ⟨rfl, _, rfl⟩ := hv
    have e1 : u * sz ≤ n * sz := Nat.mul_le_mul_right _ h2
    have e2 : (u - l) * sz + l * sz = u * sz := by rw [← Nat.add_mul]; congr 1; omega
    have e3 : (m - l) * sz + l * sz = m * sz := by rw [← Nat.add_mul]; congr 1; omega
    have e4 : m * sz ≤ cap * sz := Nat.mul_le_mul_right _ h4
    refine ⟨by rw [List.length_take, List.length_drop]; omega, .inr ?_⟩
    by_cases hm : m = l
    · refine ⟨b, off, m - l, cur, by simp [Go.sliced, hm], rfl, hh, by omega, by omega, by omega, fun j hj => ?_⟩
      have : u - l = 0 := by omega
      rw [this] at hj; omega
    · refine ⟨b, off + l * sz, m - l, cur, by simp [Go.sliced, hm, Addr.add_lit], rfl, hh, by omega, by omega, by omega, fun j hj => ?_⟩
      rw [Nat.add_assoc, a6 _ (by omega), List.getElem?_take, if_pos hj, List.getElem?_drop]

theorem rd_take {w : World} {ao : Option Addr} {n cap : Nat} {l : List UInt8} {S : List Nat} (h : Rd w 1 (.slice ao n cap) n (ub l) S) (m : Nat) (hm : m ≤ n) : Rd w 1 (.slice ao m cap) m (ub (l.take m)) S := by
  obtain ⟨_, h2, _⟩ := h.bounds
  have := h.sliced (l := 0) (u := m) (m := cap) (by omega) hm (by omega) (Nat.le_refl _)
  simp only [sliced, Nat.zero_mul, List.drop_zero, Nat.mul_one, Nat.sub_zero, ← ub_take] at this
  by_cases h0 : cap = 0
  · simpa [h0] using this
  · simpa [h0, Addr.add] using this

theorem rd_drop {w : World} {ao : Option Addr} {n cap : Nat} {l : List UInt8} {S : List Nat} (h : Rd w 1 (.slice ao n cap) n (ub l) S) (m : Nat) (hm : m ≤ n) :
    Rd w 1 (.slice (if cap = m then ao else Option.map (fun x => x.add m) ao) (n - m) (cap - m)) (n - m) (ub (l.drop m)) S := by
  obtain ⟨h1, h2, _⟩ := h.bounds
  simp at h1
  have := h.sliced (l := m) (u := n) (m := cap) hm (Nat.le_refl _) h2 (Nat.le_refl _)
  rw [Nat.mul_one, Nat.mul_one, ← ub_drop, List.take_of_length_le (by simp; omega)] at this
  simpa [sliced] using this

theorem own_take {w : World} {E : TypeId} {ao : Option Addr} {n cap : Nat} {l : List UInt8} {B : List Nat} (h : Own w E 1 (.slice ao n cap) n (ub l) B) (m : Nat) (hm : m ≤ n) : Own w E 1 (.slice ao m cap) m (ub (l.take m)) B := by
  obtain ⟨_, h2, _⟩ := h.rd.bounds
  have := h.sliced (l := 0) (u := m) (m := cap) (by omega) hm (by omega) (Nat.le_refl _)
  simp only [sliced, Nat.zero_mul, List.drop_zero, Nat.mul_one, Nat.sub_zero, ← ub_take] at this
  by_cases h0 : cap = 0
  · simpa [h0] using this
  · simpa [h0, Addr.add] using this

/-- A store into an owned row. -/
theorem Own.set {w : World} {E : TypeId} {sz n cap b off : Nat} {xs : List Value} {B : List Nat} (h : Own w E sz (.slice (some ⟨b, off, none⟩) n cap) n xs B) (j : Nat) (hj : j < n * sz) (u : Value) :
    Own (w.setCell ⟨b, off + j, none⟩ u) E sz (.slice (some ⟨b, off, none⟩) n cap) n (xs.set j u) B := by
  obtain ⟨a1, ⟨hv, rfl, rfl⟩ | ⟨b', off', cap', cur, hv, rfl, hh, a3, a4, a5, a6⟩⟩ := h
  · simp at hv
  · simp only [Value.slice.injEq, Option.some.injEq, Addr.mk.injEq] at hv
    obtain ⟨⟨rfl, rfl, _⟩, _, rfl⟩ := hv
    refine ⟨by simpa using a1, .inr ⟨b, off, cap, cur.setIfInBounds (off + j) u, rfl, rfl, by simp [World.setCell, Array.getElem?_modify, hh], a3, a4, by simpa using a5, fun i hi => ?_⟩⟩
    have hle : n * sz ≤ cap * sz := Nat.mul_le_mul_right _ a3
    rw [Array.getElem?_setIfInBounds, List.getElem?_set]
    by_cases hij : j = i
    · subst hij; rw [if_pos rfl, if_pos rfl, if_pos (by omega), if_pos (by omega)]
    · rw [if_neg (by omega), if_neg hij]; exact a6 i hi

theorem splice_get (C X ts : List Value) (off p k j : Nat) (hk : ts.length = k) (hC : off + p + k ≤ C.length) (hX : p + k ≤ X.length) (h : ∀ j, j < X.length → C[off + j]? = X[j]?) (hj : j < X.length) :
    (C.take (off + p) ++ ts ++ C.drop (off + p + k))[off + j]? = (X.take p ++ ts ++ X.drop (p + k))[j]? := by
  have m1 : min (off + p) C.length = off + p := by omega
  have m2 : min p X.length = p := by omega
  simp only [List.getElem?_append, List.length_append, List.length_take, List.getElem?_take, List.getElem?_drop, m1, m2, hk]
  by_cases h1 : j < p
  · rw [if_pos (by omega), if_pos (by omega), if_pos (by omega), if_pos (by omega), if_pos (by omega), if_pos (by omega)]
    exact h j hj
  · by_cases h2 : j < p + k
    · rw [if_pos (by omega), if_neg (by omega), if_pos (by omega), if_neg (by omega)]
      congr 1; omega
    · rw [if_neg (by omega), if_neg (by omega)]
      rw [show off + p + k + (off + j - (off + p + k)) = off + j from by omega, show p + k + (j - (p + k)) = j from by omega]
      exact h j hj

section
variable {P : Program}

/-- make([]T, n): a new row of zeros. -/
theorem wp_make_any {w : World} {o : Oper} {a : Act} {K : Act → World → Prop} {Q : Exit → Act → World → Prop} (l c : Operand) (t : TypeId) (hop : o.op = Op.makeSlice t l c)
    (E : TypeId) (i : TypeInfo) (z : Value) (sz by_ : Nat) (ht : P.underlying t = some (.slice E)) (hi : P.info? E = some i) (hz : i.zero = some z) (hsz : i.size = sz) (hby : i.bytes = by_)
    (kl kc : IntKind) (n m : Int) (hl : a.eval l = .int kl n) (hc : a.eval c = .int kc m) (h0 : 0 ≤ n) (hnm : n ≤ m) (hm : m ≤ 9223372036854775807) (hbytes : (by_ : Int) * m ≤ 281474976710656)
    (hK : ∀ w', Own w' E sz (.slice (some ⟨w.heap.size, 0, none⟩) n.toNat m.toNat) n.toNat (((madeCells z.cells (m.toNat * sz)).toList).take (n.toNat * sz)) [w.heap.size] → Fr [] w w' → w'.heap.size = w.heap.size + 1 →
      w'.heap[w.heap.size]? = some (.cells (madeCells z.cells (m.toNat * sz)) E (0, 0)) → 
      K (a.put o.dst (.slice (some ⟨w.heap.size, 0, none⟩) n.toNat m.toNat)) w') : o.wp P a w K Q := by
  subst hsz; subst hby
  have hrun := run_make (P := P) w t E i z ht hi hz kl kc n m h0 hnm hbytes hm
  unfold Oper.wp
  simp [execOp, hop, hl, hc, hrun, Result.andThen]
  rw [← World.alloc_eq]
  refine hK _ (Own.new w E i.size n.toNat m.toNat _ (by omega) (by unfold maxLen; omega) (by rw [size_madeCells])) ((Fr.refl [] w).alloc _) (by simp) ?_
  show (w.heap.push _)[w.heap.size]? = _
  simp

theorem wpList_make_any {w : World} {ops : Array Oper} {rest : List Oper} {o : Oper} {a : Act} {Q : Exit → Act → World → Prop} (hgd : o.guard = none) (l c : Operand) (t : TypeId) (hop : o.op = Op.makeSlice t l c)
    (E : TypeId) (i : TypeInfo) (z : Value) (sz by_ : Nat) (ht : P.underlying t = some (.slice E)) (hi : P.info? E = some i) (hz : i.zero = some z) (hsz : i.size = sz) (hby : i.bytes = by_)
    (kl kc : IntKind) (n m : Int) (hl : a.eval l = .int kl n) (hc : a.eval c = .int kc m) (h0 : 0 ≤ n) (hnm : n ≤ m) (hm : m ≤ 9223372036854775807) (hbytes : (by_ : Int) * m ≤ 281474976710656)
    (hK : ∀ w', Own w' E sz (.slice (some ⟨w.heap.size, 0, none⟩) n.toNat m.toNat) n.toNat (((madeCells z.cells (m.toNat * sz)).toList).take (n.toNat * sz)) [w.heap.size] → Fr [] w w' → w'.heap.size = w.heap.size + 1 →
      w'.heap[w.heap.size]? = some (.cells (madeCells z.cells (m.toNat * sz)) E (0, 0)) → 
      wpList P ops Q rest (a.put o.dst (.slice (some ⟨w.heap.size, 0, none⟩) n.toNat m.toNat)) w') : wpList P ops Q (o :: rest) a w :=
  wpList_plain hgd fun _ hK' => wp_make_any l c t hop E i z sz by_ ht hi hz hsz hby kl kc n m hl hc h0 hnm hm hbytes (fun w' h1 h2 h3 h4 => hK' _ _ (hK w' h1 h2 h3 h4))

/-- copy into an owned row, from its place p on (dn places), cs is what is copied. -/
theorem wp_copy_any {w : World} {o : Oper} {a : Act} {K : Act → World → Prop} {Q : Exit → Act → World → Prop} (d s : Operand) (dT sT : TypeId)
    (hop : o.op = .call { callee := .builtin .copy, args := #[d, s], argTypes := #[dT, sT] }) (E : TypeId) (hu : P.underlying dT = some (.slice E)) (hsz : (P.info? E).map (·.size) = some 1)
    (ao : Option Addr) (n cap : Nat) (xs : List Value) (B : List Nat) (h : Own w E 1 (.slice ao n cap) n xs B) (p : Nat) (dao : Option Addr) (dn dcap : Nat) (hd : a.eval d = .slice dao dn dcap)
    (hda : dn = 0 ∨ dao = ao.map (·.add p)) (hpn : p + dn ≤ n) (sv : Value) (m : Nat) (ys : List Value) (S : List Nat) (hs : a.eval s = sv) (hr : Rd w 1 sv m ys S) (h1 : ∀ u ∈ ys, u.oneCell' = true)
    (hK : ∀ w', Own w' E 1 (.slice ao n cap) n (xs.take p ++ ys.take (Nat.min m dn) ++ xs.drop (p + Nat.min m dn)) B → Fr B w w' → w'.heap.size = w.heap.size → K (a.put o.dst (goInt (Nat.min m dn))) w') : o.wp P a w K Q := by
  obtain ⟨r1, sao, scap, rfl, r2, r3, r4⟩ := hr
  obtain ⟨a1, a2⟩ := h
  have hlx : xs.length = n := by simpa using a1
  have hly : ys.length = m := by simpa using r1
  by_cases h0 : Nat.min m dn = 0
  · have hrun : (Builtin.copy_ #[dT, sT] o.type #[.slice dao dn dcap, .slice sao m scap]).run P w = .ok (goInt 0) w := by
      cases hq : P.info? E with
      | none => simp [hq] at hsz
      | some i =>
        have hl0 : ∀ ad : Addr, (loadCells ad 0).run P w = .ok #[] w := fun ad => run_loadCells_list (P := P) w ad [] (by simp)
        cases sao <;> cases dao <;> simp [Builtin.copy_, run_underlying hu, Builtin.lenOf, Builtin.firstCells, sizeOf, typeInfo, hq, h0, storeCells, hl0]
    unfold Oper.wp
    simp [execOp, hop, resolve, invoke, builtin, hd, hs, hrun, Result.andThen]
    rw [h0] at hK
    have := hK w ?_ (Fr.refl _ _) rfl
    · exact this
    · have e : xs.take p ++ ys.take 0 ++ xs.drop (p + 0) = xs := by simp
      rw [e]; exact ⟨a1, a2⟩
  · have hmn : 0 < Nat.min m dn := by omega
    have hm1 : Nat.min m dn ≤ m := Nat.min_le_left _ _
    have hm2 : Nat.min m dn ≤ dn := Nat.min_le_right _ _
    rcases a2 with ⟨hv, hn, _⟩ | ⟨b, off, cap', cur, hv, rfl, hh, a3, a4, a5, a6⟩
    · omega
    · simp only [Value.slice.injEq] at hv
      obtain ⟨rfl, _, rfl⟩ := hv
      obtain rfl : dao = some ⟨b, off + p, none⟩ := by
        rcases hda with hda | hda
        · omega
        · rw [hda]; simp [Addr.add_lit]
      rcases r4 with r4 | ⟨sb, so, rfl, rfl, hsb, hc⟩
      · omega
      have hcs : ∀ j v, (ys.take (Nat.min m dn))[j]? = some v → w.cell? ((⟨sb, so, none⟩ : Addr).add j) = some v := by
        intro j v hj
        rw [List.getElem?_take] at hj
        split at hj
        · rename_i hlt
          rw [Addr.add_lit, hc j (by omega)]; exact hj
        · simp at hj
      have hcl : (ys.take (Nat.min m dn)).length = Nat.min m dn := by rw [List.length_take]; omega
      have hrun := run_copy_row (P := P) w dT sT o.type E b (off + p) dn dcap ⟨sb, so, none⟩ m scap cur E (ys.take (Nat.min m dn)) hu hsz hh hcl hcs (by omega) (fun u hu => h1 u (List.mem_of_mem_take hu))
      have hcl' : ys.take (Nat.min m dn) = ys.take (Nat.min m dn) := rfl
      generalize hts : ys.take (Nat.min m dn) = ts at *
      clear hcl'
      rw [hcl] at hrun
      have hfin := hK (w.setRow b (cur.toList.take (off + p) ++ ts ++ cur.toList.drop (off + p + Nat.min m dn)).toArray) ?_ ?_ ?_
      · unfold Oper.wp
        simp only [execOp, hop, resolve, invoke, builtin]
        simp [hd, hs, hrun, Result.andThen]
        rw [List.append_assoc] at hfin
        exact hfin
      · refine ⟨by simp only [List.length_append, List.length_take, List.length_drop, hcl]; omega, .inr ⟨b, off, cap, _, rfl, rfl, setRow_heap w b cur _ E (0, 0) hh, a3, a4, ?_, ?_⟩⟩
        · simp only [List.size_toArray, List.length_append, List.length_take, List.length_drop, Array.length_toList, hcl]; omega
        · intro j hj
          simp only [List.getElem?_toArray]
          exact splice_get cur.toList xs ts off p _ j hcl (by rw [Array.length_toList]; omega) (by omega) (fun j hj => by have := a6 j (by omega); simpa using this) (by omega)
      · refine ⟨rfl, rfl, rfl, by simp [World.setRow], fun k _ hk => ?_⟩
        simp only [World.setRow]
        simp at hk
        simp [Array.getElem?_modify, Ne.symm hk]
      · simp [World.setRow]

/-- A text out of a row of bytes. -/
theorem run_text {w : World} {src dst E : TypeId} {ao : Option Addr} {n cap : Nat} {l : List UInt8} {S : List Nat} (hs : P.underlying src = some (.slice E)) (he : P.underlying E = some (.int .u8)) (hd : P.underlying dst = some .string)
    (h : Rd w 1 (.slice ao n cap) n (ub l) S) : (convert src dst (.slice ao n cap)).run P w = .ok (.string ⟨l.toArray⟩) w := by
  have hfold : ∀ (l : List UInt8) (s : ByteArray), (l.map fun x => (x.toNat : Int)).foldl (fun r n => r.push (UInt8.ofNat n.toNat)) s = ⟨s.data ++ l.toArray⟩ := by
    intro l
    induction l with
    | nil => intro s; simp
    | cons x l ih => intro s; simp only [List.map_cons, List.foldl_cons]; rw [ih]; simp [ByteArray.push]
  rw [run_convert_bytes_string w src dst E ao n cap hs he hd]
  obtain ⟨h5, h6, h7⟩ := h.bounds
  simp at h5
  rcases Nat.eq_zero_or_pos n with rfl | hn
  · obtain rfl : l = [] := by simpa using h5
    cases ao with
    | none => simp [Conv.bytesToString, Sem.run_pure]; rfl
    | some ad => 
      rw [run_bytesToString w ad 0 cap [] (by simpa using run_loadCells_list (P := P) w ad [] (by simp))]
      rfl
  · obtain ⟨b, o, rfl, rfl, hb, hc⟩ := h.addr hn
    have hl := run_loadCells_list (P := P) w ⟨b, o, none⟩ (ub l) (fun j v hj => by
      have hj1 : j < l.length := by have := (List.getElem?_eq_some_iff.1 hj).1; simpa using this
      rw [Addr.add_lit, hc j (by omega)]; exact hj)
    rw [ub_length, h5] at hl
    rw [run_bytesToString w ⟨b, o, none⟩ n cap (l.map fun x => (x.toNat : Int)) (by rw [hl]; simp [ub, Function.comp_def])]
    rw [hfold]
    simp
end

#print axioms wp_copy_any
#print axioms run_text
end Go.Own
