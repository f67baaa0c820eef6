/- A law's row out of its walk; arguments opened as rows. -/
import Derived.Test.YtlfchokafpodcaaOwn2
import Derived.ProofKit
import Derived.SizedLaws
import Derived.Deep.Slices
open Go.ChangeShapes Go.WideShapes Go.ChangeAt Go.RowKit Go.Deep
namespace Go.Own

/-- 'For every input: true; the input reads as it did', out of a walk that leaves old memory. -/
theorem law_of_walk {H : Type} {enc : TypeId × Value → H} {C : Checked} {os : Os} {f : FuncId} {fn : Func} {s : ChangeSpec} {conds : List PathCond} {apart fresh : Bool} {tb : TypeId}
    (own : ownKnob C.prog.godebug = none) (started : os.Started) (noInit : C.prog.inits.idxOf? f = none) (hfn : C.prog.funcs[f]? = some fn) (hlo : laidOutB C.prog = true)
    (witness : ∃ (w : World) (tape : Tape) (i : Input), w.os = os ∧ (w.forCall tape i).Shaped C.prog ∧ i.vars = [] ∧ Input.okWide C.prog (w.forCall tape i) .any w.heap.size f i ∧
      s.pre6 enc C.prog fn conds apart (w.forCall tape i).memory i.args ∧ ({} : Assume).holds C.prog (lone (Frame.enter C.prog f i.args .normal) [] (w.forCall tape i)))
    (hres : fn.resultTypes = #[tb]) (hb : C.prog.underlying tb = some .bool) (hvars : s.vars = [])
    (hspec : ∀ ds : List (DataW H), ds.length = fn.params.size → (s.fn H ds).results = [.lit (.bool true)] ∧ (s.fn H ds).args = ds ∧ (s.fn H ds).vars = [])
    (hpar : ∀ t ∈ fn.params.toList, C.prog.readableRec t = true ∧ t < C.prog.types.size)
    (walk : ∀ (W : World) (base : Nat) (args : Array Value) (ds : List (DataW H)) (ps : List MemPlace),
      (∀ (j : Nat) t v, fn.params[j]? = some t → args[j]? = some v → Value.okWide C.prog W .any base t v) →
      DataW.TrodAll enc C.prog W 0 (fun _ => true) true fn.params.toList args.toList ds ps → (∀ x ∈ ps, x.block < W.heap.size) →
      (∀ q ∈ DataW.weightsEach C.prog fn.params.toList ds, q ≤ reachBytes) →
      Calls C.prog f args W fun e W' => e = .returned (.bool true) ∧ Fr [] W W') :
    ReturnsInHanded {} C os f .any (s.pre6 enc C.prog fn conds apart) (s.post enc C.prog fn apart fresh false false) := by
  refine returnsInHanded_of_change_sized own started noInit hfn witness ?_
  intro W base args ds gs before hval hW _ hsz _
  have hW' := hW
  obtain ⟨p, q, hA, hV, rfl, _, _⟩ := hW
  rw [hvars] at hV
  obtain ⟨rfl, rfl⟩ := trodVars_none hV
  have hlt : ∀ x ∈ p, x.block < W.heap.size := fun x hx => hW'.lt x (by simp [hx])
  have hvt : s.plain.varTypes C.prog = [] := by simp [ChangeSpec.plain, DataSpec.varTypes, hvars]
  rw [hvt, List.append_nil, List.append_nil] at hsz
  refine (walk W base args ds p hval hA hlt (fun q hq => by simpa using List.all_eq_true.1 hsz q hq)).mono fun e W' ⟨he, hf⟩ => ?_
  subst he
  have hbelow : Below W.heap.size W W' := ⟨hf.os, hf.tape, hf.output, hf.size, fun k hk => hf.block k hk (by simp)⟩
  have trods : ∀ (ts : List TypeId) (vs : List Value) (ds : List (DataW H)) (p : List MemPlace), (∀ t ∈ ts, C.prog.readableRec t = true ∧ t < C.prog.types.size) → (∀ x ∈ p, x.block < W.heap.size) →
      DataW.TrodAll enc C.prog W 0 (fun _ => true) true ts vs ds p → DataW.TrodAll enc C.prog W' 0 (fun b => decide (b < W.heap.size)) true ts vs ds p ∧ ds.length = ts.length := by
    intro ts
    induction ts with
    | nil =>
      intro vs ds p _ _ h
      obtain ⟨rfl, rfl, rfl⟩ := trodAll_nil h
      exact ⟨rfl, rfl⟩
    | cons t ts ih =>
      intro vs ds p ht hp h
      obtain ⟨v, vs1, d, ds1, a, b, rfl, rfl, rfl, h1, h2⟩ := trodAll_cons h
      obtain ⟨h3, h4⟩ := ih vs1 ds1 b (fun t ht' => ht t (by simp [ht'])) (fun x hx => hp x (by simp [hx])) h2
      exact ⟨⟨a, b, Below.trod hlo (ht t (by simp)).1 (ht t (by simp)).2 h1 hbelow (fun x hx => hp x (by simp [hx])), h3, rfl⟩, by simp [h4]⟩
  obtain ⟨htr, hlen⟩ := trods _ _ _ _ hpar hlt hA
  obtain ⟨s1, s2, s3⟩ := hspec ds (by simpa using hlen)
  refine ⟨_, rfl, ⟨ds, [], p ++ [], [], p, [], hW', ?_, ?_, ?_, ?_, fun h => by cases h⟩⟩
  · rw [List.append_nil, s1, hres]
    exact trodAll_mk1 (shut_bool hb true)
  · rw [List.append_nil, s2]
    exact htr
  · rw [List.append_nil, s3, hvars]
    rfl
  · exact hbelow.frame _

/-- A slice of bytes among the arguments, at whatever depth. -/
theorem trod_bytes {H : Type} {enc : TypeId × Value → H} {P : Program} {W : World} {held : Bool} {fuel : Nat} {t e : TypeId} {cs : List Value} {x : DataW H × List MemPlace} (ht : P.underlying t = some (.slice e)) (he : P.underlying e = some (.int .u8))
    (hc : P.cellsOf e = 1) (hb : P.bytesOf e = 1) (h : DataW.trod enc P W 0 (fun _ => true) held fuel t cs = some x) (hlt : ∀ p ∈ x.2, p.block < W.heap.size) (hw : ∀ q ∈ x.1.weights P t, q ≤ reachBytes) :
    ∃ ao n cap l S, cs = [.slice ao n cap] ∧ Rd W 1 (.slice ao n cap) n (ub l) S ∧ (∀ k, k ∈ S → k < W.heap.size) ∧ n ≤ 140737488351232 := by
  rcases open_ints ht he hc h with ⟨rfl, rfl⟩ | ⟨a, len, cap, zs, rfl, _, hl, hm, hz, rfl, hcell, hwz⟩
  · exact ⟨none, 0, 0, [], [], rfl, ⟨by simp, none, 0, rfl, Nat.le_refl _, by unfold maxLen; omega, .inl rfl⟩, by simp, by omega⟩
  · simp only [if_true] at hz
    have hlz : len ≤ zs.length := by omega
    have hwt : len ≤ 140737488351232 := by
      have := hw ((len + (zs.length - len)) * 1) (by simp [DataW.weights, ht, hb, lits, hlz])
      unfold reachBytes at this
      omega
    by_cases h0 : zs.length = 0
    · exact ⟨some a, len, cap, [], [], rfl, ⟨by simp; omega, some a, cap, rfl, hl, hm, .inl (by omega)⟩, by simp, hwt⟩
    · obtain ⟨b, off, spot⟩ := a
      have hspot : spot = none := by simpa [Addr.add] using World.cell?_spot (hcell 0 (by omega))
      subst hspot
      have hbl : b < W.heap.size := hlt (.cell b off) (MemPlace.mem_row.2 ⟨0, by omega, by simp⟩)
      refine ⟨some ⟨b, off, none⟩, len, cap, (zs.take len).map (fun z => UInt8.ofNat z.toNat), [b], rfl, ⟨by simp [ub, hlz], _, cap, rfl, hl, hm, .inr ⟨b, off, rfl, rfl, hbl, fun j hj => ?_⟩⟩, by simpa using hbl, hwt⟩
      have hj' : j < zs.length := by omega
      have hjl : j < len := by omega
      have hc1 := hcell j hj'
      have hw1 : (Lit.int .u8 (zs[j]'hj')).wf = true := hwz _ (List.getElem_mem _)
      simp only [List.getD, List.getElem?_eq_getElem hj', Option.getD_some] at hc1
      simp only [Lit.wf, IntKind.has, IntKind.min, IntKind.max, IntKind.bits, IntKind.signed, Bool.and_eq_true, decide_eq_true_eq] at hw1
      have e1 : W.cell? ⟨b, off + j, none⟩ = some (.int .u8 (zs[j]'hj')) := by
        rw [← hc1]
        unfold Addr.add
        by_cases hj0 : j = 0 <;> simp [hj0]
      rw [e1, ub, List.map_map]
      simp [List.getElem?_take, hjl, List.getElem?_eq_getElem hj']
      simp at hw1
      omega

end Go.Own
