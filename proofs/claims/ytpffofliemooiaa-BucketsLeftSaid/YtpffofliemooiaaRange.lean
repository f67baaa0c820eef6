/- A range over a function, told by parts of memory: the law of the statement, and what an iterator promises. -/
import Derived.Test.YtpffofliemooiaaStar
import Derived.Test.YtpffofliemooiaaRegion5
import Derived.RangeFuncRecord
open Go.RowKit
namespace Go.Own

/-- Block l is o, whatever o is. -/
def objA (l : Nat) (o : Obj) : Asn where
  ok B w := B = [l] ∧ w.heap[l]? = some o
  stable := by
    rintro B w w' _ _ _ _ _ f ⟨rfl, h⟩
    exact ⟨rfl, (f l (by simp)).trans h⟩

theorem Hold.obj {w : World} {l : Nat} {o : Obj} {L : List Asn} (h : Hold w (objA l o :: L)) : w.heap[l]? = some o := by
  obtain ⟨B, ⟨_, h⟩, _⟩ := h.first
  exact h
theorem Hold.putO {w : World} {l : Nat} {o : Obj} {L : List Asn} (h : Hold w (objA l o :: L)) (o' : Obj) : Hold (w.putObj l o') (objA l o' :: L) := by
  obtain ⟨B, ⟨rfl, h1⟩, h2, h3⟩ := h.step
  have hlt := h2 l (by simp)
  refine h3 _ _ [l] ⟨rfl, rfl, rfl, by simp, fun k hk hB => World.putObj_heap_other (by simpa using hB)⟩ ⟨rfl, World.putObj_heap_same hlt⟩ (by simp) (fun k hk => ⟨.inl hk, ?_⟩)
  simpa using h2 k hk
theorem Hold.newO {w : World} {L : List Asn} (h : Hold w L) (o : Obj) : Hold (w.alloc o) (objA w.heap.size o :: L) :=
  h.new ((Fr.refl _ _).alloc _) (B := [w.heap.size]) ⟨rfl, World.alloc_heap_new w o⟩ (by simp) (by simp)

/-- A call of yield, of loop l. -/
def YieldW (P : Program) (l : Nat) (args : Array Value) (W : World) (R : Ending → World → Prop) : Prop :=
  ∃ fn tmps assign body, (Instr.yield l args).run P W = .ok (.round l fn tmps assign body) W ∧ ∀ n, RoundIn Fence.wide n P l fn tmps assign body W R

/-- The function gf, which has captured lb, gives just xs, one behind the other, where memory is As and whatever else; between two rounds it reads what Kp says. -/
def Gives {α : Type} (P : Program) (gf : Nat) (lb : Array Value) (encs : α → Array Value) (Kp : World → Prop) (xs : List α) (As : List Asn) : Prop :=
  ∀ (l : Nat) (L : List Asn) (R Rx : List α → List Asn → Prop) (W : World), Hold W (As ++ L) → R [] (As ++ L) → (∀ pre M W1, R pre M ∨ Rx pre M → Hold W1 M → Kp W1) →
    (∀ pre x rest, xs = pre ++ x :: rest → ∀ (W1 : World) (G : Asn) (M : List Asn), R pre M → Hold W1 (G :: M) →
      YieldW P l (encs x) W1 fun e W' => (e = .returned (.bool true) ∧ ∃ M', R (pre ++ [x]) M' ∧ Hold W' (G :: M')) ∨ (e = .returned (.bool false) ∧ ∃ M', Rx (pre ++ [x]) M' ∧ Hold W' (G :: M'))) →
    Calls P gf (#[.func (.yield l) #[] #[]] ++ lb) W fun e W' => (∃ v, e = .returned v) ∧ ∃ M', (R xs M' ∨ ∃ pre, pre <+: xs ∧ Rx pre M') ∧ Hold W' M'

/-- How a round may be left. -/
def roundP {α : Type} (R : List α → List Asn → Prop) (Rx : Code → List α → List Asn → Prop) (G : Asn) (xs : List α) : Exit → Act → World → Prop
  | .normal, _, W' => ∃ M, R xs M ∧ Hold W' (G :: M)
  | .ret, _, W' => ∃ M, Rx .ret xs M ∧ Hold W' (G :: M)
  | .exit id, _, W' => ∃ M, Rx (.exit id) xs M ∧ Hold W' (G :: M)
  | .goto t, _, W' => ∃ M, Rx (.goto t) xs M ∧ Hold W' (G :: M)
  | .panic _, _, _ => False
  | .outgrown, _, _ => False

theorem hold_in3 {w : World} {G X Y : Asn} {M : List Asn} (h : Hold w (G :: X :: Y :: M)) : Hold w (starA G (starA X Y) :: M) := by
  have h2 : Hold w (X :: Y :: G :: M) := h.arr [1, 2, 0]
  exact Hold.star.2 (Hold.star.2 h2).swap
theorem hold_out3 {w : World} {G X Y : Asn} {M : List Asn} (h : Hold w (starA G (starA X Y) :: M)) : Hold w (X :: Y :: G :: M) :=
  Hold.star.1 (Hold.star.1 h).swap

theorem wp_rangeFunc_h {α : Type} {P : Program} {g : Operand} {ps : Array Tmp} {assign body : Code} {Q : Exit → Act → World → Prop} {a : Act} {w : World}
    {gf : Nat} {lb : Array Value} (hg : a.eval g = .func (.func gf) #[] lb) (eg : ∀ args w, (callFunc gf args).run P w = .ok (.enter gf args) w)
    {encs : α → Array Value} {Kp : World → Prop} {xs : List α} {As L : List Asn} (hseq : Gives P gf lb encs Kp xs As) (hps : ∀ x, (encs x).size = ps.size)
    (h : Hold w (As ++ L)) (R : List α → List Asn → Prop) (Rx : Code → List α → List Asn → Prop) (h0 : R [] (As ++ L)) (hKp : ∀ pre M W, (R pre M ∨ ∃ c, Rx c pre M) → Hold W M → Kp W)
    (hround : ∀ l pre x rest W G M, xs = pre ++ x :: rest → R pre M → Hold W (G :: M) →
      assign.wpIn (Fence.wide.inRound l) 9 P (Exit.then (fun a' W' => ∃ M', Hold W' (G :: M') ∧ ∀ W2 G2, Hold W2 (G2 :: M') → body.wpIn (Fence.wide.inRound l) 9 P (roundP R Rx G2 (pre ++ [x])) a' W2) (fun _ _ _ => False)) { tmps := (ps.toList.zip (encs x).toList).foldl (fun t z => t.setIfInBounds z.1 z.2) a.tmps, defers := [] } W)
    (hdone : ∀ D M W, R xs M → Hold W (objA D (.deferred (some [])) :: M) → Q .normal { a with defers := { target := .collected D, args := #[] } :: a.defers } W)
    (hstop : ∀ D c pre M W, pre <+: xs → Rx c pre M → Hold W (objA D (.deferred (some [])) :: M) → c.wp P Q { a with defers := { target := .collected D, args := #[] } :: a.defers } W) :
    (Code.rangeFunc g ps assign body).wp P Q a w := by
  refine (wpIn_wide (n := 9)).1 (wpIn_rangeFunc ?_)
  intro fn hfn
  obtain ⟨rec, hrec⟩ : ∃ rec : LoopState → Option Code → Loop, rec = fun st pe => { state := st, pending := pe, fn, tmps := a.tmps, params := ps, assign, body, defers := w.heap.size } := ⟨_, rfl⟩
  have hD : Hold (w.alloc (.deferred (some []))) (objA w.heap.size (.deferred (some [])) :: (As ++ L)) := h.newO _
  have hL := hD.newO (.loop (rec .ready none))
  rw [World.size_alloc] at hL
  generalize hW1 : (w.alloc (.deferred (some []))).alloc (.loop (rec .ready none)) = W1 at hL
  obtain ⟨l, hl⟩ : ∃ l, l = w.heap.size + 1 := ⟨_, rfl⟩
  obtain ⟨D, hDe⟩ : ∃ D, D = w.heap.size := ⟨_, rfl⟩
  rw [← hl, ← hDe] at hL
  have hent : (Instr.enterLoop fn a.tmps ps assign body Fence.wide.round).run P w = .ok (l, [{ target := .collected D, args := #[] }]) W1 := by
    rw [← hW1, hrec, hl, hDe]; exact run_enterLoop_outer _ _ _ _ _
  clear hW1 hD
  refine ⟨l, [{ target := .collected D, args := #[] }], W1, { target := .fn (.func gf) lb, args := #[.func (.yield l) #[] #[]] }, W1, gf, #[.func (.yield l) #[] #[]] ++ lb, W1, hent, ?_, fun _ _ => trivial, ?_, fun _ => by omega, ?_⟩
  · simp only [resolve, hg]
    simp [go_sem]
  · simp [invoke, go_sem, eg]
  refine callsIn_wide.2 ?_
  have hp0 : List.Perm (objA l (.loop (rec .ready none)) :: objA D (.deferred (some [])) :: (As ++ L)) (As ++ (L ++ [objA l (.loop (rec .ready none)), objA D (.deferred (some []))])) := by
    have := (List.perm_append_comm (l₁ := [objA l (.loop (rec .ready none)), objA D (.deferred (some []))]) (l₂ := As ++ L))
    simpa using this
  refine (hseq l (L ++ [objA l (.loop (rec .ready none)), objA D (.deferred (some []))])
    (fun pre M => ∃ M0, List.Perm M (objA l (.loop (rec .ready none)) :: objA D (.deferred (some [])) :: M0) ∧ R pre M0)
    (fun pre M => ∃ c M0, List.Perm M (objA l (.loop (rec .done (some c))) :: objA D (.deferred (some [])) :: M0) ∧ Rx c pre M0)
    W1 (hL.perm hp0) ⟨_, hp0.symm, h0⟩ (fun pre M W1 hor hM => by
      rcases hor with ⟨M0, hpm, hR⟩ | ⟨c, M0, hpm, hR⟩
      · exact hKp pre M0 W1 (.inl hR) (hM.perm hpm).drop.drop
      · exact hKp pre M0 W1 (.inr ⟨c, hR⟩) (hM.perm hpm).drop.drop) ?_).mono ?_
  · -- one round
    rintro pre x rest hx W G M ⟨M0, hpm, hR⟩ hH
    have hH1 : Hold W (G :: objA l (.loop (rec .ready none)) :: objA D (.deferred (some [])) :: M0) := hH.perm (hpm.cons G)
    have hl1 : W.heap[l]? = some (.loop (rec .ready none)) := (show Hold W (objA l (.loop (rec .ready none)) :: G :: objA D (.deferred (some [])) :: M0) from hH1.swap).obj
    have hy := run_yield (P := P) (args := encs x) hl1 (by rw [hrec]; exact hps x)
    rw [hrec] at hy
    refine ⟨fn, _, assign, body, hy, fun n => ?_⟩
    have key : RoundIn Fence.wide 9 P l fn ((ps.zip (encs x)).foldl (fun t (p, v) => t.setIfInBounds p v) a.tmps) assign body W (fun e W' =>
        (e = .returned (.bool true) ∧ ∃ M', (∃ M0, List.Perm M' (objA l (.loop (rec .ready none)) :: objA D (.deferred (some [])) :: M0) ∧ R (pre ++ [x]) M0) ∧ Hold W' (G :: M')) ∨
        (e = .returned (.bool false) ∧ ∃ M', (∃ c M0, List.Perm M' (objA l (.loop (rec .done (some c))) :: objA D (.deferred (some [])) :: M0) ∧ Rx c (pre ++ [x]) M0) ∧ Hold W' (G :: M'))) := by
      have e0 : (ps.zip (encs x)).foldl (fun t (p, v) => t.setIfInBounds p v) a.tmps = (ps.toList.zip (encs x).toList).foldl (fun t z => t.setIfInBounds z.1 z.2) a.tmps := by
        rw [← Array.foldl_toList, Array.toList_zip]
      refine roundIn_of_wpIn hfn ?_
      rw [e0]
      refine wpIn_mono (hround l pre x rest W _ M0 hx hR (hold_in3 hH1)) ?_
      intro e a1 W2 hq
      cases e with
      | normal =>
        obtain ⟨M2, hH2, hRa⟩ := hq
        have hH3 := hold_out3 hH2
        refine ⟨_, run_beginRound hH3.obj (by rw [hrec]), ?_⟩
        have hH4 : Hold (W2.putObj l (.loop { rec .ready none with state := .busy })) (G :: objA l (.loop { rec .ready none with state := .busy }) :: objA D (.deferred (some [])) :: M2) := by
          have h5 : Hold (W2.putObj l (.loop { rec .ready none with state := .busy })) (objA l (.loop { rec .ready none with state := .busy }) :: objA D (.deferred (some [])) :: G :: M2) := hH3.putO _
          exact h5.arr [2, 0, 1]
        refine wpIn_mono (hRa _ _ (hold_in3 hH4)) ?_
        intro e a3 W3 hq3
        have fin : ∀ (jump : Option Code) (M3 : List Asn), Hold W3 (starA G (starA (objA l (.loop { rec .ready none with state := .busy })) (objA D (.deferred (some [])))) :: M3) →
            (Instr.endRound l jump).run P W3 = .ok (.bool jump.isNone) (W3.putObj l (.loop (rec (if jump.isNone then .ready else .done) jump))) ∧
            Hold (W3.putObj l (.loop (rec (if jump.isNone then .ready else .done) jump))) (G :: objA l (.loop (rec (if jump.isNone then .ready else .done) jump)) :: objA D (.deferred (some [])) :: M3) := fun jump M3 h6 => by
          have h7 := hold_out3 h6
          have h8 := run_endRound (P := P) jump h7.obj
          have h9 := h7.putO (.loop (rec (if jump.isNone then .ready else .done) jump))
          refine ⟨?_, h9.arr [2, 0, 1]⟩
          rw [hrec] at h8 ⊢
          exact h8
        cases e with
        | normal =>
          obtain ⟨M3, h5, h6⟩ := hq3
          obtain ⟨h7, h8⟩ := fin none M3 h6
          exact ⟨_, _, h7, .inl ⟨rfl, _, ⟨_, List.Perm.refl _, h5⟩, h8⟩⟩
        | ret =>
          obtain ⟨M3, h5, h6⟩ := hq3
          obtain ⟨h7, h8⟩ := fin (some .ret) M3 h6
          exact ⟨_, _, h7, .inr ⟨rfl, _, ⟨_, _, List.Perm.refl _, h5⟩, h8⟩⟩
        | exit id =>
          obtain ⟨M3, h5, h6⟩ := hq3
          obtain ⟨h7, h8⟩ := fin (some (.exit id)) M3 h6
          exact ⟨_, _, h7, .inr ⟨rfl, _, ⟨_, _, List.Perm.refl _, h5⟩, h8⟩⟩
        | goto t =>
          obtain ⟨M3, h5, h6⟩ := hq3
          obtain ⟨h7, h8⟩ := fin (some (.goto t)) M3 h6
          exact ⟨_, _, h7, .inr ⟨rfl, _, ⟨_, _, List.Perm.refl _, h5⟩, h8⟩⟩
        | panic ch => exact hq3.elim
        | outgrown => exact hq3.elim
      | exit id => exact hq.elim
      | goto t => exact hq.elim
      | ret => exact hq.elim
      | panic ch => exact hq.elim
      | outgrown => exact hq.elim
    exact ⟨key.1, fun c cs _ => key.2 c cs (room_wide _)⟩
  · -- behind the iterator
    rintro e W2 ⟨⟨v, rfl⟩, M, (⟨M0, hpm, hR⟩ | ⟨pre, hpre, c, M0, hpm, hR⟩), hH⟩
    · have h1 := hH.perm hpm
      have hend := run_endLoop (P := P) h1.obj (by rw [hrec]; simp)
      have hp : (rec .ready none).pending = none := by rw [hrec]
      rw [hp] at hend
      exact ⟨none, _, hend, hdone D M0 _ hR ((h1.putO _).drop)⟩
    · have h1 := hH.perm hpm
      have hend := run_endLoop (P := P) h1.obj (by rw [hrec]; simp)
      have hp : (rec .done (some c)).pending = some c := by rw [hrec]
      rw [hp] at hend
      exact ⟨some c, _, hend, (wpIn_wide).2 (hstop D c pre M0 _ hpre hR ((h1.putO _).drop))⟩

theorem oper_round {P : Program} {o : Oper} {a : Act} {w : World} {K : Act → World → Prop} {Q : Exit → Act → World → Prop} {l n : Nat} (hd : noDef o = true) (h : o.wp P a w K (QN NoQ)) : o.wpIn (Fence.wide.inRound l) n P a w K Q := oper_in (ro := some l) hd h
theorem calls_round {P : Program} {f : FuncId} {args : Array Value} {w : World} {R : Ending → World → Prop} {l n : Nat} (h : Calls P f args w R) : CallsIn (Fence.wide.inRound l) n P f args w R := calls_in (ro := some l) h

/-! ### A function value against nil. -/
section
variable {P : Program} (w : World)
theorem run_equalIn_func_nil (d : Nat) (t : TypeId) {ps rs : Array TypeId} {vd : Bool} (f : Fn) (xs ys : Array Value) (h : P.underlying t = some (.func ps rs vd)) : (Op.equalIn (d + 1) t (.func f xs ys) .nilFunc).run P w = .ok false w := by
  simp [Op.equalIn, run_underlying h]
theorem run_equal_func_nil (t : TypeId) {ps rs : Array TypeId} {vd : Bool} (f : Fn) (xs ys : Array Value) (h : P.underlying t = some (.func ps rs vd)) : (Op.equal t (.func f xs ys) .nilFunc).run P w = .ok false w := run_equalIn_func_nil w 9999 t f xs ys h
theorem run_eql_func_nil (t : TypeId) {ps rs : Array TypeId} {vd : Bool} (f : Fn) (xs ys : Array Value) (h : P.underlying t = some (.func ps rs vd)) : (binOp .eql t (.func f xs ys) .nilFunc).run P w = .ok (.bool false) w := by
  simp only [binOp]
  simp [run_equal_func_nil w t f xs ys h]
end

/-! ### A function that holds a range over a function. -/
theorem calls_of_wp_marks {P : Program} {f : FuncId} {fn : Func} {c : Code} {args : Array Value} {w : World} {R : Ending → World → Prop} (hf : P.funcs[f]? = some fn) (hb : fn.body = some c)
    (h : c.wp P (bodyPostM Fence.wide 9 P fn R) { tmps := args ++ Array.replicate (fn.ntmps - args.size) undef, defers := [] } w) : Calls P f args w R :=
  (callsIn_wide (n := 9)).1 (callsIn_of_wp_marks hf hb trivial (wpIn_wide.2 h))
/-- On the way out: a mark. -/
theorem leaves_mark {P : Program} {n : Nat} {fn : Func} {tmps : Array Value} {R : Ending → World → Prop} {ds : List Deferred} {D : Nat} {W : World} {M : List Asn} (h : Hold W (objA D (.deferred (some [])) :: M))
    (k : ∀ W', Hold W' M → LeavesInM Fence.wide n P fn tmps R ds .returning W') : LeavesInM Fence.wide n P fn tmps R ({ target := .collected D, args := #[] } :: ds) .returning W :=
  ⟨by simp, .inl ⟨D, _, rfl, run_takeDeferred h.obj, k _ (h.putO _).drop⟩⟩
theorem leaves_end {P : Program} {n : Nat} {fn : Func} {tmps : Array Value} {R : Ending → World → Prop} {W : World} {v : Value} (h : (results fn tmps).run P W = .ok v W) (hR : R (.returned v) W) : LeavesInM Fence.wide n P fn tmps R [] .returning W :=
  ⟨v, h, hR⟩

end Go.Own
