/- The argument 'script', opened; the laws that play scripts: their walks. -/
import Derived.Test.YtlfchokafpodcaaChanB
import Derived.Test.YtlfchokafpodcaaLaw
open Go.RowKit Go.Own Go.ChangeShapes Go.WideShapes Go.ChangeAt Go.Deep
namespace Go.Proofs.Ytlfchokafpodcaa

theorem cells5 : Try.prog.cellsOf 5 = 1 := by kernel_rfl
theorem bytes5 : Try.prog.bytesOf 5 = 1 := by kernel_rfl
theorem cells3 : Try.prog.cellsOf 3 = 1 := by kernel_rfl
theorem cells22 : Try.prog.cellsOf 22 = 1 := by kernel_rfl
theorem cells39 : Try.prog.cellsOf 39 = 4 := by kernel_rfl

/-- The cells of one operation. -/
def OpAt (w : World) (top b o : Nat) (K N : Int) (lev : UInt8) (V : Value) : Prop :=
  w.cell? ⟨b, o, none⟩ = some (.int .i64 K) ∧ w.cell? ⟨b, o + 1, none⟩ = some V ∧ w.cell? ⟨b, o + 2, none⟩ = some (.int .i64 N) ∧ w.cell? ⟨b, o + 3, none⟩ = some (.int .u8 lev.toNat) ∧ (-9223372036854775808 ≤ N ∧ N ≤ 9223372036854775807) ∧
    ∃ (W : List UInt8) (ao : Option Addr) (n cap : Nat) (S : List Nat), V = .slice ao n cap ∧ Rd w 1 (.slice ao n cap) n (ub W) S ∧ n ≤ 140737488351232 ∧ ∀ k, k ∈ S → k < top

/-- A list of operations below top. -/
def Script (w : World) (top : Nat) (v : Value) (n : Nat) : Prop :=
  ∃ ao cap, v = .slice ao n cap ∧ n ≤ cap ∧ cap ≤ maxLen ∧ (n = 0 ∨ ∃ b o, ao = some ⟨b, o, none⟩ ∧ b < top ∧ ∀ i, i < n → ∃ K N lev V, OpAt w top b (o + i * 4) K N lev V)

theorem Script.fr {w w' : World} {top n : Nat} {v : Value} {F : List Nat} (h : Script w top v n) (hf : Fr F w w') (ht : top ≤ w.heap.size) (hF : ∀ k, k ∈ F → top ≤ k) : Script w' top v n := by
  obtain ⟨ao, cap, h1, h2, h3, h4⟩ := h
  refine ⟨ao, cap, h1, h2, h3, ?_⟩
  rcases h4 with h4 | ⟨b, o, h5, h6, h7⟩
  · exact .inl h4
  · refine .inr ⟨b, o, h5, h6, fun i hi => ?_⟩
    obtain ⟨K, N, lev, V, g1, g2, g3, g4, gN, W, ao2, n2, cap2, S, g5, g6, g7, g8⟩ := h7 i hi
    have hc : ∀ q, w'.cell? ⟨b, q, none⟩ = w.cell? ⟨b, q, none⟩ := fun q => hf.cell (p := ⟨b, q, none⟩) (by show b < _; omega) (fun hb => by have := hF b hb; omega)
    exact ⟨K, N, lev, V, by rw [hc]; exact g1, by rw [hc]; exact g2, by rw [hc]; exact g3, by rw [hc]; exact g4, gN, W, ao2, n2, cap2, S, g5,
      g6.fr hf (fun k hk hk2 => by have := g8 k hk; have := hF k hk2; omega), g7, g8⟩

theorem weights_all {H : Type} {P : Program} {e : TypeId} {d : DataW H} {q : Nat} : ∀ {l : List (DataW H)}, d ∈ l → q ∈ d.weights P e → q ∈ DataW.weightsAll P e l
  | x :: r, hd, hq => by
    simp only [DataW.weightsAll, List.mem_append]
    rcases List.mem_cons.1 hd with rfl | hd
    · exact .inl hq
    · exact .inr (weights_all hd hq)

/-- An argument of type []Op is such a list. -/
theorem script_of_trod {H : Type} {enc : TypeId × Value → H} {W : World} {v : Value} {d : DataW H} {ps : List MemPlace} (h : DataW.Trod enc Try.prog W 0 (fun _ => true) true 36 v d ps) (hv : ∃ ao n cap, v = .slice ao n cap)
    (hlt : ∀ p ∈ ps, p.block < W.heap.size) (hw : ∀ q ∈ d.weights Try.prog 36, q ≤ reachBytes) : ∃ n, Script W W.heap.size v n := by
  obtain ⟨fuel, hf⟩ := h
  obtain ⟨ao, n, cap, rfl⟩ := hv
  rcases open_slice Try.underlying36 hf with ⟨hcs, hx⟩ | ⟨a, len', cap', m, k, D, Pl, hcs, _, hl, hm, hmm, hx, hel⟩
  · simp [Value.cells] at hcs
    obtain ⟨rfl, rfl, rfl⟩ := hcs
    exact ⟨0, none, 0, rfl, Nat.le_refl _, by unfold maxLen; omega, .inl rfl⟩
  · simp [Value.cells] at hcs
    obtain ⟨rfl, rfl, rfl⟩ := hcs
    simp only [Prod.mk.injEq] at hx
    obtain ⟨rfl, rfl⟩ := hx
    simp only [if_true] at hmm
    subst hmm
    rw [cells39] at hel
    refine ⟨n, some a, m, rfl, hl, hm, ?_⟩
    by_cases h0 : n = 0
    · exact .inl h0
    right
    obtain ⟨b, off, spot⟩ := a
    have key : ∀ i, i < m → ∃ v0 v1 v2 v3, W.cell? (Addr.add ⟨b, off, spot⟩ (i * 4)) = some v0 ∧ W.cell? ((Addr.add ⟨b, off, spot⟩ (i * 4)).add 1) = some v1 ∧ W.cell? ((Addr.add ⟨b, off, spot⟩ (i * 4)).add 2) = some v2 ∧ W.cell? ((Addr.add ⟨b, off, spot⟩ (i * 4)).add 3) = some v3 ∧
        DataW.trod enc Try.prog W 0 (fun _ => true) true k 39 [v0, v1, v2, v3] = some (D i, Pl i) := by
      intro i hi
      obtain ⟨cs', h1, h2⟩ := hel i hi
      obtain ⟨_, hlen, hget⟩ := World.cells?_some h1
      match cs', hlen with
      | [v0, v1, v2, v3], _ =>
        have g0 := hget 0 (by omega)
        have g1 := hget 1 (by omega)
        have g2 := hget 2 (by omega)
        have g3 := hget 3 (by omega)
        refine ⟨v0, v1, v2, v3, ?_, ?_, ?_, ?_, h2⟩
        · simpa [Addr.add] using g0
        · simpa using g1
        · simpa using g2
        · simpa using g3
    have hspot : spot = none := by
      obtain ⟨_, _, _, _, g0, _⟩ := key 0 (by omega)
      simpa [Addr.add] using World.cell?_spot g0
    subst hspot
    have hbl : b < W.heap.size := hlt (.cell b off) (List.mem_append_left _ (MemPlace.mem_row.2 ⟨0, (by rw [cells39]; omega : 0 < m * Try.prog.cellsOf 39), by simp⟩))
    refine ⟨b, off, rfl, hbl, fun i hi => ?_⟩
    obtain ⟨v0, v1, v2, v3, g0, g1, g2, g3, ht⟩ := key i (by omega)
    have ad : ∀ x y : Nat, ((Addr.add ⟨b, off, none⟩ x).add y) = ⟨b, off + x + y, none⟩ := fun x y => by
      rw [add_add]
      unfold Addr.add
      by_cases hx : x + y = 0
      · obtain ⟨rfl, rfl⟩ : x = 0 ∧ y = 0 := by omega
        simp
      · rw [if_neg hx, Nat.add_assoc]
    have ad0 : ∀ x : Nat, (Addr.add ⟨b, off, none⟩ x) = ⟨b, off + x, none⟩ := fun x => by
      unfold Addr.add; by_cases hx : x = 0 <;> simp [hx]
    rw [ad] at g1 g2 g3
    rw [ad0] at g0
    obtain ⟨xs, k', _, hx, _, hlen, hfs⟩ := DataW.trod_struct Try.underlying39 ht
    simp only [Prod.mk.injEq] at hx
    obtain ⟨hD, hP⟩ := hx
    have t0 := hfs 0 _ rfl
    have t1 := hfs 1 _ rfl
    have t2 := hfs 2 _ rfl
    have t3 := hfs 3 _ rfl
    simp [cells3, cells22, cells5] at t0 t1 t2 t3
    match xs, hlen with
    | [x0, x1, x2, x3], _ =>
      obtain ⟨K, e0, _, _⟩ := DataW.trod_int Try.underlying3 t0
      obtain ⟨N, e2, _, wN⟩ := DataW.trod_int Try.underlying3 t2
      obtain ⟨L, e3, _, wL⟩ := DataW.trod_int Try.underlying5 t3
      simp at e0 e2 e3
      subst e0; subst e2; subst e3
      obtain ⟨ao, nw, capw, l, S, ev, hrd, hS, hn⟩ := trod_bytes Try.underlying22 Try.underlying5 cells5 bytes5 t1 (fun p hp => hlt p (List.mem_append_right _ (List.mem_flatMap.2 ⟨i, by simpa using (by omega : i < m), by rw [hP]; simp; exact .inr (.inl hp)⟩))) (fun q hq => hw q (by
        simp only [DataW.weights, Try.underlying36, List.mem_cons, List.mem_append]
        refine .inr (.inl (weights_all (d := D i) (List.mem_map.2 ⟨i, by simpa using hi, rfl⟩) ?_))
        rw [hD]
        simp only [DataW.weights, Try.underlying39, List.map_cons, List.map_nil, DataW.weightsEach, List.mem_append]
        exact .inr (.inl hq)))
      simp at ev
      simp only [Lit.wf, IntKind.has, IntKind.min, IntKind.max, IntKind.bits, IntKind.signed, Bool.and_eq_true, decide_eq_true_eq] at wL wN
      simp at wL wN
      have eL : ((UInt8.ofNat L.toNat).toNat : Int) = L := by simp; omega
      exact ⟨K, N, UInt8.ofNat L.toNat, v1, g0, g1, g2, by rw [eL]; exact g3, by omega, l, ao, nw, capw, S, ev, hrd, hn, hS⟩

end Go.Proofs.Ytlfchokafpodcaa
