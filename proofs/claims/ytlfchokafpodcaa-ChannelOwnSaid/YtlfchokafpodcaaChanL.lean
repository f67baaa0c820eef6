/- Contracts of the law's own functions: knows, looks. -/
import Derived.Test.YtlfchokafpodcaaChanR3
import Derived.Test.YtlfchokafpodcaaKeep
open Go.RowKit Go.Own
namespace Go.Proofs.Ytlfchokafpodcaa

theorem Ch.fr {T : Nat} {w w' : World} {b : Nat} {s : CS} {B F : List Nat} (h : Ch T w b s B) (hf : Fr F w w') (hd : ∀ k, k ∈ b :: B → k ∉ F) : Ch T w' b s B := by
  obtain ⟨⟨ao, cap, hb, ho⟩, r⟩ := h
  exact ⟨⟨ao, cap, hb.fr hf (hd b (by simp)), ho.fr hf (fun k hk => hd k (by simp [hk]))⟩, r⟩

theorem Ch.lt {T : Nat} {w : World} {b : Nat} {s : CS} {B : List Nat} (h : Ch T w b s B) : ∀ k, k ∈ b :: B → k < w.heap.size := by
  obtain ⟨⟨ao, cap, hb, ho⟩, r⟩ := h
  intro k hk
  rcases List.mem_cons.1 hk with rfl | hk
  · exact hb.lt
  · exact ho.lt k hk

theorem num_any (e : Int) (w : World) : Calls Try.prog 10 #[.int .i64 e] w fun r w' => r = .returned (.int .i64 e) ∧ w = w' := by
  go_enter Try.func10, Try.ntmps10
  go_wp2
  go_ret
  exact ⟨rfl, rfl⟩

set_option maxHeartbeats 1000000 in
theorem knows_ok (w : World) : Calls Try.prog 11 #[] w fun e w' => e = .returned (.bool true) ∧ Fr [] w w' := by
  go_enter Try.func11, Try.ntmps11
  go_wp2_with (first
    | (go_at_call 9; refine (new_ok 3 4 _ (by omega) (by omega) (by omega) (by omega)).mono ?_; rintro e w1 ⟨b, rfl, hbs, hch, hf1⟩)
    | (go_at_call 10; refine (num_any _ _).mono ?_; rintro e w' ⟨rfl, rfl⟩))
  have hal : Fr [] w1 (w1.alloc (.cells #[.int .u8 1, .int .u8 0] 5)) := (Fr.refl _ _).alloc _
  have hch1 := hch.fr hal (by simp)
  have hrd : Rd (w1.alloc (.cells #[.int .u8 1, .int .u8 0] 5)) 1 (.slice (some ⟨w1.heap.size, 0, none⟩) 2 2) 2 (ub [1, 0]) [w1.heap.size] := by
    have := (Own.new w1 5 1 2 2 #[.int .u8 1, .int .u8 0] (by omega) (by unfold maxLen; omega) (by simp)).rd
    simpa [ub] using this
  have hlt := hch.lt b (by simp)
  have hput : CS.put ⟨(3 : Int).toNat, (4 : Int).toNat, [], 0⟩ [1, 0] = ⟨3, 4, [3, 0], 0⟩ := by rfl
  refine (put_ok b _ [1, 0] [] _ 2 2 _ _ hch1 hrd (by simp; omega) (by simp)).mono ?_
  rintro e w2 ⟨rfl, B2, hch2, hf2, hB2⟩
  rw [hput] at hch2
  go_wp2_with (first
    | (go_at_call 10; refine (num_any _ _).mono ?_; rintro e w' ⟨rfl, rfl⟩)
    | (go_at_call 16; refine (len_ok b _ B2 _ hch2).mono ?_; rintro e w' ⟨rfl, rfl⟩)
    | (go_at_call 13; refine (look_ok b _ B2 _ hch2).mono ?_; rintro e w3 ⟨rfl, ho3, hf3, hs3⟩; have T1 : Sem.run Try.prog (convert 22 9 (.slice (some ⟨w2.heap.size, 0, none⟩) 2 2)) w3 = .ok (.string ⟨#[3, 0]⟩) w3 := (run_text Try.underlying22 Try.underlying5 Try.underlying9 ho3.rd)))
  go_ret
  exact ⟨rfl, (((hf1.trans hal (by simp)).trans hf2 (by simp; omega)).trans hf3 (by simp))⟩

/-- The program's channel (none: nil, or unmade), with the blocks that are its own. -/
def PCh (w : World) (pv : Value) (so : Option CS) (F : List Nat) : Prop :=
  match so with
  | some s => ∃ b B, pv = .pointer (some ⟨b, 0, none⟩) ∧ Ch 53 w b s B ∧ F = b :: B
  | none => (pv = .pointer none ∧ F = []) ∨ ∃ b, pv = .pointer (some ⟨b, 0, none⟩) ∧ w.cell? ⟨b, 0, none⟩ = some (.int .i64 0) ∧ b < w.heap.size ∧ F = [b]

/-- The reference's channel. -/
def RCh (w : World) (qv : Value) (so : Option CS) (G : List Nat) : Prop :=
  match so with
  | some s => ∃ b B, qv = .pointer (some ⟨b, 0, none⟩) ∧ Ch 60 w b s B ∧ G = b :: B
  | none => qv = .pointer none ∧ G = []

theorem PCh.fr {w w' : World} {pv : Value} {so : Option CS} {F H : List Nat} (h : PCh w pv so F) (hf : Fr H w w') (hd : ∀ k, k ∈ F → k ∉ H) : PCh w' pv so F := by
  cases so with
  | some s =>
    obtain ⟨b, B, h1, h2, rfl⟩ := h
    exact ⟨b, B, h1, h2.fr hf hd, rfl⟩
  | none =>
    rcases h with h | ⟨b, h1, h2, h3, rfl⟩
    · exact .inl h
    · exact .inr ⟨b, h1, by rw [hf.cell (p := ⟨b, 0, none⟩) h3 (hd b (by simp))]; exact h2, Nat.lt_of_lt_of_le h3 hf.size, rfl⟩

theorem PCh.lt {w : World} {pv : Value} {so : Option CS} {F : List Nat} (h : PCh w pv so F) : ∀ k, k ∈ F → k < w.heap.size := by
  cases so with
  | some s =>
    obtain ⟨b, B, h1, h2, rfl⟩ := h
    exact h2.lt
  | none =>
    rcases h with ⟨h, rfl⟩ | ⟨b, h1, h2, h3, rfl⟩
    · simp
    · simpa using h3

theorem PCh.no {w : World} {pv : Value} {F : List Nat} (h : PCh w pv none F) : ChN w pv := by
  rcases h with ⟨h, _⟩ | ⟨b, h1, h2, _⟩
  · exact .inl h
  · exact .inr ⟨b, h1, h2⟩

theorem RCh.fr {w w' : World} {pv : Value} {so : Option CS} {F H : List Nat} (h : RCh w pv so F) (hf : Fr H w w') (hd : ∀ k, k ∈ F → k ∉ H) : RCh w' pv so F := by
  cases so with
  | some s =>
    obtain ⟨b, B, h1, h2, rfl⟩ := h
    exact ⟨b, B, h1, h2.fr hf hd, rfl⟩
  | none => exact h

theorem RCh.lt {w : World} {pv : Value} {so : Option CS} {F : List Nat} (h : RCh w pv so F) : ∀ k, k ∈ F → k < w.heap.size := by
  cases so with
  | some s =>
    obtain ⟨b, B, h1, h2, rfl⟩ := h
    exact h2.lt
  | none =>
    obtain ⟨h, rfl⟩ := h
    simp

def lOf (so : Option CS) : List UInt8 := match so with | some s => s.l | none => []
def pOf (so : Option CS) : Nat := match so with | some s => s.passed | none => 0

/-- A new row that holds l. -/
def NewRow (w : World) (l : List UInt8) (e : Ending) (w' : World) : Prop :=
  ∃ ao cap R, e = .returned (.slice ao l.length cap) ∧ Own w' 5 1 (.slice ao l.length cap) l.length (ub l) R ∧ (∀ k, k ∈ R → w.heap.size ≤ k) ∧ Fr [] w w'

theorem plook (so : Option CS) (pv : Value) (F : List Nat) (w : World) (h : PCh w pv so F) : Calls Try.prog 13 #[pv] w (NewRow w (lOf so)) := by
  cases so with
  | some s =>
    obtain ⟨b, B, rfl, h2, rfl⟩ := h
    exact (look_ok b s B w h2).mono fun e w' ⟨he, ho, hf, hs⟩ => ⟨_, _, _, he, ho, by simp, hf⟩
  | none => exact (look_no pv w h.no).mono fun e w' ⟨he, hw⟩ => by subst hw; exact ⟨none, 0, [], he, Own.nil _ _ _, by simp, Fr.refl _ _⟩

theorem rlook (so : Option CS) (pv : Value) (F : List Nat) (w : World) (h : RCh w pv so F) : Calls Try.prog 28 #[pv] w (NewRow w (lOf so)) := by
  cases so with
  | some s =>
    obtain ⟨b, B, rfl, h2, rfl⟩ := h
    exact (rlook_ok b s B w h2).mono fun e w' ⟨ao, cap, R, he, ho, hR, hf⟩ => ⟨ao, cap, R, he, ho, hR, hf⟩
  | none =>
    obtain ⟨rfl, _⟩ := h
    exact (rlook_no w).mono fun e w' ⟨he, hw⟩ => by subst hw; exact ⟨none, 0, [], he, Own.nil _ _ _, by simp, Fr.refl _ _⟩

theorem plen (so : Option CS) (pv : Value) (F : List Nat) (w : World) (h : PCh w pv so F) : Calls Try.prog 16 #[pv] w fun e w' => e = .returned (.int .i64 (lOf so).length) ∧ w = w' := by
  cases so with
  | some s =>
    obtain ⟨b, B, rfl, h2, rfl⟩ := h
    exact len_ok b s B w h2
  | none => exact len_no pv w h.no

theorem rlen (so : Option CS) (pv : Value) (F : List Nat) (w : World) (h : RCh w pv so F) : Calls Try.prog 29 #[pv] w fun e w' => e = .returned (.int .i64 (lOf so).length) ∧ w = w' := by
  cases so with
  | some s =>
    obtain ⟨b, B, rfl, h2, rfl⟩ := h
    exact rlen_ok b s B w h2
  | none =>
    obtain ⟨rfl, _⟩ := h
    exact rlen_no w

theorem ppassed (so : Option CS) (pv : Value) (F : List Nat) (w : World) (h : PCh w pv so F) : Calls Try.prog 17 #[pv] w fun e w' => e = .returned (.int .u64 (pOf so)) ∧ w = w' := by
  cases so with
  | some s =>
    obtain ⟨b, B, rfl, h2, rfl⟩ := h
    exact passed_ok b s B w h2
  | none => exact passed_no pv w h.no

theorem rpassed (so : Option CS) (pv : Value) (F : List Nat) (w : World) (h : RCh w pv so F) : Calls Try.prog 30 #[pv] w fun e w' => e = .returned (.int .u64 (pOf so)) ∧ w = w' := by
  cases so with
  | some s =>
    obtain ⟨b, B, rfl, h2, rfl⟩ := h
    exact rpassed_ok b s B w h2
  | none =>
    obtain ⟨rfl, _⟩ := h
    exact rpassed_no w

set_option maxHeartbeats 1000000 in
theorem looks_ok (so : Option CS) (pv qv : Value) (F G : List Nat) (w : World) (hp : PCh w pv so F) (hq : RCh w qv so G) :
    Calls Try.prog 22 #[pv, qv] w fun e w' => e = .returned (.bool true) ∧ Fr [] w w' := by
  have hl := plook so pv F w hp
  generalize hll : lOf so = l at hl
  have HL := Lib.hid hll
  clear hll
  go_enter Try.func22, Try.ntmps22
  go_wp2_with (go_at_call 13; refine hl.mono ?_; rintro e w1 ⟨ao1, cap1, R1, rfl, ho1, hR1, hf1⟩)
  have hp1 := hp.fr hf1 (by simp)
  have hq1 := hq.fr hf1 (by simp)
  have T1 : ∀ W, Fr [] w1 W → Sem.run Try.prog (convert 22 9 (.slice ao1 l.length cap1)) W = .ok (.string ⟨l.toArray⟩) W :=
    fun W hW => run_text Try.underlying22 Try.underlying5 Try.underlying9 (ho1.rd.fr hW (by simp))
  have hS0 : Fr [] w1 w1.drew := (Fr.refl _ _).drew
  refine wp_region_X (fun W => Fr [] w1 W) [0, 1, 2, 5, 6, 7, 9, 11, 12, 13, 14, 16, 18, 19] [20] [0, 1, 2, 3, 4, 5, 6, 7, 9, 8, 10, 11, 12, 13, 14, 16, 15, 17, 18, 19, 20] (by kernel_rfl) (by kernel_rfl) ?_
  (repeat (refine wpX_st (v := ?_) _ (by rfl) (by rfl) (by rfl) (fun W hW => ?_) hS0 ?_; rotate_left; (focus ((try dsimp only at hW); go_simp; (try with_reducible rfl); done)); try simp only [Act.put, List.getElem_toArray, List.getElem_cons_zero, List.getElem_cons_succ, List.setIfInBounds_toArray, List.set_cons_zero, List.set_cons_succ]))
  refine wpX_eff _ (by rfl) (by rfl) (by rfl) (fun K hK => ?_)
  go_simp
  refine (rlook so qv G w1.drew (hq1.fr hS0 (by simp))).mono ?_
  rw [HL.out]
  rintro e w2 ⟨ao2, cap2, R2, rfl, ho2, hR2, hf2⟩
  have hf12 : Fr [] w1 w2 := hS0.trans hf2 (by simp)
  have hp2 := hp1.fr hf12 (by simp)
  have hq2 := hq1.fr hf12 (by simp)
  have T2 : Sem.run Try.prog (convert 22 9 (.slice ao2 l.length cap2)) w2 = .ok (.string ⟨l.toArray⟩) w2 := run_text Try.underlying22 Try.underlying5 Try.underlying9 ho2.rd
  dsimp only
  (refine hK _ _ (fun hl => ?_) ?_; (first | (focus (cases hl; done)) | exact hf12); clear hK K; try simp only [Act.put, List.getElem_toArray, List.getElem_cons_zero, List.getElem_cons_succ, List.setIfInBounds_toArray, List.set_cons_zero, List.set_cons_succ])
  (refine wpX_eff _ (by rfl) (by rfl) (by rfl) (fun K hK => ?_); go_simp; refine hK _ _ (fun hl => ?_) ?_; (first | (focus (cases hl; done)) | exact hf12); clear hK K; try simp only [Act.put, List.getElem_toArray, List.getElem_cons_zero, List.getElem_cons_succ, List.setIfInBounds_toArray, List.set_cons_zero, List.set_cons_succ])
  (repeat (refine wpX_st (v := ?_) _ (by rfl) (by rfl) (by rfl) (fun W hW => ?_) hf12 ?_; rotate_left; (focus ((try dsimp only at hW); go_simp; (try with_reducible rfl); done)); try simp only [Act.put, List.getElem_toArray, List.getElem_cons_zero, List.getElem_cons_succ, List.setIfInBounds_toArray, List.set_cons_zero, List.set_cons_succ]))
  refine wpX_eff _ (by rfl) (by rfl) (by rfl) (fun K hK => ?_)
  go_simp
  refine (plen so pv F w2 hp2).mono ?_
  rintro e w' ⟨rfl, rfl⟩
  dsimp only
  (refine hK _ _ (fun hl => ?_) ?_; (first | (focus (cases hl; done)) | exact hf12); clear hK K; try simp only [Act.put, List.getElem_toArray, List.getElem_cons_zero, List.getElem_cons_succ, List.setIfInBounds_toArray, List.set_cons_zero, List.set_cons_succ])
  refine wpX_eff _ (by rfl) (by rfl) (by rfl) (fun K hK => ?_)
  go_simp
  refine (rlen so qv G w2 hq2).mono ?_
  rintro e w' ⟨rfl, rfl⟩
  dsimp only
  (refine hK _ _ (fun hl => ?_) ?_; (first | (focus (cases hl; done)) | exact hf12); clear hK K; try simp only [Act.put, List.getElem_toArray, List.getElem_cons_zero, List.getElem_cons_succ, List.setIfInBounds_toArray, List.set_cons_zero, List.set_cons_succ])
  (repeat (refine wpX_st (v := ?_) _ (by rfl) (by rfl) (by rfl) (fun W hW => ?_) hf12 ?_; rotate_left; (focus ((try dsimp only at hW); go_simp; (try with_reducible rfl); done)); try simp only [Act.put, List.getElem_toArray, List.getElem_cons_zero, List.getElem_cons_succ, List.setIfInBounds_toArray, List.set_cons_zero, List.set_cons_succ]))
  refine wpX_eff _ (by rfl) (by rfl) (by rfl) (fun K hK => ?_)
  go_simp
  refine (ppassed so pv F w2 hp2).mono ?_
  rintro e w' ⟨rfl, rfl⟩
  dsimp only
  (refine hK _ _ (fun hl => ?_) ?_; (first | (focus (cases hl; done)) | exact hf12); clear hK K; try simp only [Act.put, List.getElem_toArray, List.getElem_cons_zero, List.getElem_cons_succ, List.setIfInBounds_toArray, List.set_cons_zero, List.set_cons_succ])
  refine wpX_eff _ (by rfl) (by rfl) (by rfl) (fun K hK => ?_)
  go_simp
  refine (rpassed so qv G w2 hq2).mono ?_
  rintro e w' ⟨rfl, rfl⟩
  dsimp only
  (refine hK _ _ (fun hl => ?_) ?_; (first | (focus (cases hl; done)) | exact hf12); clear hK K; try simp only [Act.put, List.getElem_toArray, List.getElem_cons_zero, List.getElem_cons_succ, List.setIfInBounds_toArray, List.set_cons_zero, List.set_cons_succ])
  (repeat (refine wpX_st (v := ?_) _ (by rfl) (by rfl) (by rfl) (fun W hW => ?_) hf12 ?_; rotate_left; (focus ((try dsimp only at hW); go_simp; (try with_reducible rfl); done)); try simp only [Act.put, List.getElem_toArray, List.getElem_cons_zero, List.getElem_cons_succ, List.setIfInBounds_toArray, List.set_cons_zero, List.set_cons_succ]))
  (refine wpX_eff _ (by rfl) (by rfl) (by rfl) (fun K hK => ?_); go_simp; refine hK _ _ (fun hl => ?_) ?_; (first | (focus (cases hl; done)) | exact hf12); clear hK K; try simp only [Act.put, List.getElem_toArray, List.getElem_cons_zero, List.getElem_cons_succ, List.setIfInBounds_toArray, List.set_cons_zero, List.set_cons_succ])
  (simp only [wpX])
  have ho12 := ho1.fr hf12 (by simp)
  have hf02 : Fr [] w w2 := hf1.trans hf12 (by simp)
  obtain ⟨_, hcc, hcm⟩ := ho1.rd.bounds
  unfold maxLen at hcm
  clear hS0 T1 T2 hp hq hp1 hq1 hp2 hq2 ho2 hl ho1
  go_wp2_with fail
  go_loopw [7] (fun i wr => ∃ (k : Nat) (xs : List Value), k ≤ l.length ∧ i = .int .i64 k ∧ Own wr 5 1 (.slice ao1 l.length cap1) l.length xs R1 ∧ Fr [] w wr) (fun i _ => l.length - (intOf i).toNat)
  case atStart => exact ⟨0, _, by omega, rfl, ho12, hf02⟩
  case round =>
    obtain ⟨k, xs, hk, rfl, ho3, hf3⟩ := hrel
    by_cases hlt : k < l.length
    · obtain ⟨rb, ro, rfl, rfl, hrb, hcs⟩ := ho3.rd.addr (by omega)
      obtain ⟨a1, a2, _, _, _, a6⟩ := ho3.at
      have f1 := a2 (ro + k)
      obtain ⟨z, hz⟩ : ∃ z, wr.cell? ⟨rb, ro + k, none⟩ = some z := Option.isSome_iff_exists.1 (a6 k (by omega))
      have hki : (k : Int) < l.length := by omega
      have hrw := hR1 rb (by simp)
      clear hcs a1 a2 a6
      go_wp2_with fail
      go_roundw
      case rel => exact ⟨k + 1, _, by omega, by go_num, ho3.set k (by omega) _, hf3.setCell (.inr hrw) _⟩
      case measure => simp [intOf]; omega
    · go_wp2_with fail
      go_ret
      exact ⟨rfl, hf3⟩

end Go.Proofs.Ytlfchokafpodcaa
