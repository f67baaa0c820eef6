/- The invariant through the calls; two rows alike; live. -/
import Derived.Test.YtahhbbcgfhmmgaaArL
open Go.RowKit Go.Own
namespace Go.Proofs.Ytahhbbcgfhmmgaa

theorem AI.root {A : AR} {born : Nat → Nat} (hI : AI A born) {s : Nat} (hs : s ≤ 4294967295) (d m : Int) : ∃ born', AI (rootA A s d m).2.2 born' := by
  unfold rootA
  by_cases hf : A.taken = A.cap
  · rw [if_pos hf]; exact ⟨born, hI⟩
  · rw [if_neg hf]
    have hlt : A.taken < A.cap := by have := hI.count; have := hI.len; omega
    obtain ⟨N, h⟩ := hI.take hlt (rootP s d m) rfl ⟨hs, by simp [rootP]⟩ (.inl rfl)
    have e : takeB A (rootP s d m) = (takeA A (rootP s d m)).2 := by unfold takeB; rw [if_pos (by simp [rootP])]
    rw [e] at h
    exact ⟨_, h⟩
theorem AI.child {A : AR} {born : Nat → Nat} (hI : AI A born) (id : Int) {bit s : Nat} (hs : s ≤ 4294967295) (d m : Int) : ∃ born', AI (childA A id bit s d m).2.2 born' := by
  unfold childA
  cases hv : hasA A id with
  | false => rw [if_pos rfl]; exact ⟨born, hI⟩
  | true =>
    rw [if_neg (by simp)]
    by_cases hb : 1 < bit
    · rw [if_pos hb]; exact ⟨born, hI⟩
    · rw [if_neg hb]
      by_cases hf : A.taken = A.cap
      · rw [if_pos hf]; exact ⟨born, hI⟩
      · rw [if_neg hf]
        have hlt : A.taken < A.cap := by have := hI.count; have := hI.len; omega
        obtain ⟨i, p, rfl, hp, ht⟩ := has_yes hv
        obtain ⟨N, h⟩ := hI.take hlt (childP i bit s d m) rfl ⟨hs, by show bit ≤ 255; omega⟩ (.inr ⟨i, p, rfl, hp, ht⟩)
        have e : takeB A (childP i bit s d m) = bumpA (takeA A (childP i bit s d m)).2 i := by unfold takeB; rw [if_neg (by show ¬ (i : Int) < 0; omega)]; rfl
        rw [e] at h
        exact ⟨_, h⟩
/-- A number that is none, or a taken place's. -/
def idOk (A : AR) (id : Int) : Prop := id = -1 ∨ ∃ (i : Nat) (p : PL), id = i ∧ A.all[i]? = some p ∧ p.taken = true
theorem AI.next {A : AR} {born : Nat → Nat} (hI : AI A born) {id : Int} (hid : idOk A id) (hl : loose A id) : AI (lessA (cutA A id.toNat) (plA A id).parent) born ∧ idOk (lessA (cutA A id.toNat) (plA A id).parent) (plA A id).parent ∧ (lessA (cutA A id.toNat) (plA A id).parent).taken + 1 = A.taken := by
  rcases hid with rfl | ⟨i, p, rfl, hp, ht⟩
  · exact absurd hl.1 (by omega)
  · have epl := plA_in hp
    have h3 := hl.2.2
    rw [epl] at h3 ⊢
    have h1 := hI.lt hp ht
    obtain ⟨g1, g2, -, -, g5⟩ := hI.cut hp ht h3
    rw [Int.toNat_natCast]
    refine ⟨g1, ?_, by omega⟩
    rcases hI.up i p hp ht with h | ⟨u, q, hu, -⟩
    · exact .inl h
    · obtain ⟨q0, x1, x2, x3⟩ := g5 u hu.symm
      exact .inr ⟨u, _, hu, x3, x2⟩
theorem AI.go {born : Nat → Nat} : ∀ (f : Nat) {A : AR} {id : Int}, AI A born → idOk A id → AI (goA f A id).1 born ∧ (goA f A id).1.taken + (goA f A id).2 = A.taken
  | 0, A, id, hI, _ => ⟨hI, rfl⟩
  | f + 1, A, id, hI, hid => by
    by_cases hl : loose A id
    · rw [goA_yes hl]
      obtain ⟨h1, h2, h3⟩ := hI.next hid hl
      obtain ⟨h4, h5⟩ := AI.go f h1 h2
      exact ⟨h4, by simp only; omega⟩
    · rw [goA_no hl]; exact ⟨hI, rfl⟩
theorem AI.drop {A : AR} {born : Nat → Nat} (hI : AI A born) (id : Int) : AI (dropA A id).2.2 born := by
  unfold dropA
  by_cases h : hasA A id = false ∨ (plA A id).held = false
  · rw [if_pos h]; exact hI
  · rw [if_neg h]
    have hv : hasA A id = true := by
      cases hq : hasA A id with
      | true => rfl
      | false => exact absurd (.inl hq) h
    obtain ⟨i, p, rfl, hp, ht⟩ := has_yes hv
    have hil : i < A.all.length := (List.getElem?_eq_some_iff.1 hp).1
    refine (AI.go _ (hI.flag hp ht) (.inr ⟨i, { p with held := false }, rfl, ?_, ht⟩)).1
    show (A.all.set i { plA A i with held := false })[i]? = _
    rw [plA_in hp, List.getElem?_set_self hil]

theorem cells_reads (T : TypeId) (b n sz : Nat) (xs : List Value) (hl : xs.length = n * sz) (hm : n ≤ maxLen) : Reads (cellsA b T xs) sz (.slice (some ⟨b, 0, none⟩) n n) n xs := by
  rintro B w ⟨rfl, h⟩
  refine ⟨[b], ⟨hl, some ⟨b, 0, none⟩, n, rfl, Nat.le_refl _, hm, .inr ⟨b, 0, rfl, rfl, h.lt, fun j _ => by rw [Nat.zero_add]; exact h.cell j⟩⟩, fun _ h => h⟩

/-- Is a row another? -/
theorem same_any (x y : List UInt8) (ax ay : Option Addr) (n cx m cy : Nat) (w : World) (hx : ∃ S, Rd w 1 (.slice ax n cx) n (ub x) S) (hy : ∃ S, Rd w 1 (.slice ay m cy) m (ub y) S) :
    Calls Try.prog 23 #[.slice ax n cx, .slice ay m cy] w fun e w' => e = .returned (.bool (x == y)) ∧ w = w' := by
  obtain ⟨S, hx⟩ := hx
  obtain ⟨S2, hy⟩ := hy
  have t1 := run_text Try.underlying58 Try.underlying5 Try.underlying9 hx
  have t2 := run_text Try.underlying58 Try.underlying5 Try.underlying9 hy
  go_enter Try.func23, Try.ntmps23
  go_wp2
  go_ret
  exact ⟨rfl, rfl⟩
theorem same_eq (x : List UInt8) (ax ay : Option Addr) (n cx m cy : Nat) (w : World) (hx : ∃ S, Rd w 1 (.slice ax n cx) n (ub x) S) (hy : ∃ S, Rd w 1 (.slice ay m cy) m (ub x) S) :
    Calls Try.prog 23 #[.slice ax n cx, .slice ay m cy] w fun e w' => e = .returned (.bool true) ∧ w = w' := by
  have := same_any x x ax ay n cx m cy w hx hy
  rwa [beq_self_eq_true] at this

def l0 : AR := AR.new 2
def l1 : AR := (rootA l0 0 0 5).2.2
def l2 : AR := (childA l1 0 1 0 0 7).2.2
def l3 : AR := (dropA l2 0).2.2
def l4 : AR := (dropA l3 1).2.2

set_option maxHeartbeats 1000000 in
set_option maxRecDepth 20000 in
theorem live_ok (w : World) (L : List Asn) (h : Hold w L) : Calls Try.prog 9 #[] w fun e w' => e = .returned (.bool true) ∧ Hold w' L := by
  have li0 : AI l0 (fun _ => 0) := AI.new (by omega) (by omega)
  obtain ⟨b1, li1⟩ := li0.root (s := 0) (by omega) 0 5
  obtain ⟨b2, li2⟩ := li1.child 0 (bit := 1) (s := 0) (by omega) 0 7
  have li3 := li2.drop 0
  have li4 := li3.drop 1
  have P0 := new_good 2 (by omega) (by omega) w L h
  have P1 := fun b w L h => root_ok b l0 _ li0 0 0 5 w L h
  have P2 := fun b w L h => child_ok b l1 _ li1 0 1 0 0 7 w L h
  have hw2 : Way l2.all 1 [1] := by
    have h0 : Way l2.all 0 [] := .root (p := ⟨0, 0, 5, -1, 0, 1, true, true⟩) rfl (by decide)
    exact .step (xs := []) (p := ⟨0, 0, 7, 0, 1, 0, true, true⟩) rfl rfl h0
  have P3 := fun b w L h => path_ok b l2 _ li2 1 (by decide) [1] hw2 w L h
  have P4 := fun b w L h => root_ok b l2 _ li2 0 0 0 w L h
  have P5 := fun b w L h => drop_ok b l2 _ li2 0 w L h
  have P6 := fun b w L h => drop_ok b l3 _ li3 1 w L h
  have P7 := fun b w L h => len_ok b l4 li4.cap1 w L h
  have P8 := fun b w L h => room_ok b l4 li4.cap1 li4.cap2 (by decide) w L h
  have e1 : (rootA l0 0 0 5).1 = 0 ∧ (rootA l0 0 0 5).2.1 = 0 := by decide
  have e2 : (childA l1 0 1 0 0 7).1 = 1 ∧ (childA l1 0 1 0 0 7).2.1 = 0 := by decide
  have e4 : (rootA l2 0 0 0).2.1 = 2 ∧ (rootA l2 0 0 0).1 = 0 := by decide
  have e4' : (rootA l2 0 0 0).2.2 = l2 := by rfl
  have e5 : (dropA l2 0).1 = 0 ∧ (dropA l2 0).2.1 = 0 := by decide
  have e6 : (dropA l3 1).1 = 2 ∧ (dropA l3 1).2.1 = 0 := by decide
  have e7 : l4.taken = 0 ∧ l4.cap = 2 := by decide
  rw [e1.1, e1.2] at P1
  rw [e2.1, e2.2] at P2
  rw [e4.1, e4.2, e4'] at P4
  rw [e5.1, e5.2] at P5
  rw [e6.1, e6.2] at P6
  rw [e7.1] at P7
  rw [e7.1, e7.2] at P8
  clear li0 li1 li2 li3 li4 e1 e2 e4 e4' e5 e6 e7 hw2 h
  go_enter Try.func9, Try.ntmps9
  go_upto_region 4 with (first
    | (go_at_call 7; refine P0.mono ?_; rintro e w1 ⟨b, rfl, h1⟩)
    | (go_at_call 8; refine (num_any _ _).mono ?_; rintro e w2 ⟨rfl, rfl⟩))
  clear P0
  go_upto_region 5 with (go_at_call 10; refine (P1 b _ _ h1).mono ?_; rintro e w2 ⟨rfl, h2⟩)
  clear P1 h1
  go_upto_region 6 with (go_at_call 11; refine (P2 b _ _ h2).mono ?_; rintro e w3 ⟨rfl, h3⟩)
  clear P2 h2
  go_upto_region 7 with (go_at_call 22; refine (P3 b _ _ h3).mono ?_; rintro e w4 ⟨ao, rfl, h4⟩)
  clear P3 h3
  have h4 := h4.mv 1
  (try dsimp only [Go.Own.front, Go.Own.arrA, Go.Own.atA, Go.Own.dropA, List.length_cons, List.length_nil, Nat.zero_add, Nat.reduceAdd] at h4)
  go_upto_region 8 with (go_at_call 10; refine (P4 b _ _ h4).mono ?_; rintro e w5 ⟨rfl, h5⟩)
  clear P4 h4
  go_upto_region 9 with (go_at_call 12; refine (P5 b _ _ h5).mono ?_; rintro e w6 ⟨rfl, h6⟩)
  clear P5 h5
  go_upto_region 10 with (go_at_call 12; refine (P6 b _ _ h6).mono ?_; rintro e w7 ⟨rfl, h7⟩)
  clear P6 h6
  have h8 := h7.box 5 [.int .u8 1]
  obtain ⟨q, hq⟩ : ∃ q, w7.heap.size = q := ⟨_, rfl⟩
  simp only [hq] at h8
  have r1 := h8.reads (cells_reads 5 q 1 1 _ (by rfl) (by unfold maxLen; omega))
  have r2 := (h8.mv 2).rd
  have PS := same_eq [1] ao (some ⟨q, 0, none⟩) 1 1 1 1 _ r2 r1
  have h9 := h8.mv 1
  (try dsimp only [Go.Own.front, Go.Own.arrA, Go.Own.atA, Go.Own.dropA, List.length_cons, List.length_nil, Nat.zero_add, Nat.reduceAdd] at h9)
  clear r1 r2 h7 h8
  go_wp2_with (first
    | (go_at_call 8; refine (num_any _ _).mono ?_; rintro e w8 ⟨rfl, rfl⟩)
    | (go_at_call 23; refine PS.mono ?_; rintro e w8 ⟨rfl, rfl⟩)
    | (go_at_call 13; refine (P7 b _ _ h9).mono ?_; rintro e w9 ⟨rfl, h10⟩)
    | (go_at_call 14; refine (P8 b _ _ h10).mono ?_; rintro e w10 ⟨rfl, h11⟩))
  go_ret
  exact ⟨rfl, h11.drop.drop.drop⟩

end Go.Proofs.Ytahhbbcgfhmmgaa
