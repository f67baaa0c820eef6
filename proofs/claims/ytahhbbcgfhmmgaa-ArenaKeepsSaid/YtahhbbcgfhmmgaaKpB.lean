/- The book in memory; find. -/
import Derived.Test.YtahhbbcgfhmmgaaKpA
import Derived.Test.YtahhbbcgfhmmgaaArM
open Go.RowKit Go.Own
namespace Go.Proofs.Ytahhbbcgfhmmgaa

def bflat (l : List BE) : List Value := l.flatMap BE.cells
theorem cells7 (e : BE) : e.cells.length = 7 := rfl
theorem be_one (e : BE) : ∀ u ∈ e.cells, u.oneCell' = true := by simp [BE.cells, Value.oneCell']
theorem bflat_length : ∀ l : List BE, (bflat l).length = l.length * 7
  | [] => rfl
  | p :: l => by
    have := bflat_length l
    simp only [bflat, List.flatMap_cons, List.length_append, List.length_cons, cells7] at this ⊢
    omega
theorem bflat_append (l m : List BE) : bflat (l ++ m) = bflat l ++ bflat m := by simp [bflat]
theorem bflat_one (l : List BE) : ∀ u ∈ bflat l, u.oneCell' = true := by
  intro u hu
  simp only [bflat, List.mem_flatMap] at hu
  obtain ⟨p, -, h⟩ := hu
  exact be_one p u h
theorem bflat_get : ∀ (l : List BE) (i : Nat) (p : BE), l[i]? = some p → ∀ k, k < 7 → (bflat l)[i * 7 + k]? = p.cells[k]?
  | [], i, p, h, _, _ => by simp at h
  | q :: l, 0, p, h, k, hk => by
    simp at h; subst h
    simp only [bflat, List.flatMap_cons]
    rw [Nat.zero_mul, Nat.zero_add, List.getElem?_append_left (by rw [cells7]; exact hk)]
  | q :: l, i + 1, p, h, k, hk => by
    have := bflat_get l i p (by simpa using h) k hk
    simp only [bflat, List.flatMap_cons] at this ⊢
    rw [List.getElem?_append_right (by rw [cells7]; omega), cells7, show (i + 1) * 7 + k - 7 = i * 7 + k by omega]
    exact this
theorem bflat_set : ∀ (l : List BE) (i : Nat) (p q : BE) (k : Nat) (v : Value), l[i]? = some p → k < 7 → q.cells = p.cells.set k v → bflat (l.set i q) = (bflat l).set (i * 7 + k) v
  | [], i, p, q, k, v, h, _, _ => by simp at h
  | x :: l, 0, p, q, k, v, h, hk, hq => by
    simp at h; subst h
    simp only [bflat, List.set_cons_zero, List.flatMap_cons, hq]
    rw [Nat.zero_mul, Nat.zero_add, List.set_append_left _ _ (by rw [cells7]; exact hk)]
  | x :: l, i + 1, p, q, k, v, h, hk, hq => by
    have := bflat_set l i p q k v (by simpa using h) hk hq
    simp only [bflat, List.set_cons_succ, List.flatMap_cons] at this ⊢
    rw [this, List.set_append_right _ _ (by rw [cells7]; omega), cells7, show (i + 1) * 7 + k - 7 = i * 7 + k by omega]

/-- The entry k of the book, in any world. -/
theorem be_at {l : List BE} {i : Nat} {p : BE} (hp : l[i]? = some p) {n : Nat} (hn : l.length = n) {ao : Option Addr} {ac : Nat} {w : World} {L : List Asn} (h : Hold w (rowA 45 7 ao n ac (bflat l) :: L)) :
    ∃ rb rp, ao = some ⟨rb, rp, none⟩ ∧ ∀ W L, Hold W (rowA 45 7 ao n ac (bflat l) :: L) → ∀ k, k < 7 → W.cell? ⟨rb, rp + i * 7 + k, none⟩ = p.cells[k]? ∧ W.frozen? ⟨rb, rp + i * 7 + k, none⟩ = false := by
  have hi : i < l.length := (List.getElem?_eq_some_iff.1 hp).1
  obtain ⟨rb, rp, he, -, -⟩ := h.at (by omega)
  subst he
  refine ⟨rb, rp, rfl, fun W L hW k hk => ?_⟩
  obtain ⟨rb', ro', he, hct, hft⟩ := hW.at (by omega)
  simp only [Option.some.injEq, Addr.mk.injEq, and_true] at he
  obtain ⟨rfl, rfl⟩ := he
  exact ⟨by rw [Nat.add_assoc, hct (i * 7 + k) (by omega)]; exact bflat_get l i p hp k hk, hft _⟩

def FindRel (B : List BE) (id : Int) (w : World) (iv : Value) (wr : World) : Prop := ∃ k : Nat, k ≤ B.length ∧ iv = .int .i64 k ∧ (∀ (j : Nat) (e : BE), j < k → B[j]? = some e → (e.id : Int) ≠ id) ∧ w = wr

set_option maxHeartbeats 2000000 in
set_option maxRecDepth 20000 in
theorem find_ok (B : List BE) (ao : Option Addr) (cap : Nat) (id : Int) (hB : B.length ≤ 65536) (w : World) (L : List Asn) (h : Hold w (rowA 45 7 ao B.length cap (bflat B) :: L)) :
    Calls Try.prog 16 #[.slice ao B.length cap, .int .i64 id] w fun e w' => ∃ v : Int, e = .returned (.int .i64 v) ∧ w = w' ∧ ((v = -1 ∧ ∀ e ∈ B, (e.id : Int) ≠ id) ∨ ∃ (k : Nat) (e : BE), v = (k : Int) ∧ B[k]? = some e ∧ (e.id : Int) = id) := by
  go_enter Try.func16, Try.ntmps16
  go_wp2
  go_loopw [5] (fun iv wr => FindRel B id w iv wr) (fun iv _ => B.length - (intOf iv).toNat)
  case atStart => exact ⟨0, Nat.zero_le _, rfl, fun j e hj => by omega, rfl⟩
  case round =>
    obtain ⟨k, hk, rfl, hno, rfl⟩ := hrel
    obtain ⟨N, hN⟩ : ∃ N, B.length = N := ⟨_, rfl⟩
    have HN := Lib.hid hN
    have HNO := Lib.hid hno
    rw [hN] at hk hB h ⊢
    clear hno hN
    by_cases hlt : k < N
    · have hki : (k : Int) < (N : Int) := by omega
      have hk0 : 0 ≤ (k : Int) := by omega
      have W1 : IntKind.i64.wrap ((k : Int) + 1) = (k : Int) + 1 := IntWalk.i64_in _ (by omega)
      obtain ⟨e, he⟩ : ∃ e, B[k]? = some e := ⟨B[k]'(by have := HN.out; omega), List.getElem?_eq_getElem _⟩
      obtain ⟨rb, rp, rfl, G⟩ := be_at he HN.out h
      obtain ⟨g0', -⟩ := G _ _ h 0 (by omega)
      have g0 : w.cell? ⟨rb, rp + k * 7, none⟩ = some (.int .i64 e.id) := g0'
      have HE := Lib.hid he
      clear G g0' he
      by_cases hid : (e.id : Int) = id
      · have hib : ((e.id : Int) == id) = true := by rw [beq_iff_eq]; exact hid
        have HID := Lib.hid hid
        clear hid
        go_wp2
        go_ret
        exact ⟨k, rfl, rfl, .inr ⟨k, e, rfl, HE.out, HID.out⟩⟩
      · have hib : ((e.id : Int) == id) = false := by rw [beq_eq_false_iff_ne]; exact hid
        have HID := Lib.hid hid
        clear hid
        go_wp2
        go_roundw
        case rel =>
          refine ⟨k + 1, by rw [HN.out]; omega, by go_num, fun j f hj hf => ?_, rfl⟩
          by_cases hjk : j = k
          · subst hjk
            have h1 := HE.out
            rw [hf] at h1; simp at h1; subst h1
            exact HID.out
          · exact HNO.out j f (by omega) hf
        case measure => simp [intOf]; have := HN.out; omega
    · obtain rfl : k = N := by omega
      go_wp2
      go_ret
      refine ⟨-1, rfl, rfl, .inl ⟨rfl, fun e he => ?_⟩⟩
      obtain ⟨j, hj⟩ := List.mem_iff_getElem?.1 he
      have hjl : j < B.length := (List.getElem?_eq_some_iff.1 hj).1
      exact HNO.out j e (by have := HN.out; omega) hj

end Go.Proofs.Ytahhbbcgfhmmgaa
