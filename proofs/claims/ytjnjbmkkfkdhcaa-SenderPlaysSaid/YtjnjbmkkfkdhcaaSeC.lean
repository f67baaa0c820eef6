/- Contracts: what a sender is in memory; its ring. -/
import Derived.Test.YtjnjbmkkfkdhcaaProg
import Derived.Test.YtjnjbmkkfkdhcaaChecked
import Derived.Test.YtjnjbmkkfkdhcaaSeB
import Derived.Test.YtjnjbmkkfkdhcaaStar
import Derived.Test.YtjnjbmkkfkdhcaaEq
import Derived.Test.YtjnjbmkkfkdhcaaAgg
import Derived.Test.YtjnjbmkkfkdhcaaRegion3
import Derived.Deep.LoopGhost
open Go.RowKit Go.Own
namespace Go.Proofs.Ytjnjbmkkfkdhcaa

def SS.cells (S : SS) (v : Value) (f n : Nat) : List Value := [v, .int .i64 f, .int .i64 n, .int .i64 S.window, .int .i64 S.timeout, .int .u32 S.base, .int .u32 S.next, .int .u32 S.top, .int .u32 S.fin, .int .i64 S.timer]
/-- The slices of the rows, and the rows themselves; vs: where each lies, and its room. -/
def sl : List (List UInt8) → List (Option Addr × Nat) → List Value
  | xs :: rows, v :: vs => .slice v.1 xs.length v.2 :: sl rows vs
  | _, _ => []
def rws : List (List UInt8) → List (Option Addr × Nat) → List Asn
  | xs :: rows, v :: vs => rowA 5 1 v.1 xs.length v.2 (ub xs) :: rws rows vs
  | _, _ => []
theorem sl_get : ∀ {rows : List (List UInt8)} {vs : List (Option Addr × Nat)} {k : Nat} {xs : List UInt8}, vs.length = rows.length → rows[k]? = some xs → ∃ v, vs[k]? = some v ∧ (sl rows vs)[k]? = some (.slice v.1 xs.length v.2) ∧ (rws rows vs)[k]? = some (rowA 5 1 v.1 xs.length v.2 (ub xs))
  | [], _, k, xs, _, h => by simp at h
  | _ :: _, [], _, _, h, _ => by simp at h
  | x :: rows, v :: vs, 0, xs, _, h => by
    simp at h; subst h
    exact ⟨v, rfl, rfl, rfl⟩
  | x :: rows, v :: vs, k + 1, xs, hl, h => by
    obtain ⟨u, h1, h2, h3⟩ := sl_get (rows := rows) (vs := vs) (k := k) (by simpa using hl) (by simpa using h)
    exact ⟨u, by simpa using h1, by simpa [sl] using h2, by simpa [rws] using h3⟩
theorem sl_length : ∀ {rows : List (List UInt8)} {vs : List (Option Addr × Nat)}, vs.length = rows.length → (sl rows vs).length = rows.length
  | [], [], _ => rfl
  | x :: rows, v :: vs, h => by simp [sl, sl_length (rows := rows) (vs := vs) (by simpa using h)]
theorem rws_length : ∀ {rows : List (List UInt8)} {vs : List (Option Addr × Nat)}, vs.length = rows.length → (rws rows vs).length = rows.length
  | [], [], _ => rfl
  | x :: rows, v :: vs, h => by simp [rws, rws_length (rows := rows) (vs := vs) (by simpa using h)]
theorem sl_set : ∀ (rows : List (List UInt8)) (vs : List (Option Addr × Nat)) (k : Nat) (xs : List UInt8) (v : Option Addr × Nat), sl (rows.set k xs) (vs.set k v) = (sl rows vs).set k (.slice v.1 xs.length v.2)
  | [], [], k, xs, v => by simp [sl]
  | [], _ :: _, k, xs, v => by simp [sl]
  | _ :: _, [], k, xs, v => by cases k <;> simp [sl]
  | x :: rows, u :: vs, 0, xs, v => rfl
  | x :: rows, u :: vs, k + 1, xs, v => by simp [sl, sl_set rows vs k xs v]
theorem rws_set : ∀ (rows : List (List UInt8)) (vs : List (Option Addr × Nat)) (k : Nat) (xs : List UInt8) (v : Option Addr × Nat), rws (rows.set k xs) (vs.set k v) = (rws rows vs).set k (rowA 5 1 v.1 xs.length v.2 (ub xs))
  | [], [], k, xs, v => by simp [rws]
  | [], _ :: _, k, xs, v => by simp [rws]
  | _ :: _, [], k, xs, v => by cases k <;> simp [rws]
  | x :: rows, u :: vs, 0, xs, v => rfl
  | x :: rows, u :: vs, k + 1, xs, v => by simp [rws, rws_set rows vs k xs v]


/-- A sender at block b. -/
def snA (b : Nat) (S : SS) : Asn := exA fun p : Nat × List (List UInt8) × Option Addr × Nat × List (Option Addr × Nat) => starA (pureA (Ring p.2.1 p.1 S.L ∧ p.2.1.length = S.store ∧ p.2.2.2.2.length = p.2.1.length)) (starA (cellsA b 60 (S.cells (.slice p.2.2.1 S.store p.2.2.2.1) p.1 S.L.length)) (starA (rowA 32 1 p.2.2.1 S.store p.2.2.2.1 (sl p.2.1 p.2.2.2.2)) (starL (rws p.2.1 p.2.2.2.2))))
theorem sn_open {w : World} {b : Nat} {S : SS} {L : List Asn} (h : Hold w (snA b S :: L)) : ∃ f rows ro rc vs, Ring rows f S.L ∧ rows.length = S.store ∧ vs.length = rows.length ∧ Hold w (cellsA b 60 (S.cells (.slice ro S.store rc) f S.L.length) :: rowA 32 1 ro S.store rc (sl rows vs) :: starL (rws rows vs) :: L) := by
  obtain ⟨⟨f, rows, ro, rc, vs⟩, h1⟩ := Hold.ex.1 h
  obtain ⟨⟨h2, h3, h6⟩, h7⟩ := Hold.pure.1 (Hold.star.1 h1)
  have h4 := (Hold.star.1 h7).mv 1
  have h5 := Hold.star.1 h4
  exact ⟨f, rows, ro, rc, vs, h2, h3, h6, h5.arr [2, 0, 1]⟩
theorem sn_close {w : World} {b : Nat} {S : SS} {L : List Asn} {f : Nat} {rows : List (List UInt8)} {ro : Option Addr} {rc : Nat} {vs : List (Option Addr × Nat)} (hR : Ring rows f S.L) (hs : rows.length = S.store) (hl : vs.length = rows.length) (h : Hold w (cellsA b 60 (S.cells (.slice ro S.store rc) f S.L.length) :: rowA 32 1 ro S.store rc (sl rows vs) :: starL (rws rows vs) :: L)) : Hold w (snA b S :: L) := by
  refine Hold.ex.2 ⟨(f, rows, ro, rc, vs), Hold.star.2 (Hold.pure.2 ⟨⟨hR, hs, hl⟩, Hold.star.2 ?_⟩)⟩
  exact (Hold.star.2 (h.arr [1, 2, 0])).swap

theorem snM {w : World} {b : Nat} {S : SS} {v : Value} {f n : Nat} {L : List Asn} (h : Hold w (cellsA b 60 (S.cells v f n) :: L)) :
    w.cell? ⟨b, 0, none⟩ = some v ∧ w.cell? ⟨b, 1, none⟩ = some (.int .i64 f) ∧ w.cell? ⟨b, 2, none⟩ = some (.int .i64 n) ∧ w.cell? ⟨b, 3, none⟩ = some (.int .i64 S.window) ∧ w.cell? ⟨b, 4, none⟩ = some (.int .i64 S.timeout) ∧ w.cell? ⟨b, 5, none⟩ = some (.int .u32 S.base) ∧
    w.cell? ⟨b, 6, none⟩ = some (.int .u32 S.next) ∧ w.cell? ⟨b, 7, none⟩ = some (.int .u32 S.top) ∧ w.cell? ⟨b, 8, none⟩ = some (.int .u32 S.fin) ∧ w.cell? ⟨b, 9, none⟩ = some (.int .i64 S.timer) :=
  ⟨h.cell 0, h.cell 1, h.cell 2, h.cell 3, h.cell 4, h.cell 5, h.cell 6, h.cell 7, h.cell 8, h.cell 9⟩

theorem none_ok (b : Nat) (c : Int) (hc : 1 ≤ c) (w : World) (h3 : w.cell? ⟨b, 3, none⟩ = some (.int .i64 c)) :
    Calls Try.prog 25 #[.pointer (some ⟨b, 0, none⟩)] w fun e w' => e = .returned (.bool false) ∧ w = w' := by
  have hne : (c == 0) = false := by rw [beq_eq_false_iff_ne]; omega
  go_enter Try.func25, Try.ntmps25
  go_wp2
  go_ret
  exact ⟨rfl, rfl⟩

theorem full_ok (b : Nat) (f n m cap : Nat) (ro : Option Addr) (w : World) (S : List Asn) (v : List Value) (h : Hold w (cellsA b 60 (.slice ro m cap :: .int .i64 f :: .int .i64 n :: v) :: S)) :
    Calls Try.prog 26 #[.pointer (some ⟨b, 0, none⟩)] w fun e w' => e = .returned (.bool ((n : Int) == m)) ∧ w' = w.drew := by
  have g0 := h.drew.cell 0
  have g2 := h.drew.cell 2
  simp only [List.getElem?_cons_zero, List.getElem?_cons_succ] at g0 g2
  go_enter Try.func26, Try.ntmps26
  go_upto_region 1 with (fail)
  refine wp_region_Z (fun W => W.cell? ⟨b, 0, none⟩ = some (.slice ro m cap) ∧ W.cell? ⟨b, 2, none⟩ = some (.int .i64 n)) [3, 7] [] [0, 1, 2, 4, 5, 6, 8, 9, 10] [0, 1, 2, 3, 4, 5, 6, 7, 8, 9, 10] (by kernel_rfl) (by kernel_rfl) ?_
  (repeat (first | (refine wpZ_st (v := ?_) _ (by rfl) (by rfl) (by rfl) (fun W hW => ?_) (by exact ⟨g0, g2⟩) ?_; (rotate_left; (focus ((try dsimp only at hW); go_simp; (try with_reducible rfl); done))); try simp only [Act.put, List.getElem_toArray, List.getElem_cons_zero, List.getElem_cons_succ, List.setIfInBounds_toArray, List.set_cons_zero, List.set_cons_succ]) | (refine wpZ_pu (v := ?_) _ (by rfl) (by rfl) (by rfl) (by rfl) (fun W => ?_) ?_; (rotate_left; (focus ((try dsimp only at hW); go_simp; (try with_reducible rfl); done))); try simp only [Act.put, List.getElem_toArray, List.getElem_cons_zero, List.getElem_cons_succ, List.setIfInBounds_toArray, List.set_cons_zero, List.set_cons_succ]) | (refine wpZ_no _ (by rfl) (by rfl) (by rfl) (by rfl) ?_; try simp only [Act.put, List.getElem_toArray, List.getElem_cons_zero, List.getElem_cons_succ, List.setIfInBounds_toArray, List.set_cons_zero, List.set_cons_succ]) | (refine wpZ_noS _ (by rfl) (by rfl) (by rfl) (by exact ⟨g0, g2⟩) ?_; try simp only [Act.put, List.getElem_toArray, List.getElem_cons_zero, List.getElem_cons_succ, List.setIfInBounds_toArray, List.set_cons_zero, List.set_cons_succ])))
  (simp only [wpZ])
  go_wp2
  go_ret
  exact ⟨rfl, rfl⟩

/-- The slice at place j of the ring, in any world. -/
theorem row_at {rows : List (List UInt8)} {vs : List (Option Addr × Nat)} (hl : vs.length = rows.length) {j n rc : Nat} {ro : Option Addr} (hn : rows.length = n) (hj : j < n) {w : World} {L : List Asn} (h : Hold w (rowA 32 1 ro n rc (sl rows vs) :: L)) :
    ∃ rb rp, ro = some ⟨rb, rp, none⟩ ∧ ∃ xs v, rows[j]? = some xs ∧ vs[j]? = some v ∧ (rws rows vs)[j]? = some (rowA 5 1 v.1 xs.length v.2 (ub xs)) ∧ ∀ W L, Hold W (rowA 32 1 ro n rc (sl rows vs) :: L) → W.cell? ⟨rb, rp + j, none⟩ = some (.slice v.1 xs.length v.2) ∧ W.frozen? ⟨rb, rp + j, none⟩ = false := by
  obtain ⟨xs, hxs⟩ : ∃ xs, rows[j]? = some xs := ⟨rows[j], List.getElem?_eq_getElem (by omega)⟩
  obtain ⟨v, h1, h2, h3⟩ := sl_get hl hxs
  obtain ⟨rb, rp, he, -, -⟩ := h.at (by omega)
  subst he
  refine ⟨rb, rp, rfl, xs, v, hxs, h1, h3, fun W L hW => ?_⟩
  obtain ⟨rb', ro', he, hct, hft⟩ := hW.at (by omega)
  simp only [Option.some.injEq, Addr.mk.injEq, and_true] at he
  obtain ⟨rfl, rfl⟩ := he
  exact ⟨by rw [hct j (by omega)]; exact h2, hft _⟩

end Go.Proofs.Ytjnjbmkkfkdhcaa
