/- Contracts: rows of messages alike. -/
import Derived.Test.YtjnjbmkkfkdhcaaSeQ
open Go.RowKit Go.Own
namespace Go.Proofs.Ytjnjbmkkfkdhcaa

/-- What reads as these messages. -/
def RowsAt (w : World) (ao : Option Addr) (n cap : Nat) (X : List (List UInt8)) : Prop := X.length = n ∧ ∃ vs : List (Option Addr × Nat), vs.length = n ∧ (∃ S, Rd w 1 (.slice ao n cap) n (sl X vs) S) ∧ ∀ (i : Nat) (x : List UInt8) (u : Option Addr × Nat), X[i]? = some x → vs[i]? = some u → ∃ S, Rd w 1 (.slice u.1 x.length u.2) x.length (ub x) S
theorem RowsAt.fr {w W : World} {ao : Option Addr} {n cap : Nat} {X : List (List UInt8)} (h : RowsAt w ao n cap X) (hf : Fr [] w W) : RowsAt W ao n cap X := by
  obtain ⟨h1, vs, h2, ⟨S, h3⟩, h4⟩ := h
  refine ⟨h1, vs, h2, ⟨S, h3.fr hf (by simp)⟩, fun i x u hx hu => ?_⟩
  obtain ⟨S', h5⟩ := h4 i x u hx hu
  exact ⟨S', h5.fr hf (by simp)⟩
theorem RowsAt.own {w : World} {ao : Option Addr} {cap : Nat} {X : List (List UInt8)} {L : List Asn} (h : Hold w (rowsA ao cap X :: L)) : RowsAt w ao X.length cap X := by
  obtain ⟨vs, hl, h1⟩ := rows_open h
  refine ⟨rfl, vs, hl, h1.rd, fun i x u hx hu => ?_⟩
  obtain ⟨u', e, -, h3⟩ := sl_get hl hx
  rw [hu] at e
  obtain rfl : u = u' := by simpa using e
  exact (h1.mv 1).reads (Reads.ofL h3 (Reads.row 5 1 u.1 x.length u.2 (ub x)))
theorem RowsAt.at {w : World} {ao : Option Addr} {n cap : Nat} {X : List (List UInt8)} (h : RowsAt w ao n cap X) {i : Nat} (hi : i < n) : ∃ (rb ro : Nat) (x : List UInt8) (u : Option Addr × Nat), ao = some ⟨rb, ro, none⟩ ∧ X[i]? = some x ∧ ∀ W, Fr [] w W → W.cell? ⟨rb, ro + i, none⟩ = some (.slice u.1 x.length u.2) ∧ (convert 32 9 (.slice u.1 x.length u.2)).run Try.prog W = .ok (.string ⟨x.toArray⟩) W := by
  obtain ⟨h1, vs, h2, ⟨S, h3⟩, h4⟩ := h
  obtain ⟨x, hx⟩ : ∃ x, X[i]? = some x := ⟨X[i], List.getElem?_eq_getElem (by omega)⟩
  obtain ⟨u, hu, hs, -⟩ := sl_get (rows := X) (vs := vs) (by omega) hx
  obtain ⟨rb, ro, rfl, -, -, -⟩ := h3.addr (by omega)
  obtain ⟨S', h5⟩ := h4 i x u hx hu
  refine ⟨rb, ro, x, u, rfl, hx, fun W hf => ⟨?_, run_text Try.underlying32 Try.underlying5 Try.underlying9 (h5.fr hf (by simp))⟩⟩
  obtain ⟨rb2, ro2, he, -, -, hc⟩ := (h3.fr hf (by simp)).addr (by omega)
  simp only [Option.some.injEq, Addr.mk.injEq, and_true] at he
  obtain ⟨rfl, rfl⟩ := he
  rw [hc i (by omega)]; exact hs

set_option maxRecDepth 20000 in
theorem rows_ok (X : List (List UInt8)) (ao bo : Option Addr) (n ca cb : Nat) (hn : (n : Int) ≤ 9223372036854775807) (w : World) (ha : RowsAt w ao n ca X) (hb : RowsAt w bo n cb X) :
    Calls Try.prog 17 #[.slice ao n ca, .slice bo n cb] w fun e w' => e = .returned (.bool true) ∧ ∃ k, w' = w.drewN k := by
  have HA := Lib.hid (And.intro ha hb)
  clear ha hb
  go_enter Try.func17, Try.ntmps17
  go_wp2
  go_loopw [5] (fun i wr => (∃ k : Nat, k ≤ n ∧ i = .int .i64 k) ∧ ∃ k, wr = w.drewN k) (fun i _ => n - (intOf i).toNat)
  case atStart => exact ⟨⟨0, by omega, rfl⟩, 0, rfl⟩
  case round =>
    obtain ⟨⟨k, hk, rfl⟩, dr, rfl⟩ := hrel
    by_cases hlt : k < n
    · have hki : (k : Int) < n := by omega
      obtain ⟨rb, ro, x, u, rfl, hx, F1⟩ := HA.out.1.at hlt
      obtain ⟨rb2, ro2, x2, u2, rfl, hx2, F2⟩ := HA.out.2.at hlt
      obtain rfl : x = x2 := by rw [hx] at hx2; simpa using hx2
      have hf : Fr [] w (w.drewN dr).drew := ((Fr.refl _ _).drewN dr).drew
      obtain ⟨c1, t1⟩ := F1 _ hf
      obtain ⟨c2, t2⟩ := F2 _ hf
      clear F1 F2 hf hx hx2
      go_upto_region 6 with (fail)
      refine wp_region_Z (fun W => W.cell? ⟨rb, ro + k, none⟩ = some (.slice u.1 x.length u.2) ∧ W.cell? ⟨rb2, ro2 + k, none⟩ = some (.slice u2.1 x.length u2.2) ∧ (convert 32 9 (.slice u.1 x.length u.2)).run Try.prog W = .ok (.string ⟨x.toArray⟩) W ∧ (convert 32 9 (.slice u2.1 x.length u2.2)).run Try.prog W = .ok (.string ⟨x.toArray⟩) W) [3, 4, 8, 9] [] [0, 1, 2, 5, 6, 7, 10] [0, 1, 2, 3, 4, 5, 6, 7, 8, 9, 10] (by kernel_rfl) (by kernel_rfl) ?_
      (repeat (first | (refine wpZ_st (v := ?_) _ (by rfl) (by rfl) (by rfl) (fun W hW => ?_) (by exact ⟨c1, c2, t1, t2⟩) ?_; (rotate_left; (focus ((try dsimp only at hW); go_simp; (try with_reducible rfl); done))); try simp only [Act.put, List.getElem_toArray, List.getElem_cons_zero, List.getElem_cons_succ, List.setIfInBounds_toArray, List.set_cons_zero, List.set_cons_succ]) | (refine wpZ_pu (v := ?_) _ (by rfl) (by rfl) (by rfl) (by rfl) (fun W => ?_) ?_; (rotate_left; (focus ((try dsimp only at hW); go_simp; (try with_reducible rfl); done))); try simp only [Act.put, List.getElem_toArray, List.getElem_cons_zero, List.getElem_cons_succ, List.setIfInBounds_toArray, List.set_cons_zero, List.set_cons_succ]) | (refine wpZ_no _ (by rfl) (by rfl) (by rfl) (by rfl) ?_; try simp only [Act.put, List.getElem_toArray, List.getElem_cons_zero, List.getElem_cons_succ, List.setIfInBounds_toArray, List.set_cons_zero, List.set_cons_succ]) | (refine wpZ_noS _ (by rfl) (by rfl) (by rfl) (by exact ⟨c1, c2, t1, t2⟩) ?_; try simp only [Act.put, List.getElem_toArray, List.getElem_cons_zero, List.getElem_cons_succ, List.setIfInBounds_toArray, List.set_cons_zero, List.set_cons_succ])))
      (simp only [wpZ])
      go_wp2
      go_roundw
      case rel => exact ⟨⟨k + 1, by omega, by go_num⟩, dr + 1, rfl⟩
      case measure => simp [intOf]; omega
    · obtain rfl : n = k := by omega
      go_wp2
      go_ret
      exact ⟨rfl, dr, rfl⟩

end Go.Proofs.Ytjnjbmkkfkdhcaa
