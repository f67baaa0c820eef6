/- The contract of ApartBytes: rows that share nothing. -/
import Derived.Test.YtlfchokafpodcaaKeep
import Derived.Test.YtlfchokafpodcaaOwn3
open Go.RowKit Go.Own
namespace Go.Proofs.Ytlfchokafpodcaa

/-- The mark of a place in a list. -/
def mk (i j : Int) : Int := wrap64 (wrap64 (wrap64 (31 * i) + wrap64 (7 * j)) + 1) % 256

theorem mark_ok (i j : Int) (w : World) : Calls Try.prog 26 #[.int .i64 i, .int .i64 j] w fun e w' => e = .returned (.int .u8 (mk i j)) ∧ w = w' := by
  go_enter Try.func26, Try.ntmps26
  go_wp2
  go_ret
  exact ⟨rfl, rfl⟩

/-- Block A holds m slices of bytes from place o on; each is owned; they share nothing. -/
def RowsAt (w : World) (A o m : Nat) (ao : Nat → Option Addr) (n cap : Nat → Nat) (X : Nat → List Value) (B : Nat → List Nat) : Prop :=
  (∀ i, i < m → w.cell? ⟨A, o + i, none⟩ = some (.slice (ao i) (n i) (cap i))) ∧ (∀ i, i < m → Own w 5 1 (.slice (ao i) (n i) (cap i)) (n i) (X i) (B i)) ∧
    (∀ i j, i < m → j < m → i ≠ j → ∀ k, k ∈ B i → k ∉ B j) ∧ (∀ i, i < m → A ∉ B i) ∧ A < w.heap.size

theorem RowsAt.fr {w w' : World} {A o m : Nat} {ao : Nat → Option Addr} {n cap : Nat → Nat} {X : Nat → List Value} {B : Nat → List Nat} {F : List Nat} (h : RowsAt w A o m ao n cap X B) (hf : Fr F w w') (hF : ∀ i, i < m → ∀ k, k ∈ B i → k ∉ F) (hA : A ∉ F) :
    RowsAt w' A o m ao n cap X B := by
  obtain ⟨h1, h2, h3, h4, h5⟩ := h
  exact ⟨fun i hi => (hf.cell (p := ⟨A, o + i, none⟩) h5 hA).trans (h1 i hi), fun i hi => (h2 i hi).fr hf (hF i hi), h3, h4, Nat.lt_of_lt_of_le h5 hf.size⟩

theorem RowsAt.set {w : World} {A o m : Nat} {ao : Nat → Option Addr} {n cap : Nat → Nat} {X : Nat → List Value} {B : Nat → List Nat} (h : RowsAt w A o m ao n cap X B) (k j b q : Nat) (hk : k < m) (hj : j < n k) (hao : ao k = some ⟨b, q, none⟩) (u : Value) :
    RowsAt (w.setCell ⟨b, q + j, none⟩ u) A o m ao n cap (fun i => if i = k then (X k).set j u else X i) B ∧ b ∈ B k := by
  obtain ⟨h1, h2, h3, h4, h5⟩ := h
  have hok := h2 k hk
  rw [hao] at hok
  have hb : b ∈ B k := by
    obtain ⟨rb, ro, e1, e2, _⟩ := hok.rd.addr (by omega)
    simp only [Option.some.injEq, Addr.mk.injEq, and_true] at e1
    rw [e2, e1.1]
    simp
  have hf : Fr (B k) w (w.setCell ⟨b, q + j, none⟩ u) := (Fr.refl _ _).setCell (.inl hb) u
  refine ⟨⟨fun i hi => (hf.cell (p := ⟨A, o + i, none⟩) h5 (h4 k hk)).trans (h1 i hi), fun i hi => ?_, h3, h4, Nat.lt_of_lt_of_le h5 hf.size⟩, hb⟩
  by_cases hik : i = k
  · subst hik
    show Own _ _ 1 _ _ (if i = i then _ else _) _
    rw [if_pos rfl, hao]
    exact hok.set j (by omega) u
  · show Own _ _ 1 _ _ (if i = k then _ else _) _
    rw [if_neg hik]
    exact (h2 i hi).fr hf (h3 i k hi hk hik)

/-- All rows below k hold their marks. -/
def Full (k : Nat) (n : Nat → Nat) (X : Nat → List Value) : Prop := ∀ i, i < k → ∀ p, p < n i → (X i)[p]? = some (.int .u8 (mk i p))

set_option maxHeartbeats 2000000 in
theorem apart_ok (A o m c : Nat) (ao : Nat → Option Addr) (n cap : Nat → Nat) (X : Nat → List Value) (B : Nat → List Nat) (F : List Nat) (w : World) (h : RowsAt w A o m ao n cap X B)
    (hF : ∀ i, i < m → ∀ k, k ∈ B i → k ∈ F) (hAF : A ∉ F) (hmc : m ≤ c) (hc : m ≤ 1000000) (hn : ∀ i, i < m → n i ≤ 140737488351232) :
    Calls Try.prog 15 #[.slice (some ⟨A, o, none⟩) m c] w fun e w' => e = .returned (.bool true) ∧ Fr F w w' := by
  obtain ⟨i5, hi, hz0, hz1, hz2⟩ := info_parts kinfo5
  go_enter Try.func15, Try.ntmps15
  go_wp2_with fail
  go_loopw [3] (fun i wr => ∃ (k : Nat) (X : Nat → List Value), k ≤ m ∧ i = .int .i64 k ∧ RowsAt wr A o m ao n cap X B ∧ Full k n X ∧ Fr F w wr) (fun i _ => m - (intOf i).toNat)
  case atStart => exact ⟨0, X, by omega, rfl, h, fun i hi => by omega, Fr.refl _ _⟩
  case round =>
    clear h X
    obtain ⟨k, X, hk, rfl, hR, hfull, hf⟩ := hrel
    by_cases hlt : k < m
    · have hki : (k : Int) < m := by omega
      go_wp2_with fail
      go_loopw [4] (fun j wr => ∃ (p : Nat) (X : Nat → List Value), p ≤ n k ∧ j = .int .i64 p ∧ RowsAt wr A o m ao n cap X B ∧ Full k n X ∧ (∀ q, q < p → (X k)[q]? = some (.int .u8 (mk k q))) ∧ Fr F w wr) (fun j _ => n k - (intOf j).toNat)
      case atStart => exact ⟨0, X, by omega, rfl, hR, hfull, fun q hq => by omega, hf⟩
      case round =>
        clear hR hfull hf X
        obtain ⟨p, X, hp, rfl, hR, hfull, hq, hf⟩ := hrel
        have hck := hR.1 k hlt
        have hok := hR.2.1 k hlt
        have hnk := hn k hlt
        by_cases hlp : p < n k
        · have hpi : (p : Int) < n k := by omega
          obtain ⟨rb, ro, hao, hBe, hrb, hcs⟩ := hok.rd.addr (by omega)
          rw [hao] at hck hok
          obtain ⟨a1, a2, _, _, _, a6⟩ := hok.at
          have f1 := a2 (ro + p)
          obtain ⟨z, hz⟩ : ∃ z, wr.cell? ⟨rb, ro + p, none⟩ = some z := Option.isSome_iff_exists.1 (a6 p (by omega))
          obtain ⟨_, hlc, hlm⟩ := hok.rd.bounds
          unfold maxLen at hlm
          have HAO := Lib.hid hao
          have HFU := Lib.hid hfull
          have HQ := Lib.hid hq
          have HF := Lib.hid hF
          have HN := Lib.hid hn
          have hM := mark_ok k p
          generalize hmk : mk k p = mkv at hM
          have HMK := Lib.hid hmk
          generalize hnn : n k = nk at *
          have HNN := Lib.hid hnn
          clear hcs a1 a2 a6 hao hfull hq hF hn hmk hnn hok
          go_wp2_with fail
          have hS0 : wr.drew.cell? ⟨A, o + k, none⟩ = some (.slice (some ⟨rb, ro, none⟩) nk (cap k)) := hck
          refine wp_region_X (fun W => W.cell? ⟨A, o + k, none⟩ = some (.slice (some ⟨rb, ro, none⟩) nk (cap k))) [0, 1, 2, 3, 4, 5, 6] [8, 9] [0, 1, 2, 3, 4, 5, 6, 7, 8, 9] (by kernel_rfl) (by kernel_rfl) ?_
          (repeat (refine wpX_st (v := ?_) _ (by rfl) (by rfl) (by rfl) (fun W hW => ?_) hS0 ?_; rotate_left; (focus ((try dsimp only at hW); go_simp; (try with_reducible rfl); done)); try simp only [Act.put, List.getElem_toArray, List.getElem_cons_zero, List.getElem_cons_succ, List.setIfInBounds_toArray, List.set_cons_zero, List.set_cons_succ]))
          refine wpX_eff _ (by rfl) (by rfl) (by rfl) (fun K hK => ?_)
          go_simp
          refine (hM _).mono ?_
          rintro e w' ⟨rfl, rfl⟩
          dsimp only
          (refine hK _ _ (fun hl => ?_) ?_; (first | (focus (cases hl; done)) | exact hS0); clear hK K; try simp only [Act.put, List.getElem_toArray, List.getElem_cons_zero, List.getElem_cons_succ, List.setIfInBounds_toArray, List.set_cons_zero, List.set_cons_succ])
          (refine wpX_eff _ (by rfl) (by rfl) (by rfl) (fun K hK => ?_); go_simp; refine hK _ _ (fun hl => ?_) ?_; (first | (focus (cases hl; done)) | skip); clear hK K; try simp only [Act.put, List.getElem_toArray, List.getElem_cons_zero, List.getElem_cons_succ, List.setIfInBounds_toArray, List.set_cons_zero, List.set_cons_succ])
          (refine wpX_eff _ (by rfl) (by rfl) (by rfl) (fun K hK => ?_); go_simp; refine hK _ _ (fun hl => ?_) ?_; (first | (focus (cases hl; done)) | skip); clear hK K; try simp only [Act.put, List.getElem_toArray, List.getElem_cons_zero, List.getElem_cons_succ, List.setIfInBounds_toArray, List.set_cons_zero, List.set_cons_succ])
          (simp only [wpX])
          obtain rfl := HNN.out
          go_wp2_with fail
          go_roundw
          case rel =>
            obtain ⟨hR2, hb⟩ := hR.set k p rb ro hlt hlp HAO.out (.int .u8 mkv)
            refine ⟨p + 1, _, by omega, by go_num, hR2.fr (F := []) ((Fr.refl _ _).drew) (by simp) (by simp), fun i hi q hq => ?_, fun q hq => ?_, (hf.setCell (.inl (HF.out k hlt rb hb)) _).drew⟩
            · show (if i = k then _ else _)[q]? = _
              rw [if_neg (by omega)]
              exact HFU.out i hi q hq
            · show (if k = k then _ else _)[q]? = _
              rw [if_pos rfl]
              by_cases hqp : q = p
              · subst hqp
                rw [List.getElem?_set_self (by have := (hR.2.1 k hlt).rd.bounds.1; omega), HMK.out]
              · rw [List.getElem?_set_ne (by omega)]
                exact HQ.out q (by omega)
          case measure => simp [intOf]; omega
        · obtain rfl : p = n k := by omega
          go_wp2_with fail
          go_roundw
          case rel =>
            refine ⟨k + 1, X, by omega, by go_num, hR, fun i hi q hq2 => ?_, hf⟩
            by_cases hik : i = k
            · subst hik; exact hq q hq2
            · exact hfull i (by omega) q hq2
          case measure => simp [intOf]; omega
    · obtain rfl : k = m := by omega
      go_wp2_with fail
      have hBl : ∀ i, i < k → ∀ b, b ∈ B i → b < wr.heap.size := fun i hi b hb => (hR.2.1 i hi).lt b hb
      have hAl := hR.2.2.2.2
      have hww := hf.size
      obtain ⟨wq, hwq⟩ : ∃ x, x = wr := ⟨_, rfl⟩
      subst hwq
      go_loopw [5] (fun i wr => ∃ (e : Nat), e ≤ k ∧ i = .int .i64 e ∧ RowsAt wr A o k ao n cap X B ∧ Fr F w wr ∧ wq.heap.size ≤ wr.heap.size) (fun i _ => k - (intOf i).toNat)
      case atStart => exact ⟨0, by omega, rfl, hR, hf, Nat.le_refl _⟩
      case round =>
        clear hR hf
        obtain ⟨e, he, rfl, hR, hf, hqr⟩ := hrel
        by_cases hlt : e < k
        · have hei : (e : Int) < k := by omega
          have hck := hR.1 e hlt
          have hok := hR.2.1 e hlt
          have hne := hn e hlt
          have HF := Lib.hid hF
          have HN := Lib.hid hn
          have HFU := Lib.hid hfull
          have HBL := Lib.hid hBl
          clear hF hn hfull hBl
          go_wp2_with fail
          go_loopw [6, 7] (fun v t wr => ∃ (d : Nat) (ao' : Option Addr) (cap' : Nat) (ys : List Value) (Y : List Nat), d ≤ 40 ∧ t = .int .i64 d ∧ v = .slice ao' (n e + d) cap' ∧ Own wr 5 1 (.slice ao' (n e + d) cap') (n e + d) ys Y ∧
            ((ao' = ao e ∧ cap' = cap e ∧ Y = B e ∧ ys.take (n e) = X e) ∨ (∀ b, b ∈ Y → wq.heap.size ≤ b)) ∧ RowsAt wr A o k ao n cap X B ∧ Fr F w wr ∧ wq.heap.size ≤ wr.heap.size) (fun _ t _ => 40 - (intOf t).toNat)
          case atStart => exact ⟨0, ao e, cap e, X e, B e, by omega, rfl, rfl, hok, .inl ⟨rfl, rfl, rfl, List.take_of_length_le (by have := hok.rd.bounds.1; omega)⟩, hR, hf, hqr⟩
          case round =>
            clear hck hok hR hf hqr
            obtain ⟨d, ao1, cap1, ys, Y, hd, rfl, rfl, hoY, hY, hR, hf, hqr⟩ := hrel
            obtain ⟨_, hlc, hlm⟩ := hoY.rd.bounds
            unfold maxLen at hlm
            have HY := Lib.hid hY
            clear hY
            by_cases hld : d < 40
            · have hdi : (d : Int) < 40 := by omega
              go_wp2_with ((with_reducible refine wpList_plain (o := ⟨some 50, _, _, _, _, _⟩) rfl (fun K hK => ?_)); refine wp_append_two (w := wr) _ _ 22 (by rfl) 5 i5 (.int .u8 0) 1 1 Try.underlying22 hi hz0 hz1 hz2 (by rfl) _ _ _ _ Y (by rfl) hoY [_] (by rfl) ⟨rfl, rfl, rfl, rfl⟩ (by rfl) (by simp [Value.oneCell']) (by unfold maxLen; omega) (by omega) (fun ao3 cap3 w3 Y3 ho3 hf3 hY3 => ?_); refine hK _ _ ?_; clear hK K)
              go_roundw
              case rel =>
                have hsz3 := hf3.size
                have hYF : ∀ b, b ∈ Y → b ∈ F ∨ w.heap.size ≤ b := fun b hb => by
                  rcases HY.out with ⟨_, _, h3, _⟩ | h
                  · rw [h3] at hb; exact .inl (HF.out e hlt b hb)
                  · have := h b hb; exact .inr (by omega)
                have hRn : (∀ b, b ∈ Y → wq.heap.size ≤ b) → RowsAt w3 A o k ao n cap X B := fun h => hR.fr hf3 (fun i hi b hb hb2 => by have := HBL.out i hi b hb; have := h b hb2; omega) (fun hb => by have := h A hb; omega)
                rcases hY3 with ⟨rfl, rfl, rfl⟩ | ⟨hf4, hY4⟩
                · refine ⟨d + 1, _, _, _, Y3, by omega, by go_num, by rw [Nat.add_assoc], by rw [← Nat.add_assoc]; exact ho3, ?_, ?_, hf.trans hf3 hYF, by omega⟩
                  · rcases HY.out with ⟨h1, h2, h3, h4⟩ | h
                    · exact .inl ⟨h1, h2, h3, by rw [List.take_append_of_le_length (by have := hoY.rd.bounds.1; omega)]; exact h4⟩
                    · exact .inr h
                  · rcases HY.out with ⟨h1, h2, h3, h4⟩ | h
                    · subst h1; subst h2; subst h3
                      obtain ⟨r1, r2, r3, r4, r5⟩ := hR
                      refine ⟨fun i hi => (hf3.cell (p := ⟨A, o + i, none⟩) r5 (r4 e hlt)).trans (r1 i hi), fun i hi => ?_, r3, r4, by omega⟩
                      by_cases hie : i = e
                      · subst hie
                        have := ho3.first (n i) (by omega)
                        rw [List.take_append_of_le_length (by have := hoY.rd.bounds.1; omega), h4] at this
                        exact this
                      · exact (r2 i hi).fr hf3 (r3 i e hi hlt hie)
                    · exact hRn h
                · refine ⟨d + 1, ao3, cap3, _, Y3, by omega, by go_num, by rw [Nat.add_assoc], by rw [← Nat.add_assoc]; exact ho3, .inr (fun b hb => by have := hY4 b hb; omega), hR.fr hf4 (by simp) (by simp), hf.trans hf4 (by simp), by omega⟩
              case measure => simp [intOf]; omega
            · go_wp2_with fail
              go_roundw
              case rel => exact ⟨e + 1, by omega, by go_num, hR, hf, hqr⟩
              case measure => simp [intOf]; omega
        · obtain rfl : e = k := by omega
          go_wp2_with fail
          go_loopw [8] (fun i wr => ∃ (d : Nat), d ≤ e ∧ i = .int .i64 d ∧ RowsAt wr A o e ao n cap X B ∧ Fr F w wr) (fun i _ => e - (intOf i).toNat)
          case atStart => exact ⟨0, by omega, rfl, hR, hf⟩
          case round =>
            clear hR hf hqr
            obtain ⟨d, hd, rfl, hR, hf⟩ := hrel
            by_cases hlt : d < e
            · have hdi : (d : Int) < e := by omega
              go_wp2_with fail
              go_loopw [9] (fun i wr => ∃ (p : Nat), p ≤ n d ∧ i = .int .i64 p ∧ RowsAt wr A o e ao n cap X B ∧ Fr F w wr) (fun i _ => n d - (intOf i).toNat)
              case atStart => exact ⟨0, by omega, rfl, hR, hf⟩
              case round =>
                clear hR hf
                obtain ⟨p, hp, rfl, hR, hf⟩ := hrel
                have hck := hR.1 d hlt
                have hok := hR.2.1 d hlt
                have hnd := hn d hlt
                by_cases hlp : p < n d
                · have hpi : (p : Int) < n d := by omega
                  have hx := hfull d hlt p hlp
                  obtain ⟨rb, ro, hao, hBe, hrb, hcs⟩ := hok.rd.addr (by omega)
                  have hcp := (hcs p (by omega)).trans hx
                  rw [hao] at hck
                  obtain ⟨_, hlc, hlm⟩ := hok.rd.bounds
                  unfold maxLen at hlm
                  have hM := mark_ok d p
                  generalize mk d p = mkv at *
                  have HF := Lib.hid hF
                  have HN := Lib.hid hn
                  have HFU := Lib.hid hfull
                  generalize hnn : n d = nd at *
                  have HNN := Lib.hid hnn
                  clear hcs hao hF hn hfull hnn hok hx
                  go_wp2_with fail
                  have hS0 : wr.drew.cell? ⟨A, o + d, none⟩ = some (.slice (some ⟨rb, ro, none⟩) nd (cap d)) ∧ wr.drew.cell? ⟨rb, ro + p, none⟩ = some (.int .u8 mkv) := ⟨hck, hcp⟩
                  refine wp_region_X (fun W => W.cell? ⟨A, o + d, none⟩ = some (.slice (some ⟨rb, ro, none⟩) nd (cap d)) ∧ W.cell? ⟨rb, ro + p, none⟩ = some (.int .u8 mkv)) [0, 1, 2, 3, 4, 5, 6, 7, 8, 10] [] [0, 1, 2, 3, 4, 5, 6, 7, 8, 9, 10] (by kernel_rfl) (by kernel_rfl) ?_
                  (repeat (refine wpX_st (v := ?_) _ (by rfl) (by rfl) (by rfl) (fun W hW => ?_) hS0 ?_; rotate_left; (focus ((try dsimp only at hW); go_simp; (try with_reducible rfl); done)); try simp only [Act.put, List.getElem_toArray, List.getElem_cons_zero, List.getElem_cons_succ, List.setIfInBounds_toArray, List.set_cons_zero, List.set_cons_succ]))
                  refine wpX_eff _ (by rfl) (by rfl) (by rfl) (fun K hK => ?_)
                  go_simp
                  refine (hM _).mono ?_
                  rintro e' w' ⟨rfl, rfl⟩
                  dsimp only
                  (refine hK _ _ (fun hl => ?_) ?_; (first | (focus (cases hl; done)) | exact hS0); clear hK K; try simp only [Act.put, List.getElem_toArray, List.getElem_cons_zero, List.getElem_cons_succ, List.setIfInBounds_toArray, List.set_cons_zero, List.set_cons_succ])
                  (repeat (refine wpX_st (v := ?_) _ (by rfl) (by rfl) (by rfl) (fun W hW => ?_) hS0 ?_; rotate_left; (focus ((try dsimp only at hW); go_simp; (try with_reducible rfl); done)); try simp only [Act.put, List.getElem_toArray, List.getElem_cons_zero, List.getElem_cons_succ, List.setIfInBounds_toArray, List.set_cons_zero, List.set_cons_succ]))
                  (simp only [wpX])
                  obtain rfl := HNN.out
                  go_wp2_with fail
                  go_roundw
                  case rel => exact ⟨p + 1, by omega, by go_num, hR.fr (F := []) ((Fr.refl _ _).drew) (by simp) (by simp), hf.drew⟩
                  case measure => simp [intOf]; omega
                · go_wp2_with fail
                  go_roundw
                  case rel => exact ⟨d + 1, by omega, by go_num, hR, hf⟩
                  case measure => simp [intOf]; omega
            · go_wp2_with fail
              go_ret
              exact ⟨rfl, hf⟩

end Go.Proofs.Ytlfchokafpodcaa
