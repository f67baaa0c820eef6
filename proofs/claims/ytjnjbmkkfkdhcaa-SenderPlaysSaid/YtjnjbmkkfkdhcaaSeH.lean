/- Contracts: Send. -/
import Derived.Test.YtjnjbmkkfkdhcaaSeG
open Go.RowKit Go.Own
namespace Go.Proofs.Ytjnjbmkkfkdhcaa

set_option maxRecDepth 20000 in
theorem send_good (b : Nat) (S : SS) (hS : SI S) (x : List UInt8) (C : Asn) (ao : Option Addr) (k cap : Nat) (hR : Reads C 1 (.slice ao k cap) k (ub x)) (he : sendE S k = 0) (w : World) (L : List Asn) (h : Hold w (snA b S :: C :: L)) :
    Calls Try.prog 10 #[.pointer (some ⟨b, 0, none⟩), .slice ao k cap] w fun e w' => e = .returned (.tuple #[.int .u32 S.fin, .int .i64 0]) ∧ Hold w' (snA b (addS S x) :: C :: L) := by
  have hc : k ≤ 64 ∧ S.fin < 4294967295 ∧ S.L.length < S.store := by
    have h1 := hS.max
    have h2 := hS.ll
    unfold sendE at he
    split at he
    · omega
    · split at he
      · omega
      · split at he
        · omega
        · exact ⟨by omega, by omega, by omega⟩
  obtain ⟨hk, hfin, hll⟩ := hc
  obtain ⟨f, rows, ro, rc, vs, hRg, hm, hl, h1⟩ := sn_open h
  have P := none_h b S hS w _ _ _ _ h1
  have PF := full_ok b f S.L.length S.store rc ro w _ _ h1
  rw [show ((S.L.length : Int) == S.store) = false by rw [beq_eq_false_iff_ne]; omega] at PF
  obtain ⟨j, hj⟩ : ∃ j, (f + S.L.length) % S.store = j := ⟨_, rfl⟩
  have PP := push_ok b S f S.L.length S.store rc j ro rows vs hl hm hS.s256 (by have := hRg.fl; omega) hll hj x C ao k cap hR hk w.drew L h1.drew
  obtain ⟨-, -, -, -, -, -, -, -, g8, -⟩ := snM h1
  have hki : (k : Int) ≤ 64 := by omega
  have hne : ((S.fin : Int) == 4294967295) = false := by rw [beq_eq_false_iff_ne]; omega
  have hpush := hRg.push (by omega) x
  rw [hm, hj] at hpush
  have H0 := Lib.hid (And.intro hpush (And.intro hm hl))
  have HJ := Lib.hid hj
  clear hRg hm hl hpush he h hj hR hk
  obtain ⟨F, hF⟩ : ∃ F : Int, (S.fin : Int) = F := ⟨_, rfl⟩
  have hfi : F < 4294967295 := by omega
  have hf0 : 0 ≤ F := by omega
  have W1 : IntKind.u32.wrap (F + 1) = F + 1 := IntWalk.u32_in _ (by omega)
  have W2 : IntKind.u32.wrap (F + 1 - 1) = F := by rw [show F + 1 - 1 = F by omega]; exact IntWalk.u32_in _ (by omega)
  simp only [hF] at g8 hne ⊢
  have HF := Lib.hid hF
  clear hfin hF
  go_enter Try.func10, Try.ntmps10
  go_upto_region 10 with (first
    | (go_at_call 25; with_reducible refine P.mono ?_; rintro e w1 ⟨rfl, rfl⟩)
    | (go_at_call 26; with_reducible refine PF.mono ?_; rintro e w2 ⟨rfl, rfl⟩)
    | (go_at_call 27; with_reducible refine PP.mono ?_; rintro e w3 ⟨rfl, vs', hl', h3⟩))
  clear P PF PP h1 g8
  obtain ⟨-, -, -, -, -, -, -, -, g8, -⟩ := snM h3
  have f8 := h3.frozen 8
  simp only [HF.out] at g8
  have HV := h3.st 8 (.int .u32 (F + 1))
  have HL' := Lib.hid hl'
  clear hl'
  go_upto_region 11 with (fail)
  refine gen_world HV (fun w4 HV => ?_)
  have g8' : w4.cell? ⟨b, 8, none⟩ = some (.int .u32 (F + 1)) := HV.cell 8
  clear g8 f8 h3
  go_wp2
  go_ret2
  refine ⟨rfl, ?_⟩
  refine sn_close (S := addS S x) (f := f) (rows := rows.set j x) (ro := ro) (rc := rc) (vs := vs') H0.out.1 (by simpa [addS] using H0.out.2.1) (by simpa using HL'.out) ?_
  refine HV.as ?_
  simp only [SS.cells, addS, List.set_cons_succ, List.set_cons_zero, List.length_append, List.length_cons, List.length_nil]
  rw [← HF.out]
  rfl

set_option maxRecDepth 20000 in
theorem send_bad (b : Nat) (S : SS) (hS : SI S) (ao : Option Addr) (k cap : Nat) (hk : k ≤ 140737488351232) (he : sendE S k ≠ 0) (w : World) (L : List Asn) (h : Hold w (snA b S :: L)) :
    Calls Try.prog 10 #[.pointer (some ⟨b, 0, none⟩), .slice ao k cap] w fun e w' => e = .returned (.tuple #[.int .u32 0, .int .i64 (sendE S k)]) ∧ Hold w' (snA b S :: L) := by
  obtain ⟨f, rows, ro, rc, vs, hRg, hm, hl, h1⟩ := sn_open h
  have P := none_h b S hS w _ _ _ _ h1
  have PF := full_ok b f S.L.length S.store rc ro w _ _ h1
  obtain ⟨-, -, -, -, -, -, -, -, g8, -⟩ := snM h1
  have H0 := Lib.hid h
  clear hRg hm hl h1 h
  have hki : (k : Int) ≤ 9223372036854775807 := by omega
  by_cases h1 : 64 < k
  · have h1' : 64 < (k : Int) := by omega
    have e : sendE S k = 6 := by unfold sendE; rw [if_pos h1]
    rw [e]
    clear e he hk h1
    go_enter Try.func10, Try.ntmps10
    go_wp2_with (go_at_call 25; with_reducible refine P.mono ?_; rintro e w1 ⟨rfl, rfl⟩)
    go_ret2
    exact ⟨rfl, H0.out⟩
  by_cases h2 : S.fin = 4294967295
  · have e : sendE S k = 4 := by unfold sendE; rw [if_neg h1, if_pos h2]
    rw [e]
    have h1' : (k : Int) ≤ 64 := by omega
    obtain ⟨F, hF⟩ : ∃ F : Int, (S.fin : Int) = F := ⟨_, rfl⟩
    have h2' : (F == 4294967295) = true := by rw [← hF, h2]; rfl
    simp only [hF] at g8
    clear e he h2 hk h1 hF
    go_enter Try.func10, Try.ntmps10
    go_wp2_with (go_at_call 25; with_reducible refine P.mono ?_; rintro e w1 ⟨rfl, rfl⟩)
    go_ret2
    exact ⟨rfl, H0.out⟩
  by_cases h3 : S.L.length = S.store
  · have e : sendE S k = 2 := by unfold sendE; rw [if_neg h1, if_neg h2, if_pos h3]
    rw [e]
    have h1' : (k : Int) ≤ 64 := by omega
    obtain ⟨F, hF⟩ : ∃ F : Int, (S.fin : Int) = F := ⟨_, rfl⟩
    have h2' : (F == 4294967295) = false := by rw [beq_eq_false_iff_ne]; omega
    simp only [hF] at g8
    clear hF
    rw [show ((S.L.length : Int) == S.store) = true by rw [h3]; simp] at PF
    clear e he h2 h3 hk h1
    go_enter Try.func10, Try.ntmps10
    go_wp2_with (first
      | (go_at_call 25; with_reducible refine P.mono ?_; rintro e w1 ⟨rfl, rfl⟩)
      | (go_at_call 26; with_reducible refine PF.mono ?_; rintro e w2 ⟨rfl, rfl⟩))
    go_ret2
    exact ⟨rfl, H0.out.drew⟩
  · exfalso; apply he; unfold sendE; rw [if_neg h1, if_neg h2, if_neg h3]

end Go.Proofs.Ytjnjbmkkfkdhcaa
