/- Contracts: a row of one's own; a sender at work. -/
import Derived.Test.YtjnjbmkkfkdhcaaSeJ
import Derived.Test.YtjnjbmkkfkdhcaaRows
open Go.RowKit Go.Own
namespace Go.Proofs.Ytjnjbmkkfkdhcaa

theorem cells_reads (T : TypeId) (b n sz : Nat) (xs : List Value) (hl : xs.length = n * sz) (hm : n ≤ maxLen) : Reads (cellsA b T xs) sz (.slice (some ⟨b, 0, none⟩) n n) n xs := by
  rintro B w ⟨rfl, h⟩
  refine ⟨[b], ⟨hl, some ⟨b, 0, none⟩, n, rfl, Nat.le_refl _, hm, .inr ⟨b, 0, rfl, rfl, h.lt, fun j _ => by rw [Nat.zero_add]; exact h.cell j⟩⟩, fun _ h => h⟩
theorem Reads.front {E : TypeId} {ao : Option Addr} {n m cap : Nat} {xs ys : List Value} (hn : xs.length = n) : Reads (rowA E 1 ao (n + m) cap (xs ++ ys)) 1 (.slice ao n cap) n xs := by
  intro B w hB
  have h := Own.rd hB
  obtain ⟨h1, ao', cap', hv, h2, h3, h4⟩ := h
  simp only [Value.slice.injEq] at hv
  obtain ⟨rfl, -, rfl⟩ := hv
  refine ⟨B, ⟨by omega, ao, cap, rfl, by omega, h3, ?_⟩, fun _ h => h⟩
  rcases h4 with h4 | ⟨b, o, e1, e2, e3, h4⟩
  · exact .inl (by omega)
  · exact .inr ⟨b, o, e1, e2, e3, fun j hj => by rw [h4 j (by omega), List.getElem?_append_left (by omega)]⟩

/-- A row of one's own, with a mark behind it. -/
def ownA (ao : Option Addr) (n cap : Nat) (ys : List UInt8) : Asn := rowA 5 1 ao (n + 1) cap (ub ys ++ [.int .u8 201])
theorem ownA_reads {ao : Option Addr} {n cap : Nat} {ys : List UInt8} (hn : ys.length = n) : Reads (ownA ao n cap ys) 1 (.slice ao n cap) n (ub ys) := Reads.front (by simpa using hn)

set_option maxRecDepth 20000 in
theorem own_ok (ys : List UInt8) (C : Asn) (ao : Option Addr) (n cap : Nat) (hR : Reads C 1 (.slice ao n cap) n (ub ys)) (hn : n ≤ 140737488351232) (w : World) (L : List Asn) (h : Hold w (C :: L)) :
    Calls Try.prog 11 #[.slice ao n cap] w fun e w' => ∃ ao' cap', e = .returned (.slice ao' n cap') ∧ Hold w' (ownA ao' n cap' ys :: C :: L) := by
  obtain ⟨i5, hi, hz0, hz1, hz2⟩ := info_parts info5
  obtain ⟨S0, r0⟩ := h.reads hR
  have hb := h.box 5 []
  have HU := Lib.hid (ub_one ys)
  go_enter Try.func11, Try.ntmps11
  go_wp2_with (first
    | ((with_reducible refine wpList_plain (o := ⟨some 5, _, _, _, _, _⟩) rfl (fun K hK => ?_)); refine wp_append_new_h (w := w) _ _ 32 (by rfl) 5 i5 (.int .u8 0) 1 1 Try.underlying32 hi hz0 hz1 hz2 (by rfl) h (by rfl) ⟨rfl, rfl, rfl, rfl⟩ _ (by rfl) n (ub ys) S0 r0 HU.out (by unfold maxLen; omega) (by omega) (fun ao1 cap1 w1 h1 hc1 => ?_); refine hK _ _ ?_; clear hK K; have h2 := h1.box 5 [.int .u8 201]; obtain ⟨S1, r1⟩ := h2.reads (cells_reads 5 w1.heap.size 1 1 _ (by rfl) (by unfold maxLen; omega)))
    | ((with_reducible refine wpList_plain (o := ⟨some 7, _, _, _, _, _⟩) rfl (fun K hK => ?_)); refine wp_append_src_h _ _ 32 (by rfl) 5 i5 (.int .u8 0) 1 1 Try.underlying32 hi hz0 hz1 hz2 (by rfl) _ n _ _ (by rfl) (h2.mv 1) _ (by rfl) 1 [.int .u8 201] S1 r1 (by simp [Value.oneCell']) (by unfold maxLen; omega) (by omega) (fun ao2 cap2 w2 h3 hc2 => ?_); refine hK _ _ ?_; clear hK K))
  go_ret
  exact ⟨ao2, cap2, rfl, (h3.mv 1).drop⟩

end Go.Proofs.Ytjnjbmkkfkdhcaa
