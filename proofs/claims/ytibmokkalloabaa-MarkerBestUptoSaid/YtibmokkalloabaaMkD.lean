/- Contracts: what a marker is worth at a place. -/
import Derived.Test.YtibmokkalloabaaMkC
open Go.RowKit Go.Own
namespace Go.Proofs.Ytibmokkalloabaa

/-- What the first k bits are worth. -/
def atS (N : Int) (B n : Nat) (ys : List UInt8) : Nat → Int
  | 0 => 0
  | k + 1 => atS N B n ys k + wgt N (bitOf B n k) (ys.getD k 0).toNat

theorem wgt_bound {N : Int} (h0 : 0 ≤ N) (h1 : N ≤ 16) (b l : Nat) (hl : l < 256) : -600 ≤ wgt N b l ∧ wgt N b l ≤ 600 := by
  unfold wgt; split <;> omega
theorem atS_bound {N : Int} (h0 : 0 ≤ N) (h1 : N ≤ 16) (B n : Nat) (ys : List UInt8) : ∀ k : Nat, -600 * (k : Int) ≤ atS N B n ys k ∧ atS N B n ys k ≤ 600 * (k : Int)
  | 0 => by simp [atS]
  | k + 1 => by
    have h2 := atS_bound h0 h1 B n ys k
    have h3 := wgt_bound h0 h1 (bitOf B n k) (ys.getD k 0).toNat (UInt8.toNat_lt _)
    simp only [atS]
    omega

def AtRel (N : Int) (B n : Nat) (ys : List UInt8) (R : List Asn) (i s : Value) (wr : World) : Prop := ∃ k : Nat, k ≤ n ∧ i = .int .i64 k ∧ s = .int .i64 (atS N B n ys k) ∧ Hold wr R

set_option maxHeartbeats 1000000 in
set_option maxRecDepth 20000 in
theorem at_ok (N : Int) (B n : Nat) (h0 : 0 ≤ N) (h1 : N ≤ 16) (hB : B < 18446744073709551616) (hn : n ≤ 64) (ys : List UInt8) (C : Asn) (ao : Option Addr) (m cap : Nat) (hR : Reads C 1 (.slice ao m cap) m (ub ys)) (hm : n ≤ m) (f : Nat) (w : World) (L : List Asn) (h : Hold w (cellsA f 3 [.int .i64 N] :: C :: L)) :
    Calls Try.prog 39 #[.agg #[.int .u64 B, .int .i64 n], .slice ao m cap, .func (.func 43) #[] #[.pointer (some ⟨f, 0, none⟩)]] w fun e w' => e = .returned (.int .i64 (atS N B n ys n)) ∧ Hold w' (cellsA f 3 [.int .i64 N] :: C :: L) := by
  obtain ⟨S0, r0⟩ := (h.mv 1).reads hR
  obtain ⟨b1, b2, b3⟩ := r0.bounds
  have hyn : ys.length = m := by simpa using b1
  have HY := Lib.hid hyn
  clear r0 b1 b2 b3 hyn
  have hb := h.box 24 [.int .u64 B, .int .i64 n]
  have hb := hb
  go_enter Try.func39, Try.ntmps39
  go_upto_region 1 with (fail)
  refine gen_world hb (fun w1 hb => ?_)
  generalize w.heap.size = q at *
  obtain ⟨g0, g1⟩ := loadM hb
  go_wp2
  clear g0 g1
  go_loopw [11, 7] (fun i s wr => AtRel N B n ys (cellsA q 24 [.int .u64 B, .int .i64 n] :: cellsA f 3 [.int .i64 N] :: C :: L) i s wr) (fun i _ _ => n - (intOf i).toNat)
  case atStart => exact ⟨0, by omega, rfl, rfl, hb⟩
  case round =>
    clear h hb
    obtain ⟨k, hk, rfl, rfl, hr⟩ := hrel
    by_cases hlt : k < n
    · have hki : (k : Int) < n := by omega
      have hkm : (k : Int) < m := by omega
      have hky : k < ys.length := by have := HY.out; omega
      obtain ⟨S, hrd⟩ := (hr.mv 2).reads hR
      obtain ⟨rb, ro, rfl, -, -, hcs⟩ := hrd.addr (by omega)
      have eg : ys.getD k 0 = ys[k] := by simp [List.getD, hky]
      have G : ∀ W, Hold W (cellsA q 24 [.int .u64 B, .int .i64 n] :: cellsA f 3 [.int .i64 N] :: C :: L) → W.cell? ⟨rb, ro + k, none⟩ = some (.int .u8 ((ys.getD k 0).toNat : Nat)) := fun W hW => by
        obtain ⟨S2, hrd2⟩ := (hW.mv 2).reads hR
        obtain ⟨rb2, ro2, he, -, -, hcs2⟩ := hrd2.addr (by omega)
        simp only [Option.some.injEq, Addr.mk.injEq, and_true] at he
        obtain ⟨rfl, rfl⟩ := he
        rw [eg]
        exact (hcs2 k (by omega)).trans (ub_get ys k hky)
      have hs := atS_bound h0 h1 B n ys k
      have hw := wgt_bound h0 h1 (bitOf B n k) (ys.getD k 0).toNat (UInt8.toNat_lt _)
      have hS := hr.drew
      have c0 := G _ hS
      have hz : (ys.getD k 0).toNat < 256 := UInt8.toNat_lt _
      have hbit : bitOf B n k < 256 := by unfold bitOf; omega
      have P1 := fun w L h => bit_ok B n k hB hn hlt w L h
      have HN : atS N B n ys (k + 1) = atS N B n ys k + wgt N (bitOf B n k) (ys.getD k 0).toNat := rfl
      have HN := Lib.hid HN
      generalize (ys.getD k 0).toNat = z at *
      have P2 := fun w L h => weigh_ok N (bitOf B n k) z h0 h1 hbit hz f w L h
      generalize bitOf B n k = bb at *
      generalize wgt N bb z = wz at *
      generalize atS N B n ys k = s at *
      have W1 : IntKind.i64.wrap (s + wz) = s + wz := IntWalk.i64_in _ (by omega)
      have HG := Lib.hid G
      clear G hcs hrd eg
      obtain ⟨g0, g1⟩ := loadM hS
      go_upto_region 5 with (fail)
      refine wp_region_Z (fun W => W.cell? ⟨q, 0, none⟩ = some (.int .u64 B) ∧ W.cell? ⟨q, 1, none⟩ = some (.int .i64 n) ∧ W.cell? ⟨rb, ro + k, none⟩ = some (.int .u8 z)) [2, 8] [] [0, 1, 3, 5, 6, 7, 10, 11] [0, 1, 2, 3, 5, 6, 7, 8, 4, 9, 10, 11] (by kernel_rfl) (by kernel_rfl) ?_
      (repeat (first | (refine wpZ_st (v := ?_) _ (by rfl) (by rfl) (by rfl) (fun W hW => ?_) ⟨g0, g1, c0⟩ ?_; (rotate_left; (focus ((try dsimp only at hW); go_simp; (try with_reducible rfl); done))); try simp only [Act.put, List.getElem_toArray, List.getElem_cons_zero, List.getElem_cons_succ, List.setIfInBounds_toArray, List.set_cons_zero, List.set_cons_succ]) | (refine wpZ_pu (v := ?_) _ (by rfl) (by rfl) (by rfl) (by rfl) (fun W => ?_) ?_; (rotate_left; (focus ((try dsimp only at hW); go_simp; (try with_reducible rfl); done))); try simp only [Act.put, List.getElem_toArray, List.getElem_cons_zero, List.getElem_cons_succ, List.setIfInBounds_toArray, List.set_cons_zero, List.set_cons_succ]) | (refine wpZ_no _ (by rfl) (by rfl) (by rfl) (by rfl) ?_; try simp only [Act.put, List.getElem_toArray, List.getElem_cons_zero, List.getElem_cons_succ, List.setIfInBounds_toArray, List.set_cons_zero, List.set_cons_succ]) | (refine wpZ_noS _ (by rfl) (by rfl) (by rfl) ⟨g0, g1, c0⟩ ?_; try simp only [Act.put, List.getElem_toArray, List.getElem_cons_zero, List.getElem_cons_succ, List.setIfInBounds_toArray, List.set_cons_zero, List.set_cons_succ])))
      refine wpZ_eff _ (by rfl) (by rfl) (by rfl) (by rfl) (fun K hK => ?_)
      go_simp
      refine (P1 _ _ hS).mono ?_
      rintro e w5 ⟨rfl, h5⟩
      have c5 := HG.out _ h5
      dsimp only
      (refine hK _ _ (fun hl => ?_) ?_; (first | (focus (cases hl; done)) | exact ⟨(loadM h5).1, (loadM h5).2, c5⟩); clear hK K; try simp only [Act.put, List.getElem_toArray, List.getElem_cons_zero, List.getElem_cons_succ, List.setIfInBounds_toArray, List.set_cons_zero, List.set_cons_succ])
      (repeat (first | (refine wpZ_st (v := ?_) _ (by rfl) (by rfl) (by rfl) (fun W hW => ?_) (⟨(loadM h5).1, (loadM h5).2, c5⟩ : w5.cell? ⟨q, 0, none⟩ = some (.int .u64 B) ∧ w5.cell? ⟨q, 1, none⟩ = some (.int .i64 n) ∧ w5.cell? ⟨rb, ro + k, none⟩ = some (.int .u8 z)) ?_; (rotate_left; (focus ((try dsimp only at hW); go_simp; (try with_reducible rfl); done))); try simp only [Act.put, List.getElem_toArray, List.getElem_cons_zero, List.getElem_cons_succ, List.setIfInBounds_toArray, List.set_cons_zero, List.set_cons_succ]) | (refine wpZ_pu (v := ?_) _ (by rfl) (by rfl) (by rfl) (by rfl) (fun W => ?_) ?_; (rotate_left; (focus ((try dsimp only at hW); go_simp; (try with_reducible rfl); done))); try simp only [Act.put, List.getElem_toArray, List.getElem_cons_zero, List.getElem_cons_succ, List.setIfInBounds_toArray, List.set_cons_zero, List.set_cons_succ]) | (refine wpZ_no _ (by rfl) (by rfl) (by rfl) (by rfl) ?_; try simp only [Act.put, List.getElem_toArray, List.getElem_cons_zero, List.getElem_cons_succ, List.setIfInBounds_toArray, List.set_cons_zero, List.set_cons_succ]) | (refine wpZ_noS _ (by rfl) (by rfl) (by rfl) (⟨(loadM h5).1, (loadM h5).2, c5⟩ : w5.cell? ⟨q, 0, none⟩ = some (.int .u64 B) ∧ w5.cell? ⟨q, 1, none⟩ = some (.int .i64 n) ∧ w5.cell? ⟨rb, ro + k, none⟩ = some (.int .u8 z)) ?_; try simp only [Act.put, List.getElem_toArray, List.getElem_cons_zero, List.getElem_cons_succ, List.setIfInBounds_toArray, List.set_cons_zero, List.set_cons_succ])))
      refine wpZ_eff _ (by rfl) (by rfl) (by rfl) (by rfl) (fun K hK => ?_)
      go_simp
      refine (P2 _ _ (h5.mv 1)).mono ?_
      rintro e w6 ⟨rfl, rfl⟩
      dsimp only
      (refine hK _ _ (fun hl => ?_) ?_; (first | (focus (cases hl; done)) | exact ⟨(loadM h5).1, (loadM h5).2, c5⟩); clear hK K; try simp only [Act.put, List.getElem_toArray, List.getElem_cons_zero, List.getElem_cons_succ, List.setIfInBounds_toArray, List.set_cons_zero, List.set_cons_succ])
      (repeat (first | (refine wpZ_st (v := ?_) _ (by rfl) (by rfl) (by rfl) (fun W hW => ?_) (⟨(loadM h5).1, (loadM h5).2, c5⟩ : w5.cell? ⟨q, 0, none⟩ = some (.int .u64 B) ∧ w5.cell? ⟨q, 1, none⟩ = some (.int .i64 n) ∧ w5.cell? ⟨rb, ro + k, none⟩ = some (.int .u8 z)) ?_; (rotate_left; (focus ((try dsimp only at hW); go_simp; (try with_reducible rfl); done))); try simp only [Act.put, List.getElem_toArray, List.getElem_cons_zero, List.getElem_cons_succ, List.setIfInBounds_toArray, List.set_cons_zero, List.set_cons_succ]) | (refine wpZ_pu (v := ?_) _ (by rfl) (by rfl) (by rfl) (by rfl) (fun W => ?_) ?_; (rotate_left; (focus ((try dsimp only at hW); go_simp; (try with_reducible rfl); done))); try simp only [Act.put, List.getElem_toArray, List.getElem_cons_zero, List.getElem_cons_succ, List.setIfInBounds_toArray, List.set_cons_zero, List.set_cons_succ]) | (refine wpZ_no _ (by rfl) (by rfl) (by rfl) (by rfl) ?_; try simp only [Act.put, List.getElem_toArray, List.getElem_cons_zero, List.getElem_cons_succ, List.setIfInBounds_toArray, List.set_cons_zero, List.set_cons_succ]) | (refine wpZ_noS _ (by rfl) (by rfl) (by rfl) (⟨(loadM h5).1, (loadM h5).2, c5⟩ : w5.cell? ⟨q, 0, none⟩ = some (.int .u64 B) ∧ w5.cell? ⟨q, 1, none⟩ = some (.int .i64 n) ∧ w5.cell? ⟨rb, ro + k, none⟩ = some (.int .u8 z)) ?_; try simp only [Act.put, List.getElem_toArray, List.getElem_cons_zero, List.getElem_cons_succ, List.setIfInBounds_toArray, List.set_cons_zero, List.set_cons_succ])))
      (simp only [wpZ])
      go_wp2
      go_roundw
      case rel => exact ⟨k + 1, by omega, by go_num, by rw [HN.out], h5⟩
      case measure => simp [intOf]; omega
    · obtain rfl : n = k := by omega
      go_wp2
      go_ret
      exact ⟨rfl, hr.drop⟩

end Go.Proofs.Ytibmokkalloabaa
