/- The contract of asks: the calls that draw their order, and every call. -/
import Derived.Test.YtlfchokafpodcaaChanA
open Go.RowKit Go.Own
namespace Go.Proofs.Ytlfchokafpodcaa

set_option maxHeartbeats 1000000 in
theorem asks_set (so : Option CS) (pv qv : Value) (F G : List Nat) (V : Value) (N : Int) (lev : UInt8) (w : World) (hp : PCh w pv so F) (hq : RCh w qv so G) (hd : ∀ k, k ∈ F → k ∉ G) :
    Calls Try.prog 23 #[pv, qv, .agg #[.int .i64 3, V, .int .i64 N, .int .u8 lev.toNat]] w (APost w pv qv F G) := by
  have hb := Blk.new w 39 [.int .i64 3, V, .int .i64 N, .int .u8 lev.toNat]
  have hal : Fr [] w (w.alloc (.cells [.int .i64 3, V, .int .i64 N, .int .u8 lev.toNat].toArray 39)) := (Fr.refl _ _).alloc _
  have hp1 := hp.fr hal (by simp)
  have hq1 := hq.fr hal (by simp)
  have hpl := hp.lt
  have hql := hq.lt
  have hsz : (w.alloc (.cells [.int .i64 3, V, .int .i64 N, .int .u8 lev.toNat].toArray 39)).heap.size = w.heap.size + 1 := by simp
  simp only [List.toArray] at hb hal hp1 hq1 hsz
  go_enter Try.func23, Try.ntmps23
  go_upto_region 18 with (fail)
  generalize (w.alloc (.cells #[.int .i64 3, V, .int .i64 N, .int .u8 lev.toNat] 39)) = w1 at *
  have hbF : w.heap.size ∉ F := fun h => by have := hpl _ h; omega
  have hbG : w.heap.size ∉ G := fun h => by have := hql _ h; omega
  have C2 : ∀ W, Blk W w.heap.size 39 [.int .i64 3, V, .int .i64 N, .int .u8 lev.toNat] → W.cell? ⟨w.heap.size, 2, none⟩ = some (.int .i64 N) := fun W h => by simpa using h.cell 2
  have C3 : ∀ W, Blk W w.heap.size 39 [.int .i64 3, V, .int .i64 N, .int .u8 lev.toNat] → W.cell? ⟨w.heap.size, 3, none⟩ = some (.int .u8 lev.toNat) := fun W h => by simpa using h.cell 3
  have hb1 := hb.fr (F := []) ((Fr.refl _ _).drew) (by simp)
  have hp1' := hp1.fr (H := []) ((Fr.refl _ _).drew) (by simp)
  have hq1' := hq1.fr (H := []) ((Fr.refl _ _).drew) (by simp)
  have hal1 : Fr [] w w1.drew := hal.trans ((Fr.refl [] _).drew) (by simp)
  have hsz1 : w1.drew.heap.size = w.heap.size + 1 := by simpa using hsz
  clear hb hp1 hq1 hal hp hq
  refine wp_region_X (fun W => Blk W w.heap.size 39 [.int .i64 3, V, .int .i64 N, .int .u8 lev.toNat]) [0, 1, 2, 3, 4, 7, 8, 9, 10, 11, 13] [14] [0, 1, 2, 3, 4, 7, 8, 9, 10, 11, 5, 6, 12, 13, 14] (by kernel_rfl) (by kernel_rfl) ?_
  generalize w1.drew = w1 at *
  have hpp := pset so pv F N lev w1 hp1'
  generalize hRR : setR so N lev = R at hpp
  have HR := Lib.hid hRR
  clear hRR
  (repeat (refine wpX_st (v := ?_) _ (by rfl) (by rfl) (by rfl) (fun W hW => ?_) hb1 ?_; rotate_left; (focus ((try dsimp only at hW); go_simp; (try with_reducible rfl); done)); try simp only [Act.put, List.getElem_toArray, List.getElem_cons_zero, List.getElem_cons_succ, List.setIfInBounds_toArray, List.set_cons_zero, List.set_cons_succ]))
  refine wpX_eff _ (by rfl) (by rfl) (by rfl) (fun K hK => ?_)
  go_simp
  refine hpp.mono ?_
  rintro e w2 ⟨rfl, F', hp2, hf12, hF'⟩
  have hb2 := hb1.fr hf12 (by simpa using hbF)
  dsimp only
  (refine hK _ _ (fun hl => ?_) ?_; (first | (focus (cases hl; done)) | exact hb2); clear hK K; try simp only [Act.put, List.getElem_toArray, List.getElem_cons_zero, List.getElem_cons_succ, List.setIfInBounds_toArray, List.set_cons_zero, List.set_cons_succ])
  refine wpX_eff _ (by rfl) (by rfl) (by rfl) (fun K hK => ?_)
  go_simp
  refine (num_any _ _).mono ?_
  rintro e w' ⟨rfl, rfl⟩
  dsimp only
  (refine hK _ _ (fun hl => ?_) ?_; (first | (focus (cases hl; done)) | exact hb2); clear hK K; try simp only [Act.put, List.getElem_toArray, List.getElem_cons_zero, List.getElem_cons_succ, List.setIfInBounds_toArray, List.set_cons_zero, List.set_cons_succ])
  have hq2 := hq1'.fr hf12 (fun k h1 h2 => hd k h2 h1)
  have hF'G : ∀ k, k ∈ F' → k ∉ G := fun k h1 h2 => by
    rcases hF' k h1 with h | h
    · exact hd k h h2
    · have := hql k h2; omega
  have hqq := rset so qv G N lev w2 hq2
  rw [HR.out] at hqq
  refine wpX_eff _ (by rfl) (by rfl) (by rfl) (fun K hK => ?_)
  go_simp
  refine hqq.mono ?_
  rintro e w3 ⟨rfl, G', hq3, hf23, hG'⟩
  have hb3 := hb2.fr hf23 (by simpa using hbG)
  dsimp only
  (refine hK _ _ (fun hl => ?_) ?_; (first | (focus (cases hl; done)) | exact hb3); clear hK K; try simp only [Act.put, List.getElem_toArray, List.getElem_cons_zero, List.getElem_cons_succ, List.setIfInBounds_toArray, List.set_cons_zero, List.set_cons_succ])
  (repeat (refine wpX_st (v := ?_) _ (by rfl) (by rfl) (by rfl) (fun W hW => ?_) hb3 ?_; rotate_left; (focus ((try dsimp only at hW); go_simp; (try with_reducible rfl); done)); try simp only [Act.put, List.getElem_toArray, List.getElem_cons_zero, List.getElem_cons_succ, List.setIfInBounds_toArray, List.set_cons_zero, List.set_cons_succ]))
  (refine wpX_eff _ (by rfl) (by rfl) (by rfl) (fun K hK => ?_); go_simp; refine hK _ _ (fun hl => ?_) ?_; (first | (focus (cases hl; done)) | exact hb3); clear hK K; try simp only [Act.put, List.getElem_toArray, List.getElem_cons_zero, List.getElem_cons_succ, List.setIfInBounds_toArray, List.set_cons_zero, List.set_cons_succ])
  (simp only [wpX])
  have hF'G' : ∀ k, k ∈ F' → k ∉ G' := fun k h1 h2 => by
    rcases hG' k h2 with h | h
    · exact hF'G k h1 h
    · have := hp2.lt k h1; omega
  have hp3 := hp2.fr hf23 hF'G
  have hlk := looks_ok R.2 pv qv F' G' w3 hp3 hq3
  clear C2 C3 hb1 hb2 hb3
  go_wp2_with (go_at_call 22; refine hlk.mono ?_; rintro e w7 ⟨rfl, hf67⟩)
  go_ret
  refine ⟨rfl, R.2, F', G', hp3.fr hf67 (by simp), hq3.fr hf67 (by simp), hF'G', ?_, ?_, ?_⟩
  · exact ((hal1.nil.trans (hf12.mono (fun _ h => List.mem_append_left _ h)) (fun k h => .inl h)).trans hf23 (fun k h => .inl (List.mem_append_right _ h))).trans hf67 (by simp)
  · intro k hk
    rcases hF' k hk with h | h
    · exact .inl h
    · exact .inr (by omega)
  · intro k hk
    rcases hG' k hk with h | h
    · exact .inl h
    · have := hf12.size; exact .inr (by omega)

set_option maxHeartbeats 1000000 in
theorem asks_slip (so : Option CS) (pv qv : Value) (F G : List Nat) (V : Value) (N : Int) (lev : UInt8) (w : World) (hp : PCh w pv so F) (hq : RCh w qv so G) (hd : ∀ k, k ∈ F → k ∉ G) :
    Calls Try.prog 23 #[pv, qv, .agg #[.int .i64 4, V, .int .i64 N, .int .u8 lev.toNat]] w (APost w pv qv F G) := by
  have hb := Blk.new w 39 [.int .i64 4, V, .int .i64 N, .int .u8 lev.toNat]
  have hal : Fr [] w (w.alloc (.cells [.int .i64 4, V, .int .i64 N, .int .u8 lev.toNat].toArray 39)) := (Fr.refl _ _).alloc _
  have hp1 := hp.fr hal (by simp)
  have hq1 := hq.fr hal (by simp)
  have hpl := hp.lt
  have hql := hq.lt
  have hsz : (w.alloc (.cells [.int .i64 4, V, .int .i64 N, .int .u8 lev.toNat].toArray 39)).heap.size = w.heap.size + 1 := by simp
  simp only [List.toArray] at hb hal hp1 hq1 hsz
  go_enter Try.func23, Try.ntmps23
  go_upto_region 20 with (fail)
  generalize (w.alloc (.cells #[.int .i64 4, V, .int .i64 N, .int .u8 lev.toNat] 39)) = w1 at *
  have hbF : w.heap.size ∉ F := fun h => by have := hpl _ h; omega
  have hbG : w.heap.size ∉ G := fun h => by have := hql _ h; omega
  have C2 : ∀ W, Blk W w.heap.size 39 [.int .i64 4, V, .int .i64 N, .int .u8 lev.toNat] → W.cell? ⟨w.heap.size, 2, none⟩ = some (.int .i64 N) := fun W h => by simpa using h.cell 2
  have C3 : ∀ W, Blk W w.heap.size 39 [.int .i64 4, V, .int .i64 N, .int .u8 lev.toNat] → W.cell? ⟨w.heap.size, 3, none⟩ = some (.int .u8 lev.toNat) := fun W h => by simpa using h.cell 3
  have hb1 := hb.fr (F := []) ((Fr.refl _ _).drew) (by simp)
  have hp1' := hp1.fr (H := []) ((Fr.refl _ _).drew) (by simp)
  have hq1' := hq1.fr (H := []) ((Fr.refl _ _).drew) (by simp)
  have hal1 : Fr [] w w1.drew := hal.trans ((Fr.refl [] _).drew) (by simp)
  have hsz1 : w1.drew.heap.size = w.heap.size + 1 := by simpa using hsz
  clear hb hp1 hq1 hal hp hq
  refine wp_region_X (fun W => Blk W w.heap.size 39 [.int .i64 4, V, .int .i64 N, .int .u8 lev.toNat]) [0, 1, 2, 5, 6, 7, 9] [10] [0, 1, 2, 5, 6, 7, 3, 4, 8, 9, 10] (by kernel_rfl) (by kernel_rfl) ?_
  generalize w1.drew = w1 at *
  have hpp := pslip so pv F N w1 hp1'
  generalize hRR : slipR so N = R at hpp
  have HR := Lib.hid hRR
  clear hRR
  (repeat (refine wpX_st (v := ?_) _ (by rfl) (by rfl) (by rfl) (fun W hW => ?_) hb1 ?_; rotate_left; (focus ((try dsimp only at hW); go_simp; (try with_reducible rfl); done)); try simp only [Act.put, List.getElem_toArray, List.getElem_cons_zero, List.getElem_cons_succ, List.setIfInBounds_toArray, List.set_cons_zero, List.set_cons_succ]))
  refine wpX_eff _ (by rfl) (by rfl) (by rfl) (fun K hK => ?_)
  go_simp
  refine hpp.mono ?_
  rintro e w2 ⟨rfl, F', hp2, hf12, hF'⟩
  have hb2 := hb1.fr hf12 (by simpa using hbF)
  dsimp only
  (refine hK _ _ (fun hl => ?_) ?_; (first | (focus (cases hl; done)) | exact hb2); clear hK K; try simp only [Act.put, List.getElem_toArray, List.getElem_cons_zero, List.getElem_cons_succ, List.setIfInBounds_toArray, List.set_cons_zero, List.set_cons_succ])
  refine wpX_eff _ (by rfl) (by rfl) (by rfl) (fun K hK => ?_)
  go_simp
  refine (num_any _ _).mono ?_
  rintro e w' ⟨rfl, rfl⟩
  dsimp only
  (refine hK _ _ (fun hl => ?_) ?_; (first | (focus (cases hl; done)) | exact hb2); clear hK K; try simp only [Act.put, List.getElem_toArray, List.getElem_cons_zero, List.getElem_cons_succ, List.setIfInBounds_toArray, List.set_cons_zero, List.set_cons_succ])
  have hq2 := hq1'.fr hf12 (fun k h1 h2 => hd k h2 h1)
  have hF'G : ∀ k, k ∈ F' → k ∉ G := fun k h1 h2 => by
    rcases hF' k h1 with h | h
    · exact hd k h h2
    · have := hql k h2; omega
  have hqq := rslip so qv G N w2 hq2
  rw [HR.out] at hqq
  refine wpX_eff _ (by rfl) (by rfl) (by rfl) (fun K hK => ?_)
  go_simp
  refine hqq.mono ?_
  rintro e w3 ⟨rfl, G', hq3, hf23, hG'⟩
  have hb3 := hb2.fr hf23 (by simpa using hbG)
  dsimp only
  (refine hK _ _ (fun hl => ?_) ?_; (first | (focus (cases hl; done)) | exact hb3); clear hK K; try simp only [Act.put, List.getElem_toArray, List.getElem_cons_zero, List.getElem_cons_succ, List.setIfInBounds_toArray, List.set_cons_zero, List.set_cons_succ])
  (repeat (refine wpX_st (v := ?_) _ (by rfl) (by rfl) (by rfl) (fun W hW => ?_) hb3 ?_; rotate_left; (focus ((try dsimp only at hW); go_simp; (try with_reducible rfl); done)); try simp only [Act.put, List.getElem_toArray, List.getElem_cons_zero, List.getElem_cons_succ, List.setIfInBounds_toArray, List.set_cons_zero, List.set_cons_succ]))
  (refine wpX_eff _ (by rfl) (by rfl) (by rfl) (fun K hK => ?_); go_simp; refine hK _ _ (fun hl => ?_) ?_; (first | (focus (cases hl; done)) | exact hb3); clear hK K; try simp only [Act.put, List.getElem_toArray, List.getElem_cons_zero, List.getElem_cons_succ, List.setIfInBounds_toArray, List.set_cons_zero, List.set_cons_succ])
  (simp only [wpX])
  have hF'G' : ∀ k, k ∈ F' → k ∉ G' := fun k h1 h2 => by
    rcases hG' k h2 with h | h
    · exact hF'G k h1 h
    · have := hp2.lt k h1; omega
  have hp3 := hp2.fr hf23 hF'G
  have hlk := looks_ok R.2 pv qv F' G' w3 hp3 hq3
  clear C2 C3 hb1 hb2 hb3
  go_wp2_with (go_at_call 22; refine hlk.mono ?_; rintro e w7 ⟨rfl, hf67⟩)
  go_ret
  refine ⟨rfl, R.2, F', G', hp3.fr hf67 (by simp), hq3.fr hf67 (by simp), hF'G', ?_, ?_, ?_⟩
  · exact ((hal1.nil.trans (hf12.mono (fun _ h => List.mem_append_left _ h)) (fun k h => .inl h)).trans hf23 (fun k h => .inl (List.mem_append_right _ h))).trans hf67 (by simp)
  · intro k hk
    rcases hF' k hk with h | h
    · exact .inl h
    · exact .inr (by omega)
  · intro k hk
    rcases hG' k hk with h | h
    · exact .inl h
    · have := hf12.size; exact .inr (by omega)

set_option maxHeartbeats 1000000 in
theorem asks_insert (so : Option CS) (pv qv : Value) (F G : List Nat) (V : Value) (N : Int) (lev : UInt8) (w : World) (hp : PCh w pv so F) (hq : RCh w qv so G) (hd : ∀ k, k ∈ F → k ∉ G) :
    Calls Try.prog 23 #[pv, qv, .agg #[.int .i64 5, V, .int .i64 N, .int .u8 lev.toNat]] w (APost w pv qv F G) := by
  have hb := Blk.new w 39 [.int .i64 5, V, .int .i64 N, .int .u8 lev.toNat]
  have hal : Fr [] w (w.alloc (.cells [.int .i64 5, V, .int .i64 N, .int .u8 lev.toNat].toArray 39)) := (Fr.refl _ _).alloc _
  have hp1 := hp.fr hal (by simp)
  have hq1 := hq.fr hal (by simp)
  have hpl := hp.lt
  have hql := hq.lt
  have hsz : (w.alloc (.cells [.int .i64 5, V, .int .i64 N, .int .u8 lev.toNat].toArray 39)).heap.size = w.heap.size + 1 := by simp
  simp only [List.toArray] at hb hal hp1 hq1 hsz
  go_enter Try.func23, Try.ntmps23
  go_upto_region 22 with (fail)
  generalize (w.alloc (.cells #[.int .i64 5, V, .int .i64 N, .int .u8 lev.toNat] 39)) = w1 at *
  have hbF : w.heap.size ∉ F := fun h => by have := hpl _ h; omega
  have hbG : w.heap.size ∉ G := fun h => by have := hql _ h; omega
  have C2 : ∀ W, Blk W w.heap.size 39 [.int .i64 5, V, .int .i64 N, .int .u8 lev.toNat] → W.cell? ⟨w.heap.size, 2, none⟩ = some (.int .i64 N) := fun W h => by simpa using h.cell 2
  have C3 : ∀ W, Blk W w.heap.size 39 [.int .i64 5, V, .int .i64 N, .int .u8 lev.toNat] → W.cell? ⟨w.heap.size, 3, none⟩ = some (.int .u8 lev.toNat) := fun W h => by simpa using h.cell 3
  have hb1 := hb.fr (F := []) ((Fr.refl _ _).drew) (by simp)
  have hp1' := hp1.fr (H := []) ((Fr.refl _ _).drew) (by simp)
  have hq1' := hq1.fr (H := []) ((Fr.refl _ _).drew) (by simp)
  have hal1 : Fr [] w w1.drew := hal.trans ((Fr.refl [] _).drew) (by simp)
  have hsz1 : w1.drew.heap.size = w.heap.size + 1 := by simpa using hsz
  clear hb hp1 hq1 hal hp hq
  refine wp_region_X (fun W => Blk W w.heap.size 39 [.int .i64 5, V, .int .i64 N, .int .u8 lev.toNat]) [0, 1, 2, 3, 4, 7, 8, 9, 10, 11, 13] [14] [0, 1, 2, 3, 4, 7, 8, 9, 10, 11, 5, 6, 12, 13, 14] (by kernel_rfl) (by kernel_rfl) ?_
  generalize w1.drew = w1 at *
  have hpp := pinsert so pv F N lev w1 hp1'
  generalize hRR : insertR so N lev = R at hpp
  have HR := Lib.hid hRR
  clear hRR
  (repeat (refine wpX_st (v := ?_) _ (by rfl) (by rfl) (by rfl) (fun W hW => ?_) hb1 ?_; rotate_left; (focus ((try dsimp only at hW); go_simp; (try with_reducible rfl); done)); try simp only [Act.put, List.getElem_toArray, List.getElem_cons_zero, List.getElem_cons_succ, List.setIfInBounds_toArray, List.set_cons_zero, List.set_cons_succ]))
  refine wpX_eff _ (by rfl) (by rfl) (by rfl) (fun K hK => ?_)
  go_simp
  refine hpp.mono ?_
  rintro e w2 ⟨rfl, F', hp2, hf12, hF'⟩
  have hb2 := hb1.fr hf12 (by simpa using hbF)
  dsimp only
  (refine hK _ _ (fun hl => ?_) ?_; (first | (focus (cases hl; done)) | exact hb2); clear hK K; try simp only [Act.put, List.getElem_toArray, List.getElem_cons_zero, List.getElem_cons_succ, List.setIfInBounds_toArray, List.set_cons_zero, List.set_cons_succ])
  refine wpX_eff _ (by rfl) (by rfl) (by rfl) (fun K hK => ?_)
  go_simp
  refine (num_any _ _).mono ?_
  rintro e w' ⟨rfl, rfl⟩
  dsimp only
  (refine hK _ _ (fun hl => ?_) ?_; (first | (focus (cases hl; done)) | exact hb2); clear hK K; try simp only [Act.put, List.getElem_toArray, List.getElem_cons_zero, List.getElem_cons_succ, List.setIfInBounds_toArray, List.set_cons_zero, List.set_cons_succ])
  have hq2 := hq1'.fr hf12 (fun k h1 h2 => hd k h2 h1)
  have hF'G : ∀ k, k ∈ F' → k ∉ G := fun k h1 h2 => by
    rcases hF' k h1 with h | h
    · exact hd k h h2
    · have := hql k h2; omega
  have hqq := rinsert so qv G N lev w2 hq2
  rw [HR.out] at hqq
  refine wpX_eff _ (by rfl) (by rfl) (by rfl) (fun K hK => ?_)
  go_simp
  refine hqq.mono ?_
  rintro e w3 ⟨rfl, G', hq3, hf23, hG'⟩
  have hb3 := hb2.fr hf23 (by simpa using hbG)
  dsimp only
  (refine hK _ _ (fun hl => ?_) ?_; (first | (focus (cases hl; done)) | exact hb3); clear hK K; try simp only [Act.put, List.getElem_toArray, List.getElem_cons_zero, List.getElem_cons_succ, List.setIfInBounds_toArray, List.set_cons_zero, List.set_cons_succ])
  (repeat (refine wpX_st (v := ?_) _ (by rfl) (by rfl) (by rfl) (fun W hW => ?_) hb3 ?_; rotate_left; (focus ((try dsimp only at hW); go_simp; (try with_reducible rfl); done)); try simp only [Act.put, List.getElem_toArray, List.getElem_cons_zero, List.getElem_cons_succ, List.setIfInBounds_toArray, List.set_cons_zero, List.set_cons_succ]))
  (refine wpX_eff _ (by rfl) (by rfl) (by rfl) (fun K hK => ?_); go_simp; refine hK _ _ (fun hl => ?_) ?_; (first | (focus (cases hl; done)) | exact hb3); clear hK K; try simp only [Act.put, List.getElem_toArray, List.getElem_cons_zero, List.getElem_cons_succ, List.setIfInBounds_toArray, List.set_cons_zero, List.set_cons_succ])
  (simp only [wpX])
  have hF'G' : ∀ k, k ∈ F' → k ∉ G' := fun k h1 h2 => by
    rcases hG' k h2 with h | h
    · exact hF'G k h1 h
    · have := hp2.lt k h1; omega
  have hp3 := hp2.fr hf23 hF'G
  have hlk := looks_ok R.2 pv qv F' G' w3 hp3 hq3
  clear C2 C3 hb1 hb2 hb3
  go_wp2_with (go_at_call 22; refine hlk.mono ?_; rintro e w7 ⟨rfl, hf67⟩)
  go_ret
  refine ⟨rfl, R.2, F', G', hp3.fr hf67 (by simp), hq3.fr hf67 (by simp), hF'G', ?_, ?_, ?_⟩
  · exact ((hal1.nil.trans (hf12.mono (fun _ h => List.mem_append_left _ h)) (fun k h => .inl h)).trans hf23 (fun k h => .inl (List.mem_append_right _ h))).trans hf67 (by simp)
  · intro k hk
    rcases hF' k hk with h | h
    · exact .inl h
    · exact .inr (by omega)
  · intro k hk
    rcases hG' k hk with h | h
    · exact .inl h
    · have := hf12.size; exact .inr (by omega)


set_option maxHeartbeats 1000000 in
theorem asks_other (so : Option CS) (pv qv : Value) (F G : List Nat) (V : Value) (K N : Int) (lev : UInt8) (w : World) (hp : PCh w pv so F) (hq : RCh w qv so G) (hd : ∀ k, k ∈ F → k ∉ G)
    (hK : ¬ (1 ≤ K ∧ K ≤ 5)) :
    Calls Try.prog 23 #[pv, qv, .agg #[.int .i64 K, V, .int .i64 N, .int .u8 lev.toNat]] w (APost w pv qv F G) := by
  have hal : Fr [] w (w.alloc (.cells #[.int .i64 K, V, .int .i64 N, .int .u8 lev.toNat] 39)) := (Fr.refl _ _).alloc _
  have hp1 := hp.fr hal (by simp)
  have hq1 := hq.fr hal (by simp)
  have k1 : ¬ K = 1 := by omega
  have k2 : ¬ K = 2 := by omega
  have k3 : ¬ K = 3 := by omega
  have k4 : ¬ K = 4 := by omega
  have k5 : ¬ K = 5 := by omega
  have hlk := looks_ok so pv qv F G _ hp1 hq1
  go_enter Try.func23, Try.ntmps23
  go_wp2_with (go_at_call 22; refine hlk.mono ?_; rintro e w7 ⟨rfl, hf67⟩)
  go_ret
  exact ⟨rfl, so, F, G, hp1.fr hf67 (by simp), hq1.fr hf67 (by simp), hd, (hal.trans hf67 (by simp)).nil, fun _ h => .inl h, fun _ h => .inl h⟩

/-- An operation as a value. -/
def isOp (w : World) (S : List Nat) (v : Value) : Prop :=
  ∃ (K N : Int) (lev : UInt8) (W : List UInt8) (ao : Option Addr) (n cap : Nat), v = .agg #[.int .i64 K, .slice ao n cap, .int .i64 N, .int .u8 lev.toNat] ∧ Rd w 1 (.slice ao n cap) n (ub W) S ∧ n ≤ 140737488351232

theorem asks_ok (so : Option CS) (pv qv v : Value) (F G S : List Nat) (w : World) (hp : PCh w pv so F) (hq : RCh w qv so G) (hd : ∀ k, k ∈ F → k ∉ G)
    (hv : isOp w S v) (hSF : ∀ k, k ∈ S → k ∉ F) (hSG : ∀ k, k ∈ S → k ∉ G) :
    Calls Try.prog 23 #[pv, qv, v] w (APost w pv qv F G) := by
  obtain ⟨K, N, lev, W, ao, n, cap, rfl, hr, hn⟩ := hv
  by_cases h : 1 ≤ K ∧ K ≤ 5
  · obtain rfl | rfl | rfl | rfl | rfl : K = 1 ∨ K = 2 ∨ K = 3 ∨ K = 4 ∨ K = 5 := by omega
    · exact asks_put so pv qv F G S N lev W ao n cap w hp hq hd hr hSF hSG hn
    · exact asks_take so pv qv F G _ N lev w hp hq hd
    · exact asks_set so pv qv F G _ N lev w hp hq hd
    · exact asks_slip so pv qv F G _ N lev w hp hq hd
    · exact asks_insert so pv qv F G _ N lev w hp hq hd
  · exact asks_other so pv qv F G _ K N lev w hp hq hd h

end Go.Proofs.Ytlfchokafpodcaa
