/- Contracts: mirror. -/
import Derived.Test.YtklokbmpapjjiaaStB
import Derived.Test.YtklokbmpapjjiaaAgg
open Go.RowKit Go.Own
namespace Go.Proofs.Ytklokbmpapjjiaa

def SV0 : SV := ⟨0, fun _ => 0⟩

def mirC (c : Nat → Nat) (m k : Nat) : Nat → Nat := fun i => if i < 16 then (if i < k then c (16 + (m - 1 - i)) else 0) else if i - 16 < k then c (m - 1 - (i - 16)) else 0

theorem mirC_zero (c : Nat → Nat) (m : Nat) : mirC c m 0 = fun _ => 0 := by funext i; simp [mirC]
theorem mirC_step (c : Nat → Nat) (m k i : Nat) (hi : i < 32) (hk : k < 16) : upd (upd (mirC c m k) k (c (16 + (m - 1 - k)))) (16 + k) (c (m - 1 - k)) i = mirC c m (k + 1) i := by
  unfold upd mirC
  by_cases h1 : i = 16 + k
  · subst h1; rw [if_pos rfl, if_neg (by omega), if_pos (by omega)]; congr 2; omega
  · by_cases h2 : i = k
    · subst h2; rw [if_neg h1, if_pos rfl, if_pos hk, if_pos (by omega)]
    · rw [if_neg h1, if_neg h2]
      by_cases h3 : i < 16
      · rw [if_pos h3, if_pos h3]
        by_cases h4 : i < k
        · rw [if_pos h4, if_pos (by omega)]
        · rw [if_neg h4, if_neg (by omega)]
      · rw [if_neg h3, if_neg h3]
        by_cases h4 : i - 16 < k
        · rw [if_pos h4, if_pos (by omega)]
        · rw [if_neg h4, if_neg (by omega)]

/-- Each the other's. -/
def mir (s : SV) : SV := ⟨s.lv, mirC s.c s.lv.toNat s.lv.toNat⟩

theorem info26 : (Try.prog.info? 26).map (·.size) = some 33 := by kernel_rfl
theorem u26 : ∃ d, Try.prog.underlying 26 = some d ∧ d.isRow = true := ⟨_, Try.underlying26, rfl⟩

theorem enc_zero (lv : Int) : (enc ⟨lv, fun _ => 0⟩).toArray = (List.toArray (.int .i64 lv :: .int .u32 0 :: .int .u32 0 :: .int .u32 0 :: .int .u32 0 :: .int .u32 0 :: .int .u32 0 :: .int .u32 0 :: .int .u32 0 :: .int .u32 0 :: .int .u32 0 :: .int .u32 0 :: .int .u32 0 :: .int .u32 0 :: .int .u32 0 :: .int .u32 0 :: .int .u32 0 :: .int .u32 0 :: .int .u32 0 :: .int .u32 0 :: .int .u32 0 :: .int .u32 0 :: .int .u32 0 :: .int .u32 0 :: .int .u32 0 :: .int .u32 0 :: .int .u32 0 :: .int .u32 0 :: .int .u32 0 :: .int .u32 0 :: .int .u32 0 :: .int .u32 0 :: .int .u32 0 :: [])) := by rfl

/-- Two boxes: a struct, and an empty one. -/
theorem _root_.Go.Own.Hold.boxZ {w : World} {L : List Asn} (h : Hold w L) (lv : Int) : Hold (w.alloc (.cells (List.toArray (.int .i64 lv :: .int .u32 0 :: .int .u32 0 :: .int .u32 0 :: .int .u32 0 :: .int .u32 0 :: .int .u32 0 :: .int .u32 0 :: .int .u32 0 :: .int .u32 0 :: .int .u32 0 :: .int .u32 0 :: .int .u32 0 :: .int .u32 0 :: .int .u32 0 :: .int .u32 0 :: .int .u32 0 :: .int .u32 0 :: .int .u32 0 :: .int .u32 0 :: .int .u32 0 :: .int .u32 0 :: .int .u32 0 :: .int .u32 0 :: .int .u32 0 :: .int .u32 0 :: .int .u32 0 :: .int .u32 0 :: .int .u32 0 :: .int .u32 0 :: .int .u32 0 :: .int .u32 0 :: .int .u32 0 :: [])) 26)) (cellsA w.heap.size 26 (enc ⟨lv, fun _ => 0⟩) :: L) := by
  have := h.box 26 (enc ⟨lv, fun _ => 0⟩)
  rwa [enc_zero] at this
theorem _root_.Go.Own.Hold.box2Z {w : World} {L : List Asn} (h : Hold w L) (s : SV) (lv : Int) : Hold ((w.alloc (.cells (enc s).toArray 26)).alloc (.cells (List.toArray (.int .i64 lv :: .int .u32 0 :: .int .u32 0 :: .int .u32 0 :: .int .u32 0 :: .int .u32 0 :: .int .u32 0 :: .int .u32 0 :: .int .u32 0 :: .int .u32 0 :: .int .u32 0 :: .int .u32 0 :: .int .u32 0 :: .int .u32 0 :: .int .u32 0 :: .int .u32 0 :: .int .u32 0 :: .int .u32 0 :: .int .u32 0 :: .int .u32 0 :: .int .u32 0 :: .int .u32 0 :: .int .u32 0 :: .int .u32 0 :: .int .u32 0 :: .int .u32 0 :: .int .u32 0 :: .int .u32 0 :: .int .u32 0 :: .int .u32 0 :: .int .u32 0 :: .int .u32 0 :: .int .u32 0 :: [])) 26)) (cellsA (w.heap.size + 1) 26 (enc ⟨lv, fun _ => 0⟩) :: cellsA w.heap.size 26 (enc s) :: L) := by
  have := (h.box 26 (enc s)).boxZ lv
  simpa using this

theorem enc_one (s : SV) : ∀ v ∈ enc s, v.oneCell' = true := by
  intro v hv
  simp only [enc, u32s, List.mem_cons, List.mem_map] at hv
  rcases hv with rfl | ⟨_, _, rfl⟩ <;> rfl

theorem load26 {w : World} {b : Nat} {s : SV} {L : List Asn} (h : Hold w (cellsA b 26 (enc s) :: L)) : (Instr.loadAt 26 (.pointer (some ⟨b, 0, none⟩))).run Try.prog w = .ok (.agg (enc s).toArray) w := by
  obtain ⟨d, h1, h2⟩ := u26
  exact h.loadAll 26 d h1 h2 (by rw [info26, enc_length])
theorem loadV26 {w : World} {b : Nat} {s : SV} {L : List Asn} (h : Hold w (cellsA b 26 (enc s) :: L)) : (loadVar 26 ⟨b, 0, none⟩).run Try.prog w = .ok (.agg (enc s).toArray) w := by
  obtain ⟨d, h1, h2⟩ := u26
  exact h.loadVarAll 26 d h1 h2 (by rw [info26, enc_length])
theorem store26 {w : World} {b : Nat} {s : SV} {L : List Asn} (h : Hold w (cellsA b 26 (enc s) :: L)) (t : SV) : ∃ w', (Instr.storeAt 26 (.pointer (some ⟨b, 0, none⟩)) (.agg (enc t).toArray)).run Try.prog w = .ok () w' ∧ Hold w' (cellsA b 26 (enc t) :: L) :=
  h.storeAll 26 (enc t) (by rw [enc_length, enc_length]) (by rw [info26, enc_length]) (enc_one t)

theorem wp_load26 {ops : Array Oper} {rest : List Oper} {op : Oper} {a : Act} {w : World} {Q : Exit → Act → World → Prop} (hgd : op.guard = none) (x : Operand) (ho : op.op = .load 26 x)
    (b : Nat) (hx : a.eval x = .pointer (some ⟨b, 0, none⟩)) {s : SV} {L : List Asn} (h : Hold w (cellsA b 26 (enc s) :: L))
    (k : wpList Try.prog ops Q rest (a.put op.dst (.agg (enc s).toArray)) w) : wpList Try.prog ops Q (op :: rest) a w := by
  obtain ⟨d, h1, h2⟩ := u26
  exact wpList_loadAll_h hgd 26 x ho b hx h d h1 h2 (by rw [info26, enc_length]) k

/-- Whole statistics written (an arm of the walk). -/
theorem wp_store26 {ops : Array Oper} {rest : List Oper} {op : Oper} {a : Act} {w : World} {Q : Exit → Act → World → Prop} (hgd : op.guard = none) (x y : Operand) (ho : op.op = .store 26 x y)
    (b : Nat) (hx : a.eval x = .pointer (some ⟨b, 0, none⟩)) (t : SV) (hy : a.eval y = .agg (enc t).toArray) {s : SV} {L : List Asn} (h : Hold w (cellsA b 26 (enc s) :: L))
    (k : ∀ w', Hold w' (cellsA b 26 (enc t) :: L) → wpList Try.prog ops Q rest (a.put op.dst undef) w') : wpList Try.prog ops Q (op :: rest) a w :=
  wpList_storeAll_h hgd 26 x y ho b hx (enc t) hy h (by rw [enc_length, enc_length]) (by rw [info26, enc_length]) (enc_one t) k

theorem _root_.Go.Own.Hold.seta {w : World} {b : Nat} {T : TypeId} {s : SV} {L : List Asn} (h : Hold w (cellsA b T (enc s) :: L)) (i x : Nat) : Hold (w.setCell ⟨b, i + 1, none⟩ (.int .u32 x)) (cellsA b T (enc ⟨s.lv, upd s.c i x⟩) :: L) := by
  have := h.st (i + 1) (.int .u32 x)
  rwa [enc_set] at this

set_option maxHeartbeats 4000000 in
set_option maxRecDepth 20000 in
theorem mirror0_ok (s : SV) (hs : s.ok) (w : World) (L : List Asn) (h : Hold w L) (hl1 : 2 ≤ s.lv) (hl2 : s.lv ≤ 16) :
    Calls Try.prog 43 #[.agg (enc s).toArray] w fun e w' => e = .returned (.agg (enc (mir s)).toArray) ∧ Hold w' L := by
  obtain ⟨m, hm⟩ : ∃ m : Nat, m = s.lv.toNat := ⟨_, rfl⟩
  have hlv : s.lv = m := by omega
  have hM : mir s = ⟨s.lv, mirC s.c m m⟩ := by rw [mir, hm]
  rw [hM]
  have hb := h.box2Z s 0
  obtain ⟨lv, c⟩ := s
  simp only at hlv hl1 hl2 hM ⊢
  subst hlv
  clear hm hM h
  obtain ⟨h1, h2, h3⟩ := hs
  simp only at h1 h2 h3
  go_enter Try.func43, Try.ntmps43
  go_upto_region 1 with (fail)
  refine gen_world hb (fun w1 hb => ?_)
  generalize w.heap.size + 1 = r at *
  generalize w.heap.size = b at *
  have g0 := (hb.mv 1).cell 0
  rw [enc_lv] at g0
  have hb1 := hb.boxZ 0
  go_upto_region 2 with (refine wp_store26 rfl _ _ rfl w1.heap.size (by rfl) ⟨m, fun _ => 0⟩ (by rfl) hb1 (fun w2 hb2 => ?_))
  clear hb1
  generalize w1.heap.size = t at *
  clear hb g0
  have g0 := (hb2.mv 2).cell 0
  rw [enc_lv] at g0
  go_upto_block 0 with (fail)
  go_wp2
  clear g0
  go_loopw [10] (fun i wr => ∃ k : Nat, k ≤ m ∧ i = .int .i64 k ∧ Hold wr (cellsA t 26 (enc ⟨m, mirC c m k⟩) :: cellsA r 26 (enc ⟨0, fun _ => 0⟩) :: cellsA b 26 (enc ⟨m, c⟩) :: L)) (fun i _ => m - (intOf i).toNat)
  case atStart => exact ⟨0, by omega, rfl, by rw [mirC_zero]; exact hb2⟩
  case round =>
    obtain ⟨k, hk, rfl, hr⟩ := hrel
    clear hb2
    by_cases hlt : k < m
    · have hki : (k : Int) < m := by omega
      have g0 := (hr.mv 2).cell 0
      rw [enc_lv] at g0
      have ga := ((hr.mv 2).cell (17 + (m - 1 - k))).trans (enc_at (i := 16 + (m - 1 - k)) (by omega) (by omega))
      have gb := ((hr.mv 2).cell (1 + (m - 1 - k))).trans (enc_at (i := m - 1 - k) (by omega) (by omega))
      have ka := (hr.cell (1 + k)).trans (enc_at (i := k) (by omega) (by omega))
      have kb := (hr.cell (17 + k)).trans (enc_at (i := 16 + k) (by omega) (by omega))
      have fa := hr.frozen (1 + k)
      have fb := hr.frozen (17 + k)
      have hne := (hr.mv 2).ne
      go_wp2
      go_roundw
      case rel =>
        refine ⟨k + 1, by omega, by go_num, ?_⟩
        have := (hr.seta k (c (16 + (m - 1 - k)))).seta (16 + k) (c (m - 1 - k))
        rw [show k + 1 = 1 + k from by omega, show 16 + k + 1 = 17 + k from by omega] at this
        refine this.as (enc_congr rfl fun i hi => ?_)
        exact mirC_step c m k i hi (by omega)
      case measure => simp [intOf]; omega
    · obtain rfl : k = m := by omega
      go_wp2_with (first
        | (refine wp_load26 rfl _ (by rfl) t (by rfl) hr ?_)
        | (refine wp_store26 rfl _ _ (by rfl) r (by rfl) ⟨k, mirC c k k⟩ (by rfl) (hr.mv 1) (fun w3 h3 => ?_)))
      refine bodyPost_ret (v := .agg (enc ⟨k, mirC c k k⟩).toArray) (res_cell (loadV26 h3) (by rfl) (by rfl)) rfl ⟨rfl, ?_⟩
      exact h3.drop.drop.drop
end Go.Proofs.Ytklokbmpapjjiaa
