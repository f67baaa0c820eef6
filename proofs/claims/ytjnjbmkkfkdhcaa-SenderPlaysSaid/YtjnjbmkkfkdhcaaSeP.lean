/- Contracts: no sender, and one that nobody made; frames alike. -/
import Derived.Test.YtjnjbmkkfkdhcaaSeM
open Go.RowKit Go.Own
namespace Go.Proofs.Ytjnjbmkkfkdhcaa

def noneV (v : Value) (L : List Asn) : Prop := ∀ w, Hold w L → Calls Try.prog 25 #[v] w fun e w' => e = .returned (.bool true) ∧ w = w'
theorem noneV_nil (L : List Asn) : noneV (.pointer none) L := by
  intro w h
  go_enter Try.func25, Try.ntmps25
  go_wp2
  go_ret
  exact ⟨rfl, rfl⟩
def zeroS : List Value := [.slice none 0 0, .int .i64 0, .int .i64 0, .int .i64 0, .int .i64 0, .int .u32 0, .int .u32 0, .int .u32 0, .int .u32 0, .int .i64 0]
theorem noneV_made (b : Nat) (L : List Asn) : noneV (.pointer (some ⟨b, 0, none⟩)) (cellsA b 60 zeroS :: L) := by
  intro w h
  have g3 : w.cell? ⟨b, 3, none⟩ = some (.int .i64 0) := h.cell 3
  go_enter Try.func25, Try.ntmps25
  go_wp2
  go_ret
  exact ⟨rfl, rfl⟩

section
variable {v : Value} {L : List Asn} (hv : noneV v L) {w : World} (h : Hold w L)
include hv h
theorem nSend (x : Value) : Calls Try.prog 10 #[v, x] w fun e w' => e = .returned (.tuple #[.int .u32 0, .int .i64 1]) ∧ w = w' := by
  have P := hv w h
  go_enter Try.func10, Try.ntmps10
  go_wp2_with (go_at_call 25; refine P.mono ?_; rintro e w1 ⟨rfl, rfl⟩)
  go_ret2
  exact ⟨rfl, rfl⟩
theorem nSlot : Calls Try.prog 12 #[v] w fun e w' => e = .returned (.tuple #[.agg #[.int .i64 0, .int .u32 0, .int .u32 0, .slice none 0 0], .bool false]) ∧ Hold w' L := by
  have hb := h.box 39 zeroF
  have P := hv _ hb.drop
  go_enter Try.func12, Try.ntmps12
  go_wp2_with (first
    | (go_at_call 25; refine P.mono ?_; rintro e w1 ⟨rfl, rfl⟩)
    | (refine wpList_storeAll_h (by rfl) 39 _ _ (by rfl) w.heap.size (by rfl) zeroF (by rfl) hb (by rfl) (by rw [i39]; rfl) (by simp [zeroF, Value.oneCell']) (fun w4 h4 => ?_)))
  exact bodyPost_ret (v := .tuple #[.agg zeroF.toArray, .bool false]) (res_cell_tmp (h4.loadVarAll 39 _ Try.underlying39 (by rfl) (by rw [i39]; rfl)) (by rfl) (by rfl) (by rfl)) rfl ⟨rfl, h4.drop⟩
theorem nAck (x : Value) : Calls Try.prog 13 #[v, x] w fun e w' => e = .returned (.int .i64 0) ∧ w = w' := by
  have P := hv w h
  go_enter Try.func13, Try.ntmps13
  go_wp2_with (go_at_call 25; refine P.mono ?_; rintro e w1 ⟨rfl, rfl⟩)
  go_ret
  exact ⟨rfl, rfl⟩
theorem nBase : Calls Try.prog 14 #[v] w fun e w' => e = .returned (.int .u32 0) ∧ w = w' := by
  have P := hv w h
  go_enter Try.func14, Try.ntmps14
  go_wp2_with (go_at_call 25; refine P.mono ?_; rintro e w1 ⟨rfl, rfl⟩)
  go_ret
  exact ⟨rfl, rfl⟩
theorem nNext : Calls Try.prog 16 #[v] w fun e w' => e = .returned (.int .u32 0) ∧ w = w' := by
  have P := hv w h
  go_enter Try.func16, Try.ntmps16
  go_wp2_with (go_at_call 25; refine P.mono ?_; rintro e w1 ⟨rfl, rfl⟩)
  go_ret
  exact ⟨rfl, rfl⟩
theorem nEnd : Calls Try.prog 15 #[v] w fun e w' => e = .returned (.int .u32 0) ∧ w = w' := by
  have P := hv w h
  go_enter Try.func15, Try.ntmps15
  go_wp2_with (go_at_call 25; refine P.mono ?_; rintro e w1 ⟨rfl, rfl⟩)
  go_ret
  exact ⟨rfl, rfl⟩
theorem nTimer : Calls Try.prog 24 #[v] w fun e w' => e = .returned (.int .i64 0) ∧ w = w' := by
  have P := hv w h
  go_enter Try.func24, Try.ntmps24
  go_wp2_with (go_at_call 25; refine P.mono ?_; rintro e w1 ⟨rfl, rfl⟩)
  go_ret
  exact ⟨rfl, rfl⟩
theorem nHeld : Calls Try.prog 18 #[v] w fun e w' => e = .returned (.slice none 0 0) ∧ w = w' := by
  have P := hv w h
  go_enter Try.func18, Try.ntmps18
  go_wp2_with (go_at_call 25; refine P.mono ?_; rintro e w1 ⟨rfl, rfl⟩)
  go_ret
  exact ⟨rfl, rfl⟩
end

/-- Frames alike. -/
theorem same_ok (k s a : Int) (x : List UInt8) (ax ay : Option Addr) (n cx cy : Nat) (w : World) (hx : ∃ S, Rd w 1 (.slice ax n cx) n (ub x) S) (hy : ∃ S, Rd w 1 (.slice ay n cy) n (ub x) S) (L : List Asn) (h : Hold w L) :
    Calls Try.prog 23 #[.agg #[.int .i64 k, .int .u32 s, .int .u32 a, .slice ax n cx], .agg #[.int .i64 k, .int .u32 s, .int .u32 a, .slice ay n cy]] w fun e w' => e = .returned (.bool true) ∧ Hold w' L := by
  obtain ⟨S1, hx⟩ := hx
  obtain ⟨S2, hy⟩ := hy
  obtain ⟨q, hq⟩ : ∃ q, w.heap.size = q := ⟨_, rfl⟩
  have hb := (h.box 39 [.int .i64 k, .int .u32 s, .int .u32 a, .slice ax n cx]).box 39 [.int .i64 k, .int .u32 s, .int .u32 a, .slice ay n cy]
  have hf : Fr [] w ((w.alloc (.cells #[.int .i64 k, .int .u32 s, .int .u32 a, .slice ax n cx] 39)).alloc (.cells #[.int .i64 k, .int .u32 s, .int .u32 a, .slice ay n cy] 39)) := ((Fr.refl _ _).alloc _).alloc _
  have t1 := run_text Try.underlying32 Try.underlying5 Try.underlying9 (hx.fr hf (by simp))
  have t2 := run_text Try.underlying32 Try.underlying5 Try.underlying9 (hy.fr hf (by simp))
  have HB := Lib.hid hb.drop.drop
  simp only [World.size_alloc, hq] at hb
  go_enter Try.func23, Try.ntmps23
  go_upto_region 1 with (fail)
  clear hx hy hf h
  generalize hW : (w.alloc (.cells #[.int .i64 k, .int .u32 s, .int .u32 a, .slice ax n cx] 39)).alloc (.cells #[.int .i64 k, .int .u32 s, .int .u32 a, .slice ay n cy] 39) = W at *
  clear hW hq
  have hc := hb.mv 1
  (try dsimp only [Go.Own.front, Go.Own.arrA, Go.Own.atA, Go.Own.dropA, List.length_cons, List.length_nil, Nat.zero_add, Nat.reduceAdd] at hc)
  have a0 : W.cell? ⟨q, 0, none⟩ = some (.int .i64 k) := hc.cell 0
  have a1 : W.cell? ⟨q, 1, none⟩ = some (.int .u32 s) := hc.cell 1
  have a2 : W.cell? ⟨q, 2, none⟩ = some (.int .u32 a) := hc.cell 2
  have a3 : W.cell? ⟨q, 3, none⟩ = some (.slice ax n cx) := hc.cell 3
  have b0 : W.cell? ⟨q + 1, 0, none⟩ = some (.int .i64 k) := hb.cell 0
  have b1 : W.cell? ⟨q + 1, 1, none⟩ = some (.int .u32 s) := hb.cell 1
  have b2 : W.cell? ⟨q + 1, 2, none⟩ = some (.int .u32 a) := hb.cell 2
  have b3 : W.cell? ⟨q + 1, 3, none⟩ = some (.slice ay n cy) := hb.cell 3
  clear hb hc
  go_wp2
  go_ret
  exact ⟨rfl, HB.out⟩

def NilRel (L : List Asn) (i v : Value) (wr : World) : Prop := (i = .int .i64 0 ∧ v = .pointer none ∧ Hold wr L) ∨ (i = .int .i64 1 ∧ ∃ b, v = .pointer (some ⟨b, 0, none⟩) ∧ Hold wr (cellsA b 60 zeroS :: L)) ∨ (i = .int .i64 2 ∧ Hold wr L)

set_option maxHeartbeats 1000000 in
set_option maxRecDepth 20000 in
theorem nil_walk (w : World) (L : List Asn) (h : Hold w L) :
    Calls Try.prog 6 #[] w fun e w' => e = .returned (.bool true) ∧ Hold w' L := by
  go_enter Try.func6, Try.ntmps6
  go_wp2
  go_loopw [2, 1] (fun i v wr => NilRel L i v wr) (fun i _ _ => 2 - (intOf i).toNat)
  case atStart => exact .inl ⟨rfl, rfl, h⟩
  case round =>
    clear h
    rcases hrel with ⟨rfl, rfl, hr⟩ | ⟨rfl, b, rfl, hr⟩ | ⟨rfl, hr⟩
    · have hv := noneV_nil L
      have h1 := (hr.box 5 [.int .u8 1]).drop
      go_upto_region 6 with (go_at_call 10; refine (nSend hv h1 _).mono ?_; rintro e w1 ⟨rfl, rfl⟩)
      refine gen_world h1 (fun w1 h1 => ?_)
      clear hr
      go_upto_region 7 with (go_at_call 12; refine (nSlot hv h1).mono ?_; rintro e w2 ⟨rfl, h2⟩)
      obtain ⟨q5, hq5⟩ : ∃ q, w2.heap.size = q := ⟨_, rfl⟩
      have h3 := h2.box 39 [.int .i64 0, .int .u32 0, .int .u32 0, .slice none 0 0]
      simp only [hq5] at h3 ⊢
      refine gen_world h3 (fun w3 h3 => ?_)
      clear h1 h2 hq5
      have k0 : w3.cell? ⟨q5, 0, none⟩ = some (.int .i64 0) := h3.cell 0
      have k1 : w3.cell? ⟨q5, 1, none⟩ = some (.int .u32 0) := h3.cell 1
      have k2 : w3.cell? ⟨q5, 2, none⟩ = some (.int .u32 0) := h3.cell 2
      have k3 : w3.cell? ⟨q5, 3, none⟩ = some (.slice none 0 0) := h3.cell 3
      have hrd : ∃ S, Rd w3 1 (.slice none 0 0) 0 (ub []) S := ⟨[], by simp, none, 0, rfl, Nat.le_refl _, by unfold maxLen; omega, .inl rfl⟩
      have PS := same_ok 0 0 0 [] none none 0 0 0 w3 hrd hrd _ h3.drop
      clear h3
      go_upto_region 9 with (first
        | (go_at_call 8; refine (num_any _ _).mono ?_; rintro e w5 ⟨rfl, rfl⟩)
        | (go_at_call 23; refine PS.mono ?_; rintro e w4 ⟨rfl, h4⟩)
        | (go_at_call 13; refine (nAck hv h4 _).mono ?_; rintro e w5 ⟨rfl, rfl⟩)
        | (go_at_call 14; refine (nBase hv h4).mono ?_; rintro e w5 ⟨rfl, rfl⟩)
        | (go_at_call 16; refine (nNext hv h4).mono ?_; rintro e w5 ⟨rfl, rfl⟩)
        | (go_at_call 15; refine (nEnd hv h4).mono ?_; rintro e w5 ⟨rfl, rfl⟩)
        | (go_at_call 24; refine (nTimer hv h4).mono ?_; rintro e w5 ⟨rfl, rfl⟩)
        | (go_at_call 18; refine (nHeld hv h4).mono ?_; rintro e w5 ⟨rfl, rfl⟩))
      clear k0 k1 k2 k3 hrd PS
      have h6 := h4.box 60 zeroS
      go_wp2
      go_roundw
      case rel => exact .inr (.inl ⟨rfl, _, rfl, h6⟩)
      case measure => simp [intOf]
    · have hv := noneV_made b L
      have h1 := (hr.box 5 [.int .u8 1]).drop
      go_upto_region 6 with (go_at_call 10; refine (nSend hv h1 _).mono ?_; rintro e w1 ⟨rfl, rfl⟩)
      refine gen_world h1 (fun w1 h1 => ?_)
      clear hr
      go_upto_region 7 with (go_at_call 12; refine (nSlot hv h1).mono ?_; rintro e w2 ⟨rfl, h2⟩)
      obtain ⟨q5, hq5⟩ : ∃ q, w2.heap.size = q := ⟨_, rfl⟩
      have h3 := h2.box 39 [.int .i64 0, .int .u32 0, .int .u32 0, .slice none 0 0]
      simp only [hq5] at h3 ⊢
      refine gen_world h3 (fun w3 h3 => ?_)
      clear h1 h2 hq5
      have k0 : w3.cell? ⟨q5, 0, none⟩ = some (.int .i64 0) := h3.cell 0
      have k1 : w3.cell? ⟨q5, 1, none⟩ = some (.int .u32 0) := h3.cell 1
      have k2 : w3.cell? ⟨q5, 2, none⟩ = some (.int .u32 0) := h3.cell 2
      have k3 : w3.cell? ⟨q5, 3, none⟩ = some (.slice none 0 0) := h3.cell 3
      have hrd : ∃ S, Rd w3 1 (.slice none 0 0) 0 (ub []) S := ⟨[], by simp, none, 0, rfl, Nat.le_refl _, by unfold maxLen; omega, .inl rfl⟩
      have PS := same_ok 0 0 0 [] none none 0 0 0 w3 hrd hrd _ h3.drop
      clear h3
      go_upto_region 9 with (first
        | (go_at_call 8; refine (num_any _ _).mono ?_; rintro e w5 ⟨rfl, rfl⟩)
        | (go_at_call 23; refine PS.mono ?_; rintro e w4 ⟨rfl, h4⟩)
        | (go_at_call 13; refine (nAck hv h4 _).mono ?_; rintro e w5 ⟨rfl, rfl⟩)
        | (go_at_call 14; refine (nBase hv h4).mono ?_; rintro e w5 ⟨rfl, rfl⟩)
        | (go_at_call 16; refine (nNext hv h4).mono ?_; rintro e w5 ⟨rfl, rfl⟩)
        | (go_at_call 15; refine (nEnd hv h4).mono ?_; rintro e w5 ⟨rfl, rfl⟩)
        | (go_at_call 24; refine (nTimer hv h4).mono ?_; rintro e w5 ⟨rfl, rfl⟩)
        | (go_at_call 18; refine (nHeld hv h4).mono ?_; rintro e w5 ⟨rfl, rfl⟩))
      clear k0 k1 k2 k3 hrd PS
      have h6 := h4.box 60 zeroS
      go_wp2
      go_roundw
      case rel => exact .inr (.inr ⟨rfl, h6.drop.drop⟩)
      case measure => simp [intOf]
    · go_wp2_with (go_at_call 9; refine (live_ok _ _ hr).mono ?_; rintro e w6 ⟨rfl, h6⟩)
      go_ret
      exact ⟨rfl, h6⟩

end Go.Proofs.Ytjnjbmkkfkdhcaa
