/- No arena, and one that nobody made: the walk of ArenaNil. -/
import Derived.Test.YtahhbbcgfhmmgaaArM
open Go.RowKit Go.Own
namespace Go.Proofs.Ytahhbbcgfhmmgaa

def noneV (v : Value) (L : List Asn) : Prop := ∀ w, Hold w L → Calls Try.prog 24 #[v] w fun e w' => e = .returned (.bool true) ∧ w = w'
theorem noneV_nil (L : List Asn) : noneV (.pointer none) L := by
  intro w h
  go_enter Try.func24, Try.ntmps24
  go_wp2
  go_ret
  exact ⟨rfl, rfl⟩
def zeroS : List Value := [.int .i64 0, .slice none 0 0, .slice none 0 0, .int .i64 0]
theorem noneV_made (b : Nat) (L : List Asn) : noneV (.pointer (some ⟨b, 0, none⟩)) (cellsA b 56 zeroS :: L) := by
  intro w h
  have g3 : w.cell? ⟨b, 0, none⟩ = some (.int .i64 0) := h.cell 0
  go_enter Try.func24, Try.ntmps24
  go_wp2
  go_ret
  exact ⟨rfl, rfl⟩

section
variable {v : Value} {L : List Asn} (hv : noneV v L) {w : World} (h : Hold w L)
include hv h
theorem nHas (x : Int) : Calls Try.prog 26 #[v, .int .i64 x] w fun e w' => e = .returned (.bool false) ∧ w = w' := by
  have P := hv w h
  go_enter Try.func26, Try.ntmps26
  go_wp2_with (go_at_call 24; refine P.mono ?_; rintro e w1 ⟨rfl, rfl⟩)
  go_ret
  exact ⟨rfl, rfl⟩
theorem nRoot (x y z : Value) : Calls Try.prog 10 #[v, .agg #[x, y, z]] w fun e w' => e = .returned (.tuple #[.int .i64 0, .int .i64 1]) ∧ Hold w' L := by
  have hb := (h.box 32 [x, y, z]).drop
  have P := hv _ hb
  go_enter Try.func10, Try.ntmps10
  go_wp2_with (go_at_call 24; refine P.mono ?_; rintro e w1 ⟨rfl, rfl⟩)
  go_ret2
  exact ⟨rfl, hb⟩
theorem nChild (i bt x y z : Value) : Calls Try.prog 11 #[v, i, bt, .agg #[x, y, z]] w fun e w' => e = .returned (.tuple #[.int .i64 0, .int .i64 1]) ∧ Hold w' L := by
  have hb := (h.box 32 [x, y, z]).drop
  have P := hv _ hb
  go_enter Try.func11, Try.ntmps11
  go_wp2_with (go_at_call 24; refine P.mono ?_; rintro e w1 ⟨rfl, rfl⟩)
  go_ret2
  exact ⟨rfl, hb⟩
theorem nDrop (i : Value) : Calls Try.prog 12 #[v, i] w fun e w' => e = .returned (.tuple #[.int .i64 0, .int .i64 1]) ∧ Hold w' L := by
  have P := hv _ h
  go_enter Try.func12, Try.ntmps12
  go_wp2_with (go_at_call 24; refine P.mono ?_; rintro e w1 ⟨rfl, rfl⟩)
  go_ret2
  exact ⟨rfl, h⟩
theorem nPath (i : Value) : Calls Try.prog 22 #[v, i] w fun e w' => e = .returned (.tuple #[.slice none 0 0, .int .i64 1]) ∧ Hold w' L := by
  have P := hv _ h
  go_enter Try.func22, Try.ntmps22
  go_wp2_with (go_at_call 24; refine P.mono ?_; rintro e w1 ⟨rfl, rfl⟩)
  go_ret2
  exact ⟨rfl, h⟩
theorem nNode (i : Int) : Calls Try.prog 27 #[v, .int .i64 i] w fun e w' => e = .returned (.tuple #[.agg #[.int .u32 0, .int .i64 0, .int .i64 0], .bool false]) ∧ Hold w' L := by
  have hb := h.box 32 PL.zero.node
  have P := nHas hv hb.drop i
  go_enter Try.func27, Try.ntmps27
  go_wp2_with (first
    | (go_at_call 26; refine P.mono ?_; rintro e w1 ⟨rfl, rfl⟩)
    | (refine wpList_storeAll_h (by rfl) 32 _ _ (by rfl) w.heap.size (by rfl) PL.zero.node (by rfl) hb (by rfl) (by rw [i32]; rfl) (by simp [PL.node, Value.oneCell']) (fun w4 h4 => ?_)))
  exact bodyPost_ret (v := .tuple #[.agg PL.zero.node.toArray, .bool false]) (res_cell_tmp (h4.loadVarAll 32 _ Try.underlying32 (by rfl) (by rw [i32]; rfl)) (by rfl) (by rfl) (by rfl)) rfl ⟨rfl, h4.drop⟩
theorem nParent (i : Int) : Calls Try.prog 28 #[v, .int .i64 i] w fun e w' => e = .returned (.tuple #[.int .i64 0, .bool false]) ∧ Hold w' L := by
  have P := nHas hv h i
  go_enter Try.func28, Try.ntmps28
  go_wp2_with (go_at_call 26; refine P.mono ?_; rintro e w1 ⟨rfl, rfl⟩)
  go_ret2
  exact ⟨rfl, h⟩
theorem nKids (i : Int) : Calls Try.prog 34 #[v, .int .i64 i] w fun e w' => e = .returned (.int .i64 0) ∧ Hold w' L := by
  have P := nHas hv h i
  go_enter Try.func34, Try.ntmps34
  go_wp2_with (go_at_call 26; refine P.mono ?_; rintro e w1 ⟨rfl, rfl⟩)
  go_ret
  exact ⟨rfl, h⟩
theorem nLen : Calls Try.prog 13 #[v] w fun e w' => e = .returned (.int .i64 0) ∧ Hold w' L := by
  have P := hv w h
  go_enter Try.func13, Try.ntmps13
  go_wp2_with (go_at_call 24; refine P.mono ?_; rintro e w1 ⟨rfl, rfl⟩)
  go_ret
  exact ⟨rfl, h⟩
theorem nRoom : Calls Try.prog 14 #[v] w fun e w' => e = .returned (.int .i64 0) ∧ Hold w' L := by
  have P := hv w h
  go_enter Try.func14, Try.ntmps14
  go_wp2_with (go_at_call 24; refine P.mono ?_; rintro e w1 ⟨rfl, rfl⟩)
  go_ret
  exact ⟨rfl, h⟩
end

set_option maxHeartbeats 1000000 in
set_option maxRecDepth 20000 in
theorem noneLaw (v : Value) (L : List Asn) (hv : ∀ R, noneV v (L ++ R)) (w : World) (R : List Asn) (h : Hold w (L ++ R)) : Calls Try.prog 21 #[v] w fun e w' => e = .returned (.bool true) ∧ Hold w' (L ++ R) := by
  have hv := hv R
  generalize L ++ R = M at *
  go_enter Try.func21, Try.ntmps21
  go_upto_region 6 with (first
    | (go_at_call 10; refine (nRoot hv h _ _ _).mono ?_; rintro e w1 ⟨rfl, h1⟩)
    | (go_at_call 11; refine (nChild hv h1 _ _ _ _ _).mono ?_; rintro e w2 ⟨rfl, h2⟩)
    | (go_at_call 12; refine (nDrop hv h2 _).mono ?_; rintro e w3 ⟨rfl, h3⟩)
    | (go_at_call 22; refine (nPath hv h3 _).mono ?_; rintro e w4 ⟨rfl, h4⟩)
    | (go_at_call 27; refine (nNode hv h4 _).mono ?_; rintro e w5 ⟨rfl, h5⟩))
  obtain ⟨q, hq⟩ : ∃ q, w5.heap.size = q := ⟨_, rfl⟩
  have hb := h5.box 32 [.int .u32 0, .int .i64 0, .int .i64 0]
  simp only [hq] at hb ⊢
  refine gen_world hb (fun w6 hb => ?_)
  clear h h1 h2 h3 h4 h5 hq
  have hb2 : ∀ w, Hold w (cellsA q 32 [.int .u32 0, .int .i64 0, .int .i64 0] :: M) → Calls Try.prog 24 #[v] w fun e w' => e = .returned (.bool true) ∧ w = w' := fun w h => hv w h.drop
  have hvM : noneV v (cellsA q 32 [.int .u32 0, .int .i64 0, .int .i64 0] :: M) := hb2
  go_upto_region 9 with (first
    | (go_at_call 8; refine (num_any _ _).mono ?_; rintro e w8 ⟨rfl, rfl⟩)
    | (go_at_call 28; refine (nParent hvM hb _).mono ?_; rintro e w7 ⟨rfl, h7⟩))
  clear hb
  go_wp2_with (first
    | (refine wpList_loadAll_h (by rfl) 32 _ (by rfl) q (by rfl) h7 _ Try.underlying32 (by rfl) (by rw [i32]; rfl) ?_)
    | (go_at_call 34; refine (nKids hvM h7 _).mono ?_; rintro e w8 ⟨rfl, h8⟩)
    | (go_at_call 13; refine (nLen hvM h8).mono ?_; rintro e w9 ⟨rfl, h9⟩)
    | (go_at_call 14; refine (nRoom hvM h9).mono ?_; rintro e w10 ⟨rfl, h10⟩))
  go_ret
  exact ⟨rfl, h10.drop⟩

set_option maxHeartbeats 1000000 in
set_option maxRecDepth 20000 in
theorem nil_walk (w : World) (L : List Asn) (h : Hold w L) :
    Calls Try.prog 6 #[] w fun e w' => e = .returned (.bool true) ∧ Hold w' L := by
  have hb := h.box 56 zeroS
  obtain ⟨q, hq⟩ : ∃ q, w.heap.size = q := ⟨_, rfl⟩
  simp only [hq] at hb
  go_enter Try.func6, Try.ntmps6
  go_upto_region 2 with (fail)
  try simp only [hq]
  refine gen_world hb (fun w1 hb => ?_)
  clear hq h
  have P0 := noneLaw (.pointer none) [] (fun R => noneV_nil _) w1 _ hb
  have P1 := fun w h => noneLaw (.pointer (some ⟨q, 0, none⟩)) [cellsA q 56 zeroS] (fun R => noneV_made q R) w L h
  go_wp2_with (first
    | (go_at_call 9; refine (live_ok _ _ h3).mono ?_; rintro e w4 ⟨rfl, h4⟩)
    | (go_at_call 21; (with_reducible refine (P1 _ h2).mono ?_); rintro e w3 ⟨rfl, h3⟩)
    | (go_at_call 21; (with_reducible refine P0.mono ?_); rintro e w2 ⟨rfl, h2⟩))
  go_ret
  exact ⟨rfl, h4.drop⟩

end Go.Proofs.Ytahhbbcgfhmmgaa
