/- Contracts: rows of levels; quantisers that may be nil. -/
import Derived.Test.YtklokbmpapjjiaaQtE
open Go.RowKit Go.Own
namespace Go.Proofs.Ytklokbmpapjjiaa

theorem info5 : (Try.prog.info? 5).map (fun i => (i.zero, i.size, i.bytes)) = some (some (.int .u8 0), 1, 1) := by kernel_rfl

/-- A quantiser, or none. -/
def mqA (T : TypeId) (pv : Value) : Option (List Int) → Asn
  | none => pureA (pv = .pointer none)
  | some xs => exA fun b : Nat => starA (pureA (pv = .pointer (some ⟨b, 0, none⟩))) (quA T b xs)

def lvlO (o : Option (List Int)) (x : Int) : Nat := match o with | none => 0 | some xs => lvl xs x
def lvsO (o : Option (List Int)) : Nat := match o with | none => 0 | some xs => xs.length + 1
def rowO (o : Option (List Int)) (ys : List Int) : List UInt8 := match o with | none => [] | some xs => ys.map fun y => UInt8.ofNat (lvl xs y)
def MadeO (o : Option (List Int)) : Prop := ∀ xs, o = some xs → Inc xs ∧ 1 ≤ xs.length ∧ xs.length ≤ 15

theorem mq_cases {T : TypeId} {pv : Value} {o : Option (List Int)} {w : World} {L : List Asn} (h : Hold w (mqA T pv o :: L)) : (o = none ∧ pv = .pointer none ∧ Hold w L) ∨ ∃ xs b, o = some xs ∧ pv = .pointer (some ⟨b, 0, none⟩) ∧ Hold w (quA T b xs :: L) := by
  cases o with
  | none => have := Hold.pure.1 h; exact .inl ⟨rfl, this.1, this.2⟩
  | some xs =>
    obtain ⟨b, h1⟩ := Hold.ex.1 h
    have h2 := Hold.pure.1 (Hold.star.1 h1)
    exact .inr ⟨xs, b, rfl, h2.1, h2.2⟩
theorem mq_nil {T : TypeId} {w : World} {L : List Asn} (h : Hold w L) : Hold w (mqA T (.pointer none) none :: L) := Hold.pure.2 ⟨rfl, h⟩
theorem mq_some {T : TypeId} {b : Nat} {xs : List Int} {w : World} {L : List Asn} (h : Hold w (quA T b xs :: L)) : Hold w (mqA T (.pointer (some ⟨b, 0, none⟩)) (some xs) :: L) :=
  Hold.ex.2 ⟨b, Hold.star.2 (Hold.pure.2 ⟨rfl, h⟩)⟩

theorem mlevel (o : Option (List Int)) (hm : MadeO o) (pv : Value) (x : Int) (w : World) (L : List Asn) (h : Hold w (mqA 87 pv o :: L)) :
    Calls Try.prog 34 #[pv, .int .i64 x] w fun e w' => e = .returned (.int .u8 (lvlO o x)) ∧ Hold w' (mqA 87 pv o :: L) := by
  rcases mq_cases h with ⟨rfl, rfl, h1⟩ | ⟨xs, b, rfl, rfl, h1⟩
  · exact (level_nil x w L h1).mono fun e w' ⟨he, hw⟩ => ⟨he, mq_nil hw⟩
  · obtain ⟨k1, k2, k3⟩ := hm xs rfl
    exact (level_ok xs k1 x b k3 w L h1).mono fun e w' ⟨he, hw⟩ => ⟨he, mq_some hw⟩
theorem mrlevel (o : Option (List Int)) (hm : MadeO o) (pv : Value) (x : Int) (w : World) (L : List Asn) (h : Hold w (mqA 101 pv o :: L)) :
    Calls Try.prog 42 #[pv, .int .i64 x] w fun e w' => e = .returned (.int .u8 (lvlO o x)) ∧ Hold w' (mqA 101 pv o :: L) := by
  rcases mq_cases h with ⟨rfl, rfl, h1⟩ | ⟨xs, b, rfl, rfl, h1⟩
  · exact (rlevel_nil x w).mono fun e w' ⟨he, hw⟩ => ⟨he, hw ▸ mq_nil h1⟩
  · obtain ⟨k1, k2, k3⟩ := hm xs rfl
    exact (rlevel_ok xs x b k3 w L h1).mono fun e w' ⟨he, hw⟩ => ⟨he, hw ▸ mq_some h1⟩
theorem mlevels (o : Option (List Int)) (hm : MadeO o) (pv : Value) (w : World) (L : List Asn) (h : Hold w (mqA 87 pv o :: L)) :
    Calls Try.prog 33 #[pv] w fun e w' => e = .returned (.int .i64 (lvsO o)) ∧ w = w' := by
  rcases mq_cases h with ⟨rfl, rfl, h1⟩ | ⟨xs, b, rfl, rfl, h1⟩
  · exact levels_nil w
  · obtain ⟨k1, k2, k3⟩ := hm xs rfl
    have := levels_ok xs b k3 w L h1
    rw [if_neg (by omega)] at this
    exact this
theorem mrlevels (o : Option (List Int)) (hm : MadeO o) (pv : Value) (w : World) (L : List Asn) (h : Hold w (mqA 101 pv o :: L)) :
    Calls Try.prog 40 #[pv] w fun e w' => e = .returned (.int .i64 (lvsO o)) ∧ w = w' := by
  rcases mq_cases h with ⟨rfl, rfl, h1⟩ | ⟨xs, b, rfl, rfl, h1⟩
  · exact rlevels_nil w
  · obtain ⟨k1, k2, k3⟩ := hm xs rfl
    exact rlevels_ok xs b k3 w L h1

/-- A row of levels under way. -/
def RowRel (n : Nat) (xs ys : List Int) (R : List Asn) (v i : Value) (wr : World) : Prop := ∃ (k : Nat) (ao : Option Addr) (cap : Nat), k ≤ n ∧ i = .int .i64 k ∧ v = .slice ao k cap ∧
  Hold wr (rowA 5 1 ao k cap (ub ((ys.take k).map fun y => UInt8.ofNat (lvl xs y))) :: R)

theorem row_nil (v : Value) (w : World) : Calls Try.prog 39 #[.pointer none, v] w fun e w' => e = .returned (.slice none 0 0) ∧ w = w' := by
  go_enter Try.func39, Try.ntmps39
  go_wp2
  go_ret
  exact ⟨rfl, rfl⟩
theorem row_un (v : Value) (b : Nat) (w : World) (L : List Asn) (h : Hold w (quA 87 b [] :: L)) : Calls Try.prog 39 #[.pointer (some ⟨b, 0, none⟩), v] w fun e w' => e = .returned (.slice none 0 0) ∧ w = w' := by
  obtain ⟨ao, cap, h2⟩ := quA_open h
  have g2 := h2.cell 0
  simp only [List.getElem?_cons_zero, List.length_nil] at g2
  go_enter Try.func39, Try.ntmps39
  go_wp2
  go_ret
  exact ⟨rfl, rfl⟩

set_option maxHeartbeats 4000000 in
set_option maxRecDepth 20000 in
theorem row_ok (xs ys : List Int) (hI : Inc xs) (h1x : 1 ≤ xs.length) (h15 : xs.length ≤ 15) (C : Asn) (ao : Option Addr) (n cap b : Nat) (hR : Reads C 1 (.slice ao n cap) n (is ys)) (hn : n ≤ 140737488351232) (w : World) (L : List Asn) (h : Hold w (quA 87 b xs :: C :: L)) :
    Calls Try.prog 39 #[.pointer (some ⟨b, 0, none⟩), .slice ao n cap] w fun e w' => ∃ ao' cap', e = .returned (.slice ao' n cap') ∧ Hold w' (rowA 5 1 ao' n cap' (ub (ys.map fun y => UInt8.ofNat (lvl xs y))) :: quA 87 b xs :: C :: L) := by
  obtain ⟨i5, hi, hz0, hz1, hz2⟩ := info_parts info5
  obtain ⟨ao1, cap1, h2⟩ := quA_open h
  have g2 := h2.cell 0
  simp only [List.getElem?_cons_zero] at g2
  obtain ⟨S0, hrd0⟩ := (h.mv 1).reads hR
  have hyn := hrd0.bounds.1
  rw [is_length, Nat.mul_one] at hyn
  have hx0 : ((xs.length : Int) == 0) = false := by rw [beq_eq_false_iff_ne]; omega
  have P := fun x w L h => level_ok xs hI x b h15 w L h
  have HY := Lib.hid hyn
  have H15 := Lib.hid h15
  clear hyn h2 hrd0 hI h15 h1x
  go_enter Try.func39, Try.ntmps39
  go_upto_block 0 with (fail)
  clear g2 hx0
  have hz := h.nilRow 5 1
  go_wp2
  go_loopw [5, 20] (fun v i wr => RowRel n xs ys (quA 87 b xs :: C :: L) v i wr) (fun _ i _ => n - (intOf i).toNat)
  case atStart => exact ⟨0, none, 0, by omega, rfl, rfl, hz⟩
  case round =>
    clear h hz
    obtain ⟨k, ao2, cap2, hk, rfl, rfl, hr⟩ := hrel
    by_cases hlt : k < n
    · have hki : (k : Int) < n := by omega
      obtain ⟨S, hrd⟩ := (hr.mv 2).reads hR
      obtain ⟨rb, ro, rfl, -, -, hcs⟩ := hrd.addr (by omega)
      have hkx : k < ys.length := by have := HY.out; omega
      have c0 := (hcs k (by omega)).trans (is_get hkx)
      have HT := Lib.hid (List.take_succ_eq_append_getElem hkx)
      have hle := lvl_le xs ys[k]
      have P := P (ys[k])
      have hlv : lvl xs ys[k] ≤ 15 := by have := H15.out; omega
      have eU : ((UInt8.ofNat (lvl xs ys[k])).toNat : Int) = (lvl xs ys[k] : Int) := by simp; omega
      have HE := Lib.hid eU
      clear hcs hrd eU hle
      go_wp2_with (first
        | (go_at_call 34; refine (P _ _ (hr.mv 1)).mono ?_; rintro e w2 ⟨rfl, h2⟩; have h3 := h2.mv 1)
        | ((with_reducible refine wpList_plain (o := ⟨some 29, _, _, _, _, _⟩) rfl (fun K hK => ?_)); refine wp_append_one_h (w := w2) _ _ 73 (by rfl) 5 i5 (.int .u8 0) 1 1 Try.underlying73 hi hz0 hz1 hz2 (by rfl) _ _ _ _ (by rfl) h3 [_] (by rfl) ⟨rfl, rfl, rfl, rfl⟩ (by rfl) (by simp [Value.oneCell']) (by unfold maxLen; omega) (by omega) (fun ao3 cap3 w3 h4 hc3 => ?_); refine hK _ _ ?_; clear hK K))
      go_roundw
      case rel =>
        refine ⟨k + 1, ao3, cap3, by omega, by go_num, rfl, ?_⟩
        rw [HT.out, List.map_append, ub_append]
        simp only [List.map_cons, List.map_nil, ub, HE.out]
        exact h4
      case measure => simp [intOf]; omega
    · obtain rfl : n = k := by omega
      have e : ys.take n = ys := List.take_of_length_le (by have := HY.out; omega)
      rw [e] at hr
      go_wp2
      go_ret
      exact ⟨_, _, rfl, hr⟩

set_option maxHeartbeats 4000000 in
set_option maxRecDepth 20000 in
theorem rrow_ok (xs ys : List Int) (hI : Inc xs) (h1x : 1 ≤ xs.length) (h15 : xs.length ≤ 15) (C : Asn) (ao : Option Addr) (n cap b : Nat) (hR : Reads C 1 (.slice ao n cap) n (is ys)) (hn : n ≤ 140737488351232) (w : World) (L : List Asn) (h : Hold w (quA 101 b xs :: C :: L)) :
    Calls Try.prog 41 #[.pointer (some ⟨b, 0, none⟩), .slice ao n cap] w fun e w' => ∃ ao' cap', e = .returned (.slice ao' n cap') ∧ Hold w' (rowA 5 1 ao' n cap' (ub (ys.map fun y => UInt8.ofNat (lvl xs y))) :: quA 101 b xs :: C :: L) := by
  obtain ⟨i5, hi, hz0, hz1, hz2⟩ := info_parts info5
  obtain ⟨ao1, cap1, h2⟩ := quA_open h
  have g2 := h2.cell 0
  simp only [List.getElem?_cons_zero] at g2
  obtain ⟨S0, hrd0⟩ := (h.mv 1).reads hR
  have hyn := hrd0.bounds.1
  rw [is_length, Nat.mul_one] at hyn
  have hx0 : ((xs.length : Int) == 0) = false := by rw [beq_eq_false_iff_ne]; omega
  have P := fun x w L h => rlevel_ok xs x b h15 w L h
  have HY := Lib.hid hyn
  have H15 := Lib.hid h15
  clear hyn h2 hrd0 hI h15 h1x
  go_enter Try.func41, Try.ntmps41
  clear g2 hx0
  have hz := h.nilRow 5 1
  go_wp2
  go_loopw [5, 6] (fun v i wr => RowRel n xs ys (quA 101 b xs :: C :: L) v i wr) (fun _ i _ => n - (intOf i).toNat)
  case atStart => exact ⟨0, none, 0, by omega, rfl, rfl, hz⟩
  case round =>
    clear h hz
    obtain ⟨k, ao2, cap2, hk, rfl, rfl, hr⟩ := hrel
    by_cases hlt : k < n
    · have hki : (k : Int) < n := by omega
      obtain ⟨S, hrd⟩ := (hr.mv 2).reads hR
      obtain ⟨rb, ro, rfl, -, -, hcs⟩ := hrd.addr (by omega)
      have hkx : k < ys.length := by have := HY.out; omega
      have c0 := (hcs k (by omega)).trans (is_get hkx)
      have HT := Lib.hid (List.take_succ_eq_append_getElem hkx)
      have hle := lvl_le xs ys[k]
      have P := P (ys[k])
      have hlv : lvl xs ys[k] ≤ 15 := by have := H15.out; omega
      have eU : ((UInt8.ofNat (lvl xs ys[k])).toNat : Int) = (lvl xs ys[k] : Int) := by simp; omega
      have HE := Lib.hid eU
      clear hcs hrd eU hle
      go_wp2_with (first
        | (go_at_call 42; refine (P _ _ (hr.mv 1)).mono ?_; rintro e w2 ⟨rfl, rfl⟩)
        | ((with_reducible refine wpList_plain (o := ⟨some 25, _, _, _, _, _⟩) rfl (fun K hK => ?_)); refine wp_append_one_h (w := wr) _ _ 73 (by rfl) 5 i5 (.int .u8 0) 1 1 Try.underlying73 hi hz0 hz1 hz2 (by rfl) _ _ _ _ (by rfl) hr [_] (by rfl) ⟨rfl, rfl, rfl, rfl⟩ (by rfl) (by simp [Value.oneCell']) (by unfold maxLen; omega) (by omega) (fun ao3 cap3 w3 h4 hc3 => ?_); refine hK _ _ ?_; clear hK K))
      go_roundw
      case rel =>
        refine ⟨k + 1, ao3, cap3, by omega, by go_num, rfl, ?_⟩
        rw [HT.out, List.map_append, ub_append]
        simp only [List.map_cons, List.map_nil, ub, HE.out]
        exact h4
      case measure => simp [intOf]; omega
    · obtain rfl : n = k := by omega
      have e : ys.take n = ys := List.take_of_length_le (by have := HY.out; omega)
      rw [e] at hr
      go_wp2
      go_ret
      exact ⟨_, _, rfl, hr⟩

theorem rrow_nil (v : Value) (w : World) : Calls Try.prog 41 #[.pointer none, v] w fun e w' => e = .returned (.slice none 0 0) ∧ w = w' := by
  go_enter Try.func41, Try.ntmps41
  go_wp2
  go_loop [5, 6] (fun v i => v = .slice none 0 0 ∧ i = .int .i64 0) (fun _ _ => 0)
  case atStart => exact ⟨rfl, rfl⟩
  case round =>
    obtain ⟨rfl, rfl⟩ := hrel
    go_wp2
    go_ret
    exact ⟨rfl, rfl⟩

theorem mrow (o : Option (List Int)) (ys : List Int) (hm : MadeO o) (pv : Value) (C : Asn) (ao : Option Addr) (n cap : Nat) (hR : Reads C 1 (.slice ao n cap) n (is ys)) (hn : n ≤ 140737488351232) (w : World) (L : List Asn) (h : Hold w (mqA 87 pv o :: C :: L)) :
    Calls Try.prog 39 #[pv, .slice ao n cap] w fun e w' => ∃ ao' n' cap', e = .returned (.slice ao' n' cap') ∧ Hold w' (rowA 5 1 ao' n' cap' (ub (rowO o ys)) :: mqA 87 pv o :: C :: L) := by
  rcases mq_cases h with ⟨rfl, rfl, h1⟩ | ⟨xs, b, rfl, rfl, h1⟩
  · exact (row_nil _ w).mono fun e w' ⟨he, hw⟩ => ⟨none, 0, 0, he, hw ▸ (mq_nil h1).nilRow 5 1⟩
  · obtain ⟨k1, k2, k3⟩ := hm xs rfl
    exact (row_ok xs ys k1 k2 k3 C ao n cap b hR hn w L h1).mono fun e w' ⟨ao', cap', he, hw⟩ => ⟨ao', n, cap', he, (mq_some (hw.mv 1)).mv 1⟩
theorem mrrow (o : Option (List Int)) (ys : List Int) (hm : MadeO o) (pv : Value) (C : Asn) (ao : Option Addr) (n cap : Nat) (hR : Reads C 1 (.slice ao n cap) n (is ys)) (hn : n ≤ 140737488351232) (w : World) (L : List Asn) (h : Hold w (mqA 101 pv o :: C :: L)) :
    Calls Try.prog 41 #[pv, .slice ao n cap] w fun e w' => ∃ ao' n' cap', e = .returned (.slice ao' n' cap') ∧ Hold w' (rowA 5 1 ao' n' cap' (ub (rowO o ys)) :: mqA 101 pv o :: C :: L) := by
  rcases mq_cases h with ⟨rfl, rfl, h1⟩ | ⟨xs, b, rfl, rfl, h1⟩
  · exact (rrow_nil _ w).mono fun e w' ⟨he, hw⟩ => ⟨none, 0, 0, he, hw ▸ (mq_nil h1).nilRow 5 1⟩
  · obtain ⟨k1, k2, k3⟩ := hm xs rfl
    exact (rrow_ok xs ys k1 k2 k3 C ao n cap b hR hn w L h1).mono fun e w' ⟨ao', cap', he, hw⟩ => ⟨ao', n, cap', he, (mq_some (hw.mv 1)).mv 1⟩

/-- Steps, whatever the thresholds are. -/
def oOf (xs : List Int) (o : Option (List Int)) (er : Nat) : Prop := (o = none ∧ (er = 1 ∨ er = 11)) ∨ (o = some xs ∧ er = 0)
theorem msteps (xs : List Int) (C : Asn) (ao : Option Addr) (n cap : Nat) (hxn : xs.length = n) (hm : n ≤ 140737488351232) : ∃ o er, oOf xs o er ∧ MadeO o ∧
    (∀ (C : Asn) (ao : Option Addr) (cap : Nat), Reads C 1 (.slice ao n cap) n (is xs) → ∀ w L, Hold w (C :: L) → Calls Try.prog 32 #[.slice ao n cap] w fun e w' => ∃ pv, e = .returned (.tuple #[pv, .int .i64 er]) ∧ (pv = .pointer none ↔ o = none) ∧ Hold w' (mqA 87 pv o :: C :: L)) ∧
    (∀ (C : Asn) (ao : Option Addr) (cap : Nat), Reads C 1 (.slice ao n cap) n (is xs) → ∀ w L, Hold w (C :: L) → Calls Try.prog 38 #[.slice ao n cap] w fun e w' => ∃ pv, e = .returned (.tuple #[pv, .int .i64 er]) ∧ (pv = .pointer none ↔ o = none) ∧ Hold w' (mqA 101 pv o :: C :: L)) := by
  by_cases hn : n < 1 ∨ 15 < n
  · refine ⟨none, 1, .inl ⟨rfl, .inl rfl⟩, fun xs h => by simp at h, fun C ao cap hR w L h => ?_, fun C ao cap hR w L h => ?_⟩
    · have := steps_len xs ao cap (by omega) (by omega) w
      rw [hxn] at this
      exact this.mono fun e w' ⟨he, hw⟩ => ⟨_, he, by simp, hw ▸ mq_nil h⟩
    · have := rsteps_len xs ao cap (by omega) (by omega) w
      rw [hxn] at this
      exact this.mono fun e w' ⟨he, hw⟩ => ⟨_, he, by simp, hw ▸ mq_nil h⟩
  · rcases fall_or xs with hI | hI
    · refine ⟨some xs, 0, .inr ⟨rfl, rfl⟩, fun ys h => by simp at h; subst h; exact ⟨hI, by omega, by omega⟩, fun C ao cap hR w L h => ?_, fun C ao cap hR w L h => ?_⟩
      · exact (steps_ok xs C ao n cap hR (by omega) (by omega) hI w L h).mono fun e w' ⟨b, he, hw⟩ => ⟨_, he, by simp, mq_some hw⟩
      · exact (rsteps_ok xs C ao n cap hR (by omega) (by omega) hI w L h).mono fun e w' ⟨b, he, hw⟩ => ⟨_, he, by simp, mq_some hw⟩
    · refine ⟨none, 11, .inl ⟨rfl, .inr rfl⟩, fun xs h => by simp at h, fun C ao cap hR w L h => ?_, fun C ao cap hR w L h => ?_⟩
      · exact (steps_fall xs C ao n cap hR (by omega) (by omega) hI w L h).mono fun e w' ⟨he, hw⟩ => ⟨_, he, by simp, mq_nil hw⟩
      · exact (rsteps_fall xs C ao n cap hR (by omega) (by omega) hI w L h).mono fun e w' ⟨he, hw⟩ => ⟨_, he, by simp, mq_nil hw⟩

end Go.Proofs.Ytklokbmpapjjiaa
