/- Quantisers: plain laws, and contracts of the program's. -/
import Derived.Test.YtklokbmpapjjiaaStI
import Derived.Test.YtklokbmpapjjiaaRegion3
open Go.RowKit Go.Own
namespace Go.Proofs.Ytklokbmpapjjiaa

def is (xs : List Int) : List Value := xs.map fun x => .int .i64 x
theorem is_length (xs : List Int) : (is xs).length = xs.length := by simp [is]
theorem is_get {xs : List Int} {i : Nat} (h : i < xs.length) : (is xs)[i]? = some (.int .i64 xs[i]) := by simp [is, h]
theorem is_one (xs : List Int) : ∀ v ∈ is xs, v.oneCell' = true := by
  intro v hv
  obtain ⟨_, _, rfl⟩ := List.mem_map.1 hv
  rfl
def Fits (xs : List Int) : Prop := ∀ i (h : i < xs.length), -9223372036854775808 ≤ xs[i] ∧ xs[i] ≤ 9223372036854775807

/-- Rising thresholds. -/
def Inc (xs : List Int) : Prop := ∀ i j (hij : i < j) (h : j < xs.length), xs[i]'(by omega) < xs[j]
theorem inc_of {xs : List Int} (h : ∀ i (hi : i < xs.length), 1 ≤ i → xs[i - 1]'(by omega) < xs[i]) : Inc xs := by
  intro i j hij hj
  induction j with
  | zero => omega
  | succ j ih =>
    have h1 := h (j + 1) hj (by omega)
    simp only [Nat.add_sub_cancel] at h1
    rcases Nat.lt_or_ge i j with h2 | h2
    · have := ih h2 (by omega); omega
    · obtain rfl : i = j := by omega
      exact h1

/-- The level of a sample. -/
def lvl (xs : List Int) (x : Int) : Nat := (xs.filter fun t => decide (t ≤ x)).length
theorem lvl_le (xs : List Int) (x : Int) : lvl xs x ≤ xs.length := List.length_filter_le _ _
theorem lvl_eq {xs : List Int} {x : Int} {r : Nat} (hr : r ≤ xs.length) (h1 : ∀ i (h : i < xs.length), i < r → xs[i] ≤ x) (h2 : ∀ i (h : i < xs.length), r ≤ i → x < xs[i]) : lvl xs x = r := by
  have e : xs = xs.take r ++ xs.drop r := (List.take_append_drop r xs).symm
  have a1 : (xs.take r).filter (fun t => decide (t ≤ x)) = xs.take r := by
    rw [List.filter_eq_self]
    intro t ht
    obtain ⟨i, hi, rfl⟩ := List.mem_iff_getElem.1 ht
    simp only [List.length_take] at hi
    rw [List.getElem_take]
    simpa using h1 i (by omega) (by omega)
  have a2 : (xs.drop r).filter (fun t => decide (t ≤ x)) = [] := by
    rw [List.filter_eq_nil_iff]
    intro t ht
    obtain ⟨i, hi, rfl⟩ := List.mem_iff_getElem.1 ht
    simp only [List.length_drop] at hi
    rw [List.getElem_drop]
    have := h2 (r + i) (by omega) (by omega)
    simp; omega
  unfold lvl
  rw [e, List.filter_append, a1, a2]
  simp; omega
theorem lvl_snoc (xs : List Int) (k : Nat) (x : Int) (h : k < xs.length) : lvl (xs.take (k + 1)) x = lvl (xs.take k) x + if xs[k] ≤ x then 1 else 0 := by
  unfold lvl
  rw [List.take_succ_eq_append_getElem h, List.filter_append]
  by_cases hx : xs[k] ≤ x <;> simp [hx]
theorem lvl_mono (xs : List Int) {x y : Int} (h : x ≤ y) : lvl xs x ≤ lvl xs y := by
  unfold lvl
  induction xs with
  | nil => simp
  | cons t ts ih =>
    simp only [List.filter_cons]
    by_cases h1 : t ≤ x
    · have h2 : t ≤ y := by omega
      simp [h1, h2]; omega
    · by_cases h2 : t ≤ y
      · simp [h1, h2]; omega
      · simp [h1, h2]; omega
theorem lvl_at {xs : List Int} (hi : Inc xs) (i : Nat) (h : i < xs.length) : lvl xs xs[i] = i + 1 := by
  refine lvl_eq (by omega) (fun j hj hji => ?_) (fun j hj hji => hi i j (by omega) hj)
  rcases Nat.lt_or_ge j i with h1 | h1
  · have := hi j i h1 h; omega
  · have : j = i := by omega
    subst this; omega
theorem lvl_pre {xs : List Int} (hi : Inc xs) (i : Nat) (h : i < xs.length) : lvl xs (xs[i] - 1) = i := by
  refine lvl_eq (by omega) (fun j hj hji => ?_) (fun j hj hji => ?_)
  · have := hi j i hji h; omega
  · rcases Nat.lt_or_ge i j with h1 | h1
    · have := hi i j h1 hj; omega
    · have : j = i := by omega
      subst this; omega

/-- A quantiser at b. -/
def quA (T b : Nat) (xs : List Int) : Asn := exA fun p : Option Addr × Nat => starA (cellsA b T [.slice p.1 xs.length p.2]) (rowA 3 1 p.1 xs.length p.2 (is xs))
theorem quA_open {T b : Nat} {xs : List Int} {w : World} {L : List Asn} (h : Hold w (quA T b xs :: L)) : ∃ ao cap, Hold w (cellsA b T [.slice ao xs.length cap] :: rowA 3 1 ao xs.length cap (is xs) :: L) := by
  obtain ⟨⟨ao, cap⟩, h1⟩ := Hold.ex.1 h
  exact ⟨ao, cap, Hold.star.1 h1⟩
theorem quA_close {T b : Nat} {xs : List Int} {w : World} {L : List Asn} {ao : Option Addr} {cap : Nat} (h : Hold w (cellsA b T [.slice ao xs.length cap] :: rowA 3 1 ao xs.length cap (is xs) :: L)) : Hold w (quA T b xs :: L) :=
  Hold.ex.2 ⟨(ao, cap), Hold.star.2 h⟩

/-- The closure in Level. -/
theorem clo_ok (xs : List Int) (x : Int) (b bq bx : Nat) (i : Nat) (hi : i < xs.length) (hn : xs.length ≤ 15) (w : World) (L : List Asn) (h : Hold w (cellsA bx 3 [.int .i64 x] :: cellsA bq 62 [.pointer (some ⟨b, 0, none⟩)] :: quA 87 b xs :: L)) :
    Calls Try.prog 47 #[.int .i64 i, .pointer (some ⟨bq, 0, none⟩), .pointer (some ⟨bx, 0, none⟩)] w fun e w' => e = .returned (.bool (decide (x < xs[i]))) ∧ Hold w' (cellsA bx 3 [.int .i64 x] :: cellsA bq 62 [.pointer (some ⟨b, 0, none⟩)] :: quA 87 b xs :: L) := by
  have g0 := h.cell 0
  have g1 := (h.mv 1).cell 0
  obtain ⟨ao, cap, h2⟩ := quA_open (h.mv 2)
  have g2 := h2.cell 0
  obtain ⟨rb, ro, rfl, hc, -⟩ := (h2.mv 1).at (by omega)
  have g3 := (hc i (by omega)).trans (is_get hi)
  simp only [List.getElem?_cons_zero] at g0 g1 g2
  have hii : (i : Int) < xs.length := by omega
  generalize xs[i] = y at *
  clear hc h2
  go_enter Try.func47, Try.ntmps47
  go_wp2
  go_quiet (fail)
  go_wp2
  go_ret
  exact ⟨rfl, h.drewN _⟩

/-- sort.Search over that closure. -/
theorem search_ok (xs : List Int) (hinc : Inc xs) (x : Int) (b bq bx : Nat) (hn : xs.length ≤ 15) (w : World) (L : List Asn) (h : Hold w (cellsA bx 3 [.int .i64 x] :: cellsA bq 62 [.pointer (some ⟨b, 0, none⟩)] :: quA 87 b xs :: L)) :
    Calls Try.prog 46 #[.int .i64 xs.length, .func (.func 47) #[] #[.pointer (some ⟨bq, 0, none⟩), .pointer (some ⟨bx, 0, none⟩)]] w fun e w' =>
      e = .returned (.int .i64 (lvl xs x)) ∧ Hold w' (cellsA bx 3 [.int .i64 x] :: cellsA bq 62 [.pointer (some ⟨b, 0, none⟩)] :: quA 87 b xs :: L) := by
  have HI := Lib.hid hinc
  clear hinc
  go_enter Try.func46, Try.ntmps46
  go_wp2
  go_loopw [5, 6] (fun i j wr => ∃ p q : Nat, p ≤ q ∧ q ≤ xs.length ∧ i = .int .i64 p ∧ j = .int .i64 q ∧ (∀ r (h : r < xs.length), r < p → xs[r] ≤ x) ∧ (∀ r (h : r < xs.length), q ≤ r → x < xs[r]) ∧ Hold wr (cellsA bx 3 [.int .i64 x] :: cellsA bq 62 [.pointer (some ⟨b, 0, none⟩)] :: quA 87 b xs :: L)) (fun i j _ => (intOf j).toNat - (intOf i).toNat)
  case atStart => exact ⟨0, xs.length, by omega, by omega, rfl, rfl, fun r _ h => by omega, fun r h1 h2 => by omega, h⟩
  case round =>
    obtain ⟨p, q, hpq, hq, rfl, rfl, hlo, hhi, hr⟩ := hrel
    have HL := Lib.hid hlo
    have HH := Lib.hid hhi
    clear hlo hhi h
    by_cases hlt : p < q
    · have hlti : (p : Int) < q := by omega
      obtain ⟨m, hm⟩ : ∃ m : Nat, m = (p + q) / 2 := ⟨_, rfl⟩
      have hm1 : p ≤ m := by omega
      have hm2 : m < q := by omega
      have e1 : ((p : Int) + q) / 2 = (m : Int) := by omega
      have hml : m < xs.length := by omega
      have P := fun w L h => clo_ok xs x b bq bx m hml hn w L h
      by_cases hx : x < xs[m]
      · have hd : decide (x < xs[m]) = true := by simpa using hx
        rw [hd] at P
        have HX := Lib.hid hx
        clear hx hd hm
        go_wp2_with (go_at_call 47; refine (P _ _ hr).mono ?_; rintro e w2 ⟨rfl, h2⟩)
        go_roundw
        case rel =>
          refine ⟨p, m, by omega, by omega, rfl, rfl, HL.out, fun r h1 h2 => ?_, h2⟩
          rcases Nat.lt_or_ge m r with h3 | h3
          · have := HI.out m r h3 h1; have := HX.out; omega
          · obtain rfl : r = m := by omega
            exact HX.out
        case measure => simp [intOf]; omega
      · have hd : decide (x < xs[m]) = false := by simpa using hx
        rw [hd] at P
        have HX := Lib.hid hx
        clear hx hd hm
        go_wp2_with (go_at_call 47; refine (P _ _ hr).mono ?_; rintro e w2 ⟨rfl, h2⟩)
        go_roundw
        case rel =>
          refine ⟨m + 1, q, by omega, by omega, by go_num, rfl, fun r h1 h2 => ?_, HH.out, h2⟩
          have hle := HX.out
          rcases Nat.lt_or_ge r m with h3 | h3
          · have := HI.out r m h3 hml; omega
          · obtain rfl : r = m := by omega
            omega
        case measure => simp [intOf]; omega
    · obtain rfl : p = q := by omega
      have hl := lvl_eq hq HL.out HH.out
      have HE := Lib.hid hl
      clear hl
      go_wp2_with fail
      go_ret
      exact ⟨by rw [HE.out]; rfl, hr⟩

theorem level_nil (x : Int) (w : World) (L : List Asn) (h : Hold w L) : Calls Try.prog 34 #[.pointer none, .int .i64 x] w fun e w' => e = .returned (.int .u8 0) ∧ Hold w' L := by
  have hb := h.box2 62 3 [.pointer none] [.int .i64 x]
  simp only [List.toArray] at hb
  go_enter Try.func34, Try.ntmps34
  go_wp2
  go_ret
  exact ⟨rfl, hb.drop.drop⟩

theorem level_ok (xs : List Int) (hinc : Inc xs) (x : Int) (b : Nat) (hn : xs.length ≤ 15) (w : World) (L : List Asn) (h : Hold w (quA 87 b xs :: L)) :
    Calls Try.prog 34 #[.pointer (some ⟨b, 0, none⟩), .int .i64 x] w fun e w' => e = .returned (.int .u8 (lvl xs x)) ∧ Hold w' (quA 87 b xs :: L) := by
  have hb := h.box2 62 3 [.pointer (some ⟨b, 0, none⟩)] [.int .i64 x]
  simp only [List.toArray] at hb
  have S := search_ok xs hinc x b
  have hll := lvl_le xs x
  have HI := Lib.hid hinc
  clear hinc
  generalize lvl xs x = v at *
  have W1 : IntKind.u8.wrap (v : Int) = (v : Int) := IntWalk.u8_in _ (by omega)
  go_enter Try.func34, Try.ntmps34
  go_upto_region 1 with (fail)
  refine gen_world hb (fun w1 hb => ?_)
  generalize w.heap.size + 1 = bx at *
  generalize w.heap.size = bq at *
  have g1 := (hb.mv 1).cell 0
  obtain ⟨ao, cap, h2⟩ := quA_open (hb.mv 2)
  have g2 := h2.cell 0
  simp only [List.getElem?_cons_zero] at g1 g2
  clear h2
  go_wp2_with (go_at_call 46; refine (S bq bx hn _ _ hb).mono ?_; rintro e w2 ⟨rfl, h2⟩)
  go_ret
  exact ⟨rfl, h2.drop.drop⟩

theorem levels_nil (w : World) : Calls Try.prog 33 #[.pointer none] w fun e w' => e = .returned (.int .i64 0) ∧ w = w' := by
  go_enter Try.func33, Try.ntmps33
  go_wp2
  go_ret
  exact ⟨rfl, rfl⟩

theorem levels_ok (xs : List Int) (b : Nat) (hn : xs.length ≤ 15) (w : World) (L : List Asn) (h : Hold w (quA 87 b xs :: L)) :
    Calls Try.prog 33 #[.pointer (some ⟨b, 0, none⟩)] w fun e w' => e = .returned (.int .i64 (if xs.length = 0 then 0 else xs.length + 1 : Nat)) ∧ w = w' := by
  obtain ⟨ao, cap, h2⟩ := quA_open h
  have g2 := h2.cell 0
  simp only [List.getElem?_cons_zero] at g2
  generalize xs.length = n at *
  clear h h2
  by_cases h0 : n = 0
  · rw [if_pos h0]
    subst h0
    go_enter Try.func33, Try.ntmps33
    go_wp2
    go_ret
    exact ⟨rfl, rfl⟩
  · rw [if_neg h0]
    have hz : ((n : Int) == 0) = false := by simp; omega
    go_enter Try.func33, Try.ntmps33
    go_wp2
    go_ret
    exact ⟨rfl, rfl⟩

end Go.Proofs.Ytklokbmpapjjiaa
