/- A channel as a part of memory: its contracts anew (for ChannelBefalls). -/
import Derived.Test.YtlfchokafpodcaaChanP3
import Derived.Test.YtlfchokafpodcaaRegion4
import Derived.Test.YtlfchokafpodcaaArgs2
import Derived.Test.YtlfchokafpodcaaAgg
open Go.ChangeShapes Go.WideShapes Go.ChangeAt Go.RowKit Go.Own
namespace Go.Proofs.Ytlfchokafpodcaa

theorem Ch.fr {T : Nat} {w w' : World} {b : Nat} {s : CS} {B F : List Nat} (h : Ch T w b s B) (hf : Fr F w w') (hd : ∀ k, k ∈ b :: B → k ∉ F) : Ch T w' b s B := by
  obtain ⟨⟨ao, cap, hb, ho⟩, r⟩ := h
  exact ⟨⟨ao, cap, hb.fr hf (hd b (by simp)), ho.fr hf (fun k hk => hd k (by simp [hk]))⟩, r⟩
theorem Ch.lt {T : Nat} {w : World} {b : Nat} {s : CS} {B : List Nat} (h : Ch T w b s B) : ∀ k, k ∈ b :: B → k < w.heap.size := by
  obtain ⟨⟨ao, cap, hb, ho⟩, r⟩ := h
  intro k hk
  rcases List.mem_cons.1 hk with rfl | hk
  · exact hb.lt
  · exact ho.lt k hk
theorem num_any (e : Int) (w : World) : Calls Try.prog 10 #[.int .i64 e] w fun r w' => r = .returned (.int .i64 e) ∧ w = w' := by
  go_enter Try.func10, Try.ntmps10
  go_wp2
  go_ret
  exact ⟨rfl, rfl⟩
set_option maxHeartbeats 1000000 in
theorem knows_ok (w : World) : Calls Try.prog 11 #[] w fun e w' => e = .returned (.bool true) ∧ Fr [] w w' := by
  go_enter Try.func11, Try.ntmps11
  go_wp2_with (first
    | (go_at_call 9; refine (new_ok 3 4 _ (by omega) (by omega) (by omega) (by omega)).mono ?_; rintro e w1 ⟨b, rfl, hbs, hch, hf1⟩)
    | (go_at_call 10; refine (num_any _ _).mono ?_; rintro e w' ⟨rfl, rfl⟩))
  have hal : Fr [] w1 (w1.alloc (.cells #[.int .u8 1, .int .u8 0] 5)) := (Fr.refl _ _).alloc _
  have hch1 := hch.fr hal (by simp)
  have hrd : Rd (w1.alloc (.cells #[.int .u8 1, .int .u8 0] 5)) 1 (.slice (some ⟨w1.heap.size, 0, none⟩) 2 2) 2 (ub [1, 0]) [w1.heap.size] := by
    have := (Own.new w1 5 1 2 2 #[.int .u8 1, .int .u8 0] (by omega) (by unfold maxLen; omega) (by simp)).rd
    simpa [ub] using this
  have hlt := hch.lt b (by simp)
  have hput : CS.put ⟨(3 : Int).toNat, (4 : Int).toNat, [], 0⟩ [1, 0] = ⟨3, 4, [3, 0], 0⟩ := by rfl
  refine (put_ok b _ [1, 0] [] _ 2 2 _ _ hch1 hrd (by simp; omega) (by simp)).mono ?_
  rintro e w2 ⟨rfl, B2, hch2, hf2, hB2⟩
  rw [hput] at hch2
  go_wp2_with (first
    | (go_at_call 10; refine (num_any _ _).mono ?_; rintro e w' ⟨rfl, rfl⟩)
    | (go_at_call 16; refine (len_ok b _ B2 _ hch2).mono ?_; rintro e w' ⟨rfl, rfl⟩)
    | (go_at_call 13; refine (look_ok b _ B2 _ hch2).mono ?_; rintro e w3 ⟨rfl, ho3, hf3, hs3⟩; have T1 : Sem.run Try.prog (convert 22 9 (.slice (some ⟨w2.heap.size, 0, none⟩) 2 2)) w3 = .ok (.string ⟨#[3, 0]⟩) w3 := (run_text Try.underlying22 Try.underlying5 Try.underlying9 ho3.rd)))
  go_ret
  exact ⟨rfl, (((hf1.trans hal (by simp)).trans hf2 (by simp; omega)).trans hf3 (by simp))⟩

/-! ### Channels as parts. -/
def chA (b : Nat) (s : CS) : Asn := exA fun p : Option Addr × Nat => starA (pureA s.ok) (starA (cellsA b 53 [.int .i64 s.room, .int .i64 s.levels, .slice p.1 s.l.length p.2, .int .u64 s.passed]) (rowA 5 1 p.1 s.l.length p.2 (ub s.l)))
theorem ch_use {w : World} {b : Nat} {s : CS} {L : List Asn} (h : Hold w (chA b s :: L)) : ∃ B, Ch 53 w b s B ∧ ∀ w' s', Upd 53 w b B w' s' → Hold w' (chA b s' :: L) := by
  obtain ⟨B0, h1, hlt, hstep⟩ := h.step
  obtain ⟨⟨ao, cap⟩, P, B1, rfl, ⟨rfl, hok⟩, Bb, B, rfl, ⟨rfl, hb⟩, ho⟩ := h1
  have hnd : ([] ++ ([b] ++ B)).Nodup := by
    obtain ⟨B2, h3, h4, -⟩ := h.first
    obtain ⟨⟨ao2, cap2⟩, P, B3, rfl, ⟨rfl, -⟩, Bb, B4, rfl, ⟨rfl, hb2⟩, ho2⟩ := h3
    have e : ao2 = ao ∧ cap2 = cap := by
      have h5 : w.cell? ⟨b, 2, none⟩ = _ := hb.cell 2
      rw [hb2.cell 2] at h5
      simpa using h5
    obtain ⟨rfl, rfl⟩ := e
    have e2 : B4 = B := by
      rcases ho.shape with ⟨_, hv, _, rfl⟩ | ⟨c, _, _, _, rfl, hv, _⟩ <;> rcases ho2.shape with ⟨_, hv2, _, rfl⟩ | ⟨c2, _, _, _, rfl, hv2, _⟩ <;> first | rfl | simp_all
    rw [← e2]; exact h4
  simp only [List.nil_append, List.cons_append, List.nodup_cons] at hnd hlt hstep ⊢
  refine ⟨B, ⟨⟨ao, cap, hb, ho⟩, hnd.1, hok⟩, fun w' s' hu => ?_⟩
  obtain ⟨B', ⟨⟨ao', cap', hb', ho'⟩, hn', hok'⟩, hf, hB'⟩ := hu
  refine hstep w' (chA b s') (b :: B') hf ⟨(ao', cap'), [], b :: B', rfl, ⟨rfl, hok'⟩, [b], B', rfl, ⟨rfl, hb'⟩, ho'⟩ (List.nodup_cons.2 ⟨hn', ho'.nodup⟩) (fun k hk => ?_)
  rcases List.mem_cons.1 hk with rfl | hk
  · exact ⟨.inl (by simp), hb'.lt⟩
  · refine ⟨?_, ho'.lt k hk⟩
    rcases hB' k hk with h | h
    · exact .inl (by simp [h])
    · exact .inr h


section
variable {b : Nat} {s : CS} {w : World} {L : List Asn}
theorem ch_ok (h : Hold w (chA b s :: L)) : s.ok := by
  obtain ⟨B, h1, -⟩ := ch_use h
  exact h1.2.2
theorem knows_h (h : Hold w L) : Calls Try.prog 11 #[] w fun e w' => e = .returned (.bool true) ∧ Hold w' L :=
  (knows_ok w).mono fun e w' ⟨he, hf⟩ => ⟨he, h.fr hf⟩
theorem new_h (h : Hold w L) : Calls Try.prog 9 #[.int .i64 65536, .int .i64 16] w fun e w' => ∃ b, e = .returned (.tuple #[.pointer (some ⟨b, 0, none⟩), .int .i64 0]) ∧ Hold w' (chA b ⟨65536, 16, [], 0⟩ :: L) := by
  refine (new_ok 65536 16 w (by omega) (by omega) (by omega) (by omega)).mono ?_
  rintro e w' ⟨b, he, hb, ⟨⟨ao, cap, hbk, ho⟩, hn, hok⟩, hf⟩
  refine ⟨b, he, h.new hf (A := chA b ⟨65536, 16, [], 0⟩) (B := [b]) ⟨(ao, cap), [], [b], rfl, ⟨rfl, hok⟩, [b], [], rfl, ⟨rfl, hbk⟩, ho⟩ (by simp) (fun k hk => ?_)⟩
  obtain rfl : k = b := by simpa using hk
  exact ⟨hb, hbk.lt⟩
theorem look_h (h : Hold w (chA b s :: L)) : Calls Try.prog 13 #[.pointer (some ⟨b, 0, none⟩)] w fun e w' => e = .returned (.slice (some ⟨w.heap.size, 0, none⟩) s.l.length s.l.length) ∧ Hold w' (rowA 5 1 (some ⟨w.heap.size, 0, none⟩) s.l.length s.l.length (ub s.l) :: chA b s :: L) := by
  obtain ⟨B, h1, -⟩ := ch_use h
  refine (look_ok b s B w h1).mono ?_
  rintro e w' ⟨he, ho, hf, hlt⟩
  exact ⟨he, h.new hf (A := rowA 5 1 (some ⟨w.heap.size, 0, none⟩) s.l.length s.l.length (ub s.l)) (B := [w.heap.size]) ho (by simp) (fun k hk => (by have e : k = w.heap.size := (by simpa using hk); rw [e]; exact ⟨Nat.le_refl _, hlt⟩))⟩
theorem len_h (h : Hold w (chA b s :: L)) : Calls Try.prog 16 #[.pointer (some ⟨b, 0, none⟩)] w fun e w' => e = .returned (.int .i64 s.l.length) ∧ w = w' := by
  obtain ⟨B, h1, -⟩ := ch_use h
  exact len_ok b s B w h1
theorem passed_h (h : Hold w (chA b s :: L)) : Calls Try.prog 17 #[.pointer (some ⟨b, 0, none⟩)] w fun e w' => e = .returned (.int .u64 s.passed) ∧ w = w' := by
  obtain ⟨B, h1, -⟩ := ch_use h
  exact passed_ok b s B w h1
theorem put_h {ao : Option Addr} {n cap : Nat} {bs : List UInt8} (h : Hold w (chA b s :: rowA 5 1 ao n cap (ub bs) :: L)) (hbits : ∀ x ∈ bs, x ≤ 1) :
    Calls Try.prog 12 #[.pointer (some ⟨b, 0, none⟩), .slice ao n cap] w fun e w' => e = .returned (.tuple #[.int .i64 (n - min n (s.room - s.l.length) : Nat), .int .i64 0]) ∧ Hold w' (chA b (s.put bs) :: rowA 5 1 ao n cap (ub bs) :: L) := by
  obtain ⟨B, h1, hst⟩ := ch_use h
  -- the row lies apart from the channel
  have hap : ∃ S, Rd w 1 (.slice ao n cap) n (ub bs) S ∧ ∀ k, k ∈ S → k ∉ b :: B := by
    obtain ⟨X, ⟨B0, Y, rfl, g1, ⟨B2, Y2, rfl, g2, g3⟩⟩, g4, g5⟩ := h
    have hB : ∀ k, k ∈ b :: B → k ∈ B0 := by
      obtain ⟨⟨ao1, cap1⟩, P, B1, rfl, ⟨rfl, hok⟩, Bb, B3, rfl, ⟨rfl, hb⟩, ho⟩ := g1
      obtain ⟨⟨ao2, cap2, hb2, ho2⟩, -, -⟩ := h1
      have e : ao2 = ao1 ∧ cap2 = cap1 := by
        have h5 : w.cell? ⟨b, 2, none⟩ = _ := hb.cell 2
        rw [hb2.cell 2] at h5
        simpa using h5
      obtain ⟨rfl, rfl⟩ := e
      have e2 : B3 = B := by
        rcases ho.shape with ⟨_, hv, _, rfl⟩ | ⟨c, _, _, _, rfl, hv, _⟩ <;> rcases ho2.shape with ⟨_, hv2, _, rfl⟩ | ⟨c2, _, _, _, rfl, hv2, _⟩ <;> first | rfl | simp_all
      subst e2
      intro k hk
      simpa using hk
    refine ⟨B2, Own.rd g2, fun k hk hk2 => ?_⟩
    rw [List.nodup_append] at g4
    exact g4.2.2 k (hB k hk2) k (by simp [hk]) rfl
  obtain ⟨S, hr, hS⟩ := hap
  refine (put_ok b s bs B S n cap ao w h1 hr hS hbits).mono ?_
  rintro e w' ⟨he, hu⟩
  exact ⟨he, hst w' _ hu⟩
theorem set_h (p : Nat) (x : UInt8) (hx : x.toNat < s.levels) (hp : p < s.l.length) (h : Hold w (chA b s :: L)) :
    Calls Try.prog 18 #[.pointer (some ⟨b, 0, none⟩), .int .i64 p, .int .u8 x.toNat] w fun e w' => e = .returned (.int .i64 0) ∧ Hold w' (chA b (s.set p x) :: L) := by
  obtain ⟨B, h1, hst⟩ := ch_use h
  refine (set_ok b s B p x w h1 (by unfold rightE; rw [if_neg (by omega), if_neg (by omega)]) hp).mono ?_
  rintro e w' ⟨he, hu⟩
  exact ⟨he, hst w' _ hu⟩
theorem slip_h (p : Nat) (hp : p < s.l.length) (h : Hold w (chA b s :: L)) :
    Calls Try.prog 19 #[.pointer (some ⟨b, 0, none⟩), .int .i64 p] w fun e w' => e = .returned (.int .i64 0) ∧ Hold w' (chA b (s.slip p) :: L) := by
  obtain ⟨B, h1, hst⟩ := ch_use h
  have hl := h1.2.2.2.2.1
  refine (slip_ok b s B p w h1 (by unfold rightE; rw [if_neg (by omega), if_neg (by simp; omega)]) hp).mono ?_
  rintro e w' ⟨he, hu⟩
  exact ⟨he, hst w' _ hu⟩
theorem insert_h (p : Nat) (x : UInt8) (hx : x.toNat < s.levels) (hp : p ≤ s.l.length) (hr : s.l.length < s.room) (h : Hold w (chA b s :: L)) :
    Calls Try.prog 20 #[.pointer (some ⟨b, 0, none⟩), .int .i64 p, .int .u8 x.toNat] w fun e w' => e = .returned (.int .i64 0) ∧ Hold w' (chA b (s.insert p x) :: L) := by
  obtain ⟨B, h1, hst⟩ := ch_use h
  refine (insert_ok b s B p x w h1 (by unfold rightE; rw [if_neg (by omega), if_neg (by omega)]) hp hr).mono ?_
  rintro e w' ⟨he, hu⟩
  exact ⟨he, hst w' _ hu⟩
/-- A call that is refused. -/
def Refused (e : Ending) : Prop := ∃ z : Int, (z == 0) = false ∧ e = .returned (.int .i64 z)
theorem right_bad (p m : Int) (x : UInt8) (hb : p < 0 ∨ m < p ∨ s.levels ≤ x.toNat) : (rightE s p m x == 0) = false := by
  unfold rightE
  split
  · rfl
  · rw [if_pos (by omega)]; rfl
theorem set_no_h (p : Int) (x : UInt8) (hb : p < 0 ∨ (s.l.length : Int) ≤ p ∨ s.levels ≤ x.toNat) (h : Hold w (chA b s :: L)) :
    Calls Try.prog 18 #[.pointer (some ⟨b, 0, none⟩), .int .i64 p, .int .u8 x.toNat] w fun e w' => Refused e ∧ Hold w' (chA b s :: L) := by
  obtain ⟨B, h1, -⟩ := ch_use h
  have hz := right_bad (s := s) p (s.l.length - 1) x (by omega)
  refine (set_err b s B p x w h1 hz).mono ?_
  rintro e w' ⟨he, rfl⟩
  exact ⟨⟨_, hz, he⟩, h⟩
theorem slip_no_h (p : Int) (hb : p < 0 ∨ (s.l.length : Int) ≤ p) (h : Hold w (chA b s :: L)) :
    Calls Try.prog 19 #[.pointer (some ⟨b, 0, none⟩), .int .i64 p] w fun e w' => Refused e ∧ Hold w' (chA b s :: L) := by
  obtain ⟨B, h1, -⟩ := ch_use h
  have hz := right_bad (s := s) p (s.l.length - 1) 0 (by omega)
  refine (slip_err b s B p w h1 hz).mono ?_
  rintro e w' ⟨he, rfl⟩
  exact ⟨⟨_, hz, he⟩, h⟩
theorem insert_no_h (p : Int) (x : UInt8) (hb : p < 0 ∨ (s.l.length : Int) < p ∨ s.levels ≤ x.toNat ∨ s.room ≤ s.l.length) (h : Hold w (chA b s :: L)) :
    Calls Try.prog 20 #[.pointer (some ⟨b, 0, none⟩), .int .i64 p, .int .u8 x.toNat] w fun e w' => Refused e ∧ Hold w' (chA b s :: L) := by
  obtain ⟨B, h1, hst⟩ := ch_use h
  by_cases hz : rightE s p s.l.length x = 0
  · have hfull : s.room ≤ s.l.length := by
      unfold rightE at hz
      split at hz
      · cases hz
      · split at hz
        · cases hz
        · omega
    refine (insert_full b s B p x w h1 hz hfull).mono ?_
    rintro e w' ⟨he, hu⟩
    exact ⟨⟨_, rfl, he⟩, hst w' _ hu⟩
  · have hz2 : (rightE s p s.l.length x == 0) = false := by simpa using hz
    refine (insert_err b s B p x w h1 hz2).mono ?_
    rintro e w' ⟨he, rfl⟩
    exact ⟨⟨_, hz2, he⟩, h⟩
end

/-! ### The list of operations. -/
theorem c3 : Try.prog.cellsOf 3 = 1 := by kernel_rfl
theorem c5 : Try.prog.cellsOf 5 = 1 := by kernel_rfl
theorem b5 : Try.prog.bytesOf 5 = 1 := by kernel_rfl
theorem c22 : Try.prog.cellsOf 22 = 1 := by kernel_rfl
theorem c39 : Try.prog.cellsOf 39 = 4 := by kernel_rfl
theorem b39 : Try.prog.bytesOf 39 = 48 := by kernel_rfl
theorem four_cells {vs : List Value} {v0 v1 v2 v3 : Value} (h : vs.length = 4) (g0 : vs[0]? = some v0) (g1 : vs[1]? = some v1) (g2 : vs[2]? = some v2) (g3 : vs[3]? = some v3) : vs = [v0, v1, v2, v3] := by
  match vs, h, g0, g1, g2, g3 with
  | [_, _, _, _], _, g0, g1, g2, g3 => simp at g0 g1 g2 g3; simp [g0, g1, g2, g3]
theorem u8_wf {n : Int} (h : (Lit.int .u8 n).wf = true) : ∃ x : UInt8, n = x.toNat := by
  simp only [Lit.wf, IntKind.has, IntKind.min, IntKind.max, IntKind.bits, IntKind.signed, Bool.and_eq_true, decide_eq_true_eq] at h
  simp at h
  refine ⟨UInt8.ofNat n.toNat, ?_⟩
  rw [UInt8.toNat_ofNat']
  omega
def I64 (n : Int) : Prop := -9223372036854775808 ≤ n ∧ n ≤ 9223372036854775807
theorem i64_wf {n : Int} (h : (Lit.int .i64 n).wf = true) : I64 n := by
  simp only [Lit.wf, IntKind.has, IntKind.min, IntKind.max, IntKind.bits, IntKind.signed, Bool.and_eq_true, decide_eq_true_eq] at h
  simpa [I64] using h
/-- One operation's cells. -/
def OpRow (vs : List Value) : Prop := ∃ (K : Int) (ao : Option Addr) (m cap : Nat) (N : Int) (x : UInt8), vs = [.int .i64 K, .slice ao m cap, .int .i64 N, .int .u8 x.toNat] ∧ I64 N
section
variable {H : Type} {enc0 : TypeId × Value → H} {W : World} {r : Reach} {b1 : Nat} {v : Value} {d : DataW H} {ps : List MemPlace}
theorem opRow {fuel : Nat} {vs : List Value} {x : DataW H × List MemPlace} (h : DataW.trod enc0 Try.prog W 0 (fun _ => true) true fuel 39 vs = some x) (hlt : ∀ p ∈ x.2, p.block < W.heap.size) (hw : ∀ q ∈ x.1.weights Try.prog 39, q ≤ reachBytes) : OpRow vs := by
  obtain ⟨h1, f2, h2⟩ := trod_fields2 Try.underlying39 h
  rw [c39] at h1
  obtain ⟨y0, a0, -, -⟩ := h2 _ (List.mem_of_getElem? (i := 0) rfl)
  obtain ⟨y1, a1, p1, w1⟩ := h2 _ (List.mem_of_getElem? (i := 1) rfl)
  obtain ⟨y2, a2, -, -⟩ := h2 _ (List.mem_of_getElem? (i := 2) rfl)
  obtain ⟨y3, a3, -, -⟩ := h2 _ (List.mem_of_getElem? (i := 3) rfl)
  simp only [c3, c22, c5] at a0 a1 a2 a3
  obtain ⟨K, e0, -, -⟩ := DataW.trod_int Try.underlying3 a0
  obtain ⟨ao, n, cap, ys, S, e1, r1, s1, n1⟩ := trod_bytes Try.underlying22 Try.underlying5 c5 b5 a1 (fun p hp => hlt p (p1 p hp)) (fun q hq => hw q (w1 q hq))
  obtain ⟨N, e2, -, w2⟩ := DataW.trod_int Try.underlying3 a2
  obtain ⟨x, e3, -, w3⟩ := DataW.trod_int Try.underlying5 a3
  obtain ⟨x, rfl⟩ := u8_wf w3
  exact ⟨K, ao, n, cap, N, x, four_cells h1 (cell_at e0) (cell_at e1) (cell_at e2) (cell_at e3), i64_wf w2⟩
theorem open_ops (hval : Value.okWide Try.prog W r b1 36 v) (hd : DataW.Trod enc0 Try.prog W 0 (fun _ => true) true 36 v d ps) (hlt : ∀ p ∈ ps, p.block < W.heap.size) (hw : ∀ q ∈ d.weights Try.prog 36, q ≤ reachBytes) :
    ∃ ao n cap, v = .slice ao n cap ∧ RowsOf (oldA W) 4 OpRow ao n cap ∧ n * 48 ≤ 140737488351232 :=
  open_structs Try.underlying36 c39 b39 (by omega) (fun fuel cs x h1 h2 h3 => opRow h1 h2 h3) hval hd hlt hw
theorem open_w (hval : Value.okWide Try.prog W r b1 22 v) (hd : DataW.Trod enc0 Try.prog W 0 (fun _ => true) true 22 v d ps) (hlt : ∀ p ∈ ps, p.block < W.heap.size) (hw : ∀ q ∈ d.weights Try.prog 22, q ≤ reachBytes) :
    ∃ ao n cap ys, v = .slice ao n cap ∧ Reads (oldA W) 1 (.slice ao n cap) n (ub ys) ∧ n ≤ 140737488351232 := by
  obtain ⟨fuel, hf⟩ := hd
  obtain ⟨ao0, n0, cap0, rfl⟩ := okWide_slice Try.underlying22 hval
  obtain ⟨ao, n, cap, ys, S, e1, r1, s1, n1⟩ := trod_bytes Try.underlying22 Try.underlying5 c5 b5 hf hlt hw
  simp [Value.cells] at e1
  obtain ⟨rfl, rfl, rfl⟩ := e1
  exact ⟨ao0, n0, cap0, ys, rfl, Reads.old r1 s1, n1⟩
end

end Go.Proofs.Ytlfchokafpodcaa
