/- Each method's contract, for a channel that is one and for one that is none. -/
import Derived.Test.YtlfchokafpodcaaChanL
open Go.RowKit Go.Own
namespace Go.Proofs.Ytlfchokafpodcaa

theorem PCh.mk {w : World} {b : Nat} {s : CS} {B : List Nat} (h : Ch 53 w b s B) : PCh w (.pointer (some ⟨b, 0, none⟩)) (some s) (b :: B) := ⟨b, B, rfl, h, rfl⟩
theorem RCh.mk {w : World} {b : Nat} {s : CS} {B : List Nat} (h : Ch 60 w b s B) : RCh w (.pointer (some ⟨b, 0, none⟩)) (some s) (b :: B) := ⟨b, B, rfl, h, rfl⟩
theorem RCh.none' {w : World} : RCh w (.pointer none) none [] := ⟨rfl, rfl⟩

def MPost (w : World) (pv : Value) (F : List Nat) (r : Value) (so : Option CS) (e : Ending) (w' : World) : Prop :=
  e = .returned r ∧ ∃ F', PCh w' pv so F' ∧ Fr F w w' ∧ (∀ k, k ∈ F' → k ∈ F ∨ w.heap.size ≤ k)
def NPost (w : World) (pv : Value) (F : List Nat) (r : Value) (so : Option CS) (e : Ending) (w' : World) : Prop :=
  e = .returned r ∧ ∃ F', RCh w' pv so F' ∧ Fr F w w' ∧ (∀ k, k ∈ F' → k ∈ F ∨ w.heap.size ≤ k)

theorem MPost.of_same {w : World} {pv : Value} {F : List Nat} {r : Value} {so : Option CS} (h : PCh w pv so F) {P : Program} {f : FuncId} {args : Array Value} (hc : Calls P f args w fun e w' => e = .returned r ∧ w = w') : Calls P f args w (MPost w pv F r so) :=
  hc.mono fun e w' ⟨he, hw⟩ => by subst hw; exact ⟨he, F, h, Fr.refl _ _, fun _ h => .inl h⟩
theorem NPost.of_same {w : World} {pv : Value} {F : List Nat} {r : Value} {so : Option CS} (h : RCh w pv so F) {P : Program} {f : FuncId} {args : Array Value} (hc : Calls P f args w fun e w' => e = .returned r ∧ w = w') : Calls P f args w (NPost w pv F r so) :=
  hc.mono fun e w' ⟨he, hw⟩ => by subst hw; exact ⟨he, F, h, Fr.refl _ _, fun _ h => .inl h⟩

theorem MPost.of_upd {w : World} {b : Nat} {B : List Nat} {r : Value} {s : CS} {P : Program} {f : FuncId} {args : Array Value} (hc : Calls P f args w fun e w' => e = .returned r ∧ Upd 53 w b B w' s) :
    Calls P f args w (MPost w (.pointer (some ⟨b, 0, none⟩)) (b :: B) r (some s)) :=
  hc.mono fun e w' ⟨he, B', h1, h2, h3⟩ => ⟨he, b :: B', ⟨b, B', rfl, h1, rfl⟩, h2, fun k hk => by
    rcases List.mem_cons.1 hk with rfl | hk
    · exact .inl (by simp)
    · rcases h3 k hk with h | h
      · exact .inl (by simp [h])
      · exact .inr h⟩
theorem NPost.of_upd {w : World} {b : Nat} {B : List Nat} {r : Value} {s : CS} {P : Program} {f : FuncId} {args : Array Value} (hc : Calls P f args w fun e w' => e = .returned r ∧ Upd 60 w b B w' s) :
    Calls P f args w (NPost w (.pointer (some ⟨b, 0, none⟩)) (b :: B) r (some s)) :=
  hc.mono fun e w' ⟨he, B', h1, h2, h3⟩ => ⟨he, b :: B', ⟨b, B', rfl, h1, rfl⟩, h2, fun k hk => by
    rcases List.mem_cons.1 hk with rfl | hk
    · exact .inl (by simp)
    · rcases h3 k hk with h | h
      · exact .inl (by simp [h])
      · exact .inr h⟩

/-! Put, where a symbol is none. -/
def Bits (bs : List UInt8) : Prop := ∀ x ∈ bs, x ≤ 1

set_option maxHeartbeats 1000000 in
theorem put_bad (b : Nat) (s : CS) (bs : List UInt8) (B S : List Nat) (n cap : Nat) (ao : Option Addr) (w : World) (h : Ch 53 w b s B)
    (hr : Rd w 1 (.slice ao n cap) n (ub bs) S) (hbits : ¬ Bits bs) :
    Calls Try.prog 12 #[.pointer (some ⟨b, 0, none⟩), .slice ao n cap] w fun e w' => e = .returned (.tuple #[.int .i64 0, .int .i64 10]) ∧ w = w' := by
  obtain ⟨room, levels, l, passed⟩ := s
  obtain ⟨⟨lao, lcap, hb, ho⟩, hbB, hroom1, hroom2, hl1, hl2, hlr, hp⟩ := h
  dsimp only at *
  obtain ⟨hlen, hnc, hcm⟩ := hr.bounds
  have hn : bs.length = n := by simpa using hlen
  unfold maxLen at hcm
  have c0 := hb.cell 0
  simp at c0
  clear hb ho hp
  go_enter Try.func12, Try.ntmps12
  go_wp2_with (go_at_call 24; refine (good_yes b _ _ c0 (by omega)).mono ?_; rintro e w' ⟨rfl, rfl⟩)
  go_loop [16] (fun i => ∃ k : Nat, k ≤ n ∧ i = .int .i64 k ∧ ∀ j x, j < k → bs[j]? = some x → x ≤ 1) (fun i => n - (intOf i).toNat)
  case atStart => exact ⟨0, Nat.zero_le _, rfl, fun j _ h => by omega⟩
  case round =>
    obtain ⟨k, hk, rfl, hsm⟩ := hrel
    by_cases hlt : k < n
    · obtain ⟨sb, so, rfl, rfl, hsb, hcs⟩ := hr.addr (by omega)
      obtain ⟨x, hxk⟩ : ∃ x, bs[k]? = some x := ⟨_, List.getElem?_eq_getElem (by omega)⟩
      have hck : w.cell? ⟨sb, so + k, none⟩ = some (.int .u8 (x.toNat : Int)) := by
        rw [hcs k (by omega), ub_get? hxk]
      have HS := Lib.hid hsm
      have HK := Lib.hid hxk
      clear hcs hbits hsm hxk
      by_cases hx : ((x.toNat : Nat) : Int) ≤ 1
      · go_wp2_with fail
        go_round
        case rel =>
          refine ⟨k + 1, by omega, by go_num, fun j y hj hy => ?_⟩
          by_cases hjk : j = k
          · subst hjk
            have : x = y := by have := HK.out; rw [hy] at this; simpa using this.symm
            subst this
            exact UInt8.le_iff_toNat_le.2 (by simp; omega)
          · exact HS.out j y (by omega) hy
        case measure => simp [intOf]; omega
      · go_wp2_with fail
        go_ret2
        exact ⟨rfl, rfl⟩
    · exfalso
      refine hbits (fun x hx => ?_)
      obtain ⟨j, hj⟩ := List.getElem?_of_mem hx
      exact hsm j x (by have := (List.getElem?_eq_some_iff.1 hj).1; omega) hj

set_option maxHeartbeats 1000000 in
theorem rput_bad (b : Nat) (bs : List UInt8) (S : List Nat) (n cap : Nat) (ao : Option Addr) (w : World)
    (hr : Rd w 1 (.slice ao n cap) n (ub bs) S) (hbits : ¬ Bits bs) :
    Calls Try.prog 32 #[.pointer (some ⟨b, 0, none⟩), .slice ao n cap] w fun e w' => e = .returned (.tuple #[.int .i64 0, .int .i64 10]) ∧ w = w' := by
  obtain ⟨hlen, hnc, hcm⟩ := hr.bounds
  have hn : bs.length = n := by simpa using hlen
  unfold maxLen at hcm
  go_enter Try.func32, Try.ntmps32
  go_wp2
  go_loop [6] (fun i => ∃ k : Nat, k ≤ n ∧ i = .int .i64 k ∧ ∀ j x, j < k → bs[j]? = some x → x ≤ 1) (fun i => n - (intOf i).toNat)
  case atStart => exact ⟨0, Nat.zero_le _, rfl, fun j _ h => by omega⟩
  case round =>
    obtain ⟨k, hk, rfl, hsm⟩ := hrel
    by_cases hlt : k < n
    · obtain ⟨sb, so, rfl, rfl, hsb, hcs⟩ := hr.addr (by omega)
      obtain ⟨x, hxk⟩ : ∃ x, bs[k]? = some x := ⟨_, List.getElem?_eq_getElem (by omega)⟩
      have hck : w.cell? ⟨sb, so + k, none⟩ = some (.int .u8 (x.toNat : Int)) := by
        rw [hcs k (by omega), ub_get? hxk]
      have HS := Lib.hid hsm
      have HK := Lib.hid hxk
      clear hcs hbits hsm hxk
      by_cases hx : ((x.toNat : Nat) : Int) ≤ 1
      · go_wp2_with fail
        go_round
        case rel =>
          refine ⟨k + 1, by omega, by go_num, fun j y hj hy => ?_⟩
          by_cases hjk : j = k
          · subst hjk
            have : x = y := by have := HK.out; rw [hy] at this; simpa using this.symm
            subst this
            exact UInt8.le_iff_toNat_le.2 (by simp; omega)
          · exact HS.out j y (by omega) hy
        case measure => simp [intOf]; omega
      · go_wp2_with fail
        go_ret2
        exact ⟨rfl, rfl⟩
    · exfalso
      refine hbits (fun x hx => ?_)
      obtain ⟨j, hj⟩ := List.getElem?_of_mem hx
      exact hsm j x (by have := (List.getElem?_eq_some_iff.1 hj).1; omega) hj

open Classical in
noncomputable def putR (so : Option CS) (bs : List UInt8) : Int × Int × Option CS :=
  match so with
  | none => (0, 1, none)
  | some s => if Bits bs then (((bs.length - min bs.length (s.room - s.l.length) : Nat) : Int), 0, some (s.put bs)) else (0, 10, some s)

theorem pput (so : Option CS) (pv : Value) (F S : List Nat) (bs : List UInt8) (n cap : Nat) (ao : Option Addr) (w : World) (h : PCh w pv so F) (hr : Rd w 1 (.slice ao n cap) n (ub bs) S) (hS : ∀ k, k ∈ S → k ∉ F) :
    Calls Try.prog 12 #[pv, .slice ao n cap] w (MPost w pv F (.tuple #[.int .i64 (putR so bs).1, .int .i64 (putR so bs).2.1]) (putR so bs).2.2) := by
  have hn : bs.length = n := by simpa using hr.bounds.1
  cases so with
  | none => exact MPost.of_same h (put_no pv _ w h.no)
  | some s =>
    obtain ⟨b, B, rfl, h2, rfl⟩ := h
    unfold putR
    by_cases hb : Bits bs
    · simp only [if_pos hb, hn]
      exact MPost.of_upd (put_ok b s bs B S n cap ao w h2 hr hS hb)
    · simp only [if_neg hb]
      exact MPost.of_same (PCh.mk h2) (put_bad b s bs B S n cap ao w h2 hr hb)

theorem rput (so : Option CS) (pv : Value) (F S : List Nat) (bs : List UInt8) (n cap : Nat) (ao : Option Addr) (w : World) (h : RCh w pv so F) (hr : Rd w 1 (.slice ao n cap) n (ub bs) S) (hS : ∀ k, k ∈ S → k ∉ F) :
    Calls Try.prog 32 #[pv, .slice ao n cap] w (NPost w pv F (.tuple #[.int .i64 (putR so bs).1, .int .i64 (putR so bs).2.1]) (putR so bs).2.2) := by
  have hn : bs.length = n := by simpa using hr.bounds.1
  cases so with
  | none =>
    obtain ⟨rfl, rfl⟩ := h
    exact NPost.of_same RCh.none' (rput_no _ w)
  | some s =>
    obtain ⟨b, B, rfl, h2, rfl⟩ := h
    unfold putR
    by_cases hb : Bits bs
    · simp only [if_pos hb, hn]
      exact NPost.of_upd (rput_ok b s bs B S n cap ao w h2 hr hS hb)
    · simp only [if_neg hb]
      exact NPost.of_same (RCh.mk h2) (rput_bad b bs S n cap ao w hr hb)

def setR (so : Option CS) (p : Int) (x : UInt8) : Int × Option CS :=
  match so with
  | none => (1, none)
  | some s => if rightE s p (s.l.length - 1) x = 0 then (0, some (s.set p.toNat x)) else (rightE s p (s.l.length - 1) x, some s)
def slipR (so : Option CS) (p : Int) : Int × Option CS :=
  match so with
  | none => (1, none)
  | some s => if rightE s p (s.l.length - 1) 0 = 0 then (0, some (s.slip p.toNat)) else (rightE s p (s.l.length - 1) 0, some s)
def insertR (so : Option CS) (p : Int) (x : UInt8) : Int × Option CS :=
  match so with
  | none => (1, none)
  | some s => if rightE s p s.l.length x = 0 then (if s.room ≤ s.l.length then (2, some s) else (0, some (s.insert p.toNat x))) else (rightE s p s.l.length x, some s)

theorem rightE_zero {s : CS} {p m : Int} {x : UInt8} (h : rightE s p m x = 0) : 0 ≤ p ∧ p ≤ m ∧ x.toNat < s.levels := by
  unfold rightE at h
  by_cases h1 : p < 0 ∨ m < p
  · rw [if_pos h1] at h; omega
  · rw [if_neg h1] at h
    by_cases h2 : s.levels ≤ x.toNat
    · rw [if_pos h2] at h; omega
    · omega

theorem pset (so : Option CS) (pv : Value) (F : List Nat) (p : Int) (x : UInt8) (w : World) (h : PCh w pv so F) :
    Calls Try.prog 18 #[pv, .int .i64 p, .int .u8 x.toNat] w (MPost w pv F (.int .i64 (setR so p x).1) (setR so p x).2) := by
  cases so with
  | none => exact MPost.of_same h (set_no pv p x w h.no)
  | some s =>
    obtain ⟨b, B, rfl, h2, rfl⟩ := h
    unfold setR
    by_cases he : rightE s p (s.l.length - 1) x = 0
    · simp only [if_pos he]
      obtain ⟨g1, g2, g3⟩ := rightE_zero he
      obtain ⟨q, rfl⟩ := Int.eq_ofNat_of_zero_le g1
      exact MPost.of_upd (set_ok b s B q x w h2 he (by omega))
    · simp only [if_neg he]
      exact MPost.of_same (PCh.mk h2) (set_err b s B p x w h2 (by simpa using he))

theorem rset (so : Option CS) (pv : Value) (F : List Nat) (p : Int) (x : UInt8) (w : World) (h : RCh w pv so F) :
    Calls Try.prog 36 #[pv, .int .i64 p, .int .u8 x.toNat] w (NPost w pv F (.int .i64 (setR so p x).1) (setR so p x).2) := by
  cases so with
  | none =>
    obtain ⟨rfl, rfl⟩ := h
    exact NPost.of_same RCh.none' (rset_no _ _ w)
  | some s =>
    obtain ⟨b, B, rfl, h2, rfl⟩ := h
    unfold setR
    by_cases he : rightE s p (s.l.length - 1) x = 0
    · simp only [if_pos he]
      obtain ⟨g1, g2, g3⟩ := rightE_zero he
      obtain ⟨q, rfl⟩ := Int.eq_ofNat_of_zero_le g1
      exact NPost.of_upd (rset_ok b s B q x w h2 (by omega) g3)
    · simp only [if_neg he]
      exact NPost.of_same (RCh.mk h2) (rset_err b s B p x w h2 (by simpa using he))

theorem pslip (so : Option CS) (pv : Value) (F : List Nat) (p : Int) (w : World) (h : PCh w pv so F) :
    Calls Try.prog 19 #[pv, .int .i64 p] w (MPost w pv F (.int .i64 (slipR so p).1) (slipR so p).2) := by
  cases so with
  | none => exact MPost.of_same h (slip_no pv p w h.no)
  | some s =>
    obtain ⟨b, B, rfl, h2, rfl⟩ := h
    unfold slipR
    by_cases he : rightE s p (s.l.length - 1) 0 = 0
    · simp only [if_pos he]
      obtain ⟨g1, g2, g3⟩ := rightE_zero he
      obtain ⟨q, rfl⟩ := Int.eq_ofNat_of_zero_le g1
      exact MPost.of_upd (slip_ok b s B q w h2 he (by omega))
    · simp only [if_neg he]
      exact MPost.of_same (PCh.mk h2) (slip_err b s B p w h2 (by simpa using he))

theorem rslip (so : Option CS) (pv : Value) (F : List Nat) (p : Int) (w : World) (h : RCh w pv so F) :
    Calls Try.prog 37 #[pv, .int .i64 p] w (NPost w pv F (.int .i64 (slipR so p).1) (slipR so p).2) := by
  cases so with
  | none =>
    obtain ⟨rfl, rfl⟩ := h
    exact NPost.of_same RCh.none' (rslip_no _ w)
  | some s =>
    obtain ⟨b, B, rfl, h2, rfl⟩ := h
    unfold slipR
    by_cases he : rightE s p (s.l.length - 1) 0 = 0
    · simp only [if_pos he]
      obtain ⟨g1, g2, g3⟩ := rightE_zero he
      obtain ⟨q, rfl⟩ := Int.eq_ofNat_of_zero_le g1
      exact NPost.of_upd (rslip_ok b s B q w h2 (by omega))
    · simp only [if_neg he]
      exact NPost.of_same (RCh.mk h2) (rslip_err b s B p w h2 (by simpa using he))

theorem pinsert (so : Option CS) (pv : Value) (F : List Nat) (p : Int) (x : UInt8) (w : World) (h : PCh w pv so F) :
    Calls Try.prog 20 #[pv, .int .i64 p, .int .u8 x.toNat] w (MPost w pv F (.int .i64 (insertR so p x).1) (insertR so p x).2) := by
  cases so with
  | none => exact MPost.of_same h (insert_no pv p x w h.no)
  | some s =>
    obtain ⟨b, B, rfl, h2, rfl⟩ := h
    unfold insertR
    by_cases he : rightE s p s.l.length x = 0
    · simp only [if_pos he]
      obtain ⟨g1, g2, g3⟩ := rightE_zero he
      by_cases hf : s.room ≤ s.l.length
      · simp only [if_pos hf]
        exact MPost.of_upd (insert_full b s B p x w h2 he hf)
      · simp only [if_neg hf]
        obtain ⟨q, rfl⟩ := Int.eq_ofNat_of_zero_le g1
        exact MPost.of_upd (insert_ok b s B q x w h2 he (by omega) (by omega))
    · simp only [if_neg he]
      exact MPost.of_same (PCh.mk h2) (insert_err b s B p x w h2 (by simpa using he))

theorem rinsert (so : Option CS) (pv : Value) (F : List Nat) (p : Int) (x : UInt8) (w : World) (h : RCh w pv so F) :
    Calls Try.prog 38 #[pv, .int .i64 p, .int .u8 x.toNat] w (NPost w pv F (.int .i64 (insertR so p x).1) (insertR so p x).2) := by
  cases so with
  | none =>
    obtain ⟨rfl, rfl⟩ := h
    exact NPost.of_same RCh.none' (rinsert_no _ _ w)
  | some s =>
    obtain ⟨b, B, rfl, h2, rfl⟩ := h
    unfold insertR
    by_cases he : rightE s p s.l.length x = 0
    · simp only [if_pos he]
      obtain ⟨g1, g2, g3⟩ := rightE_zero he
      obtain ⟨q, rfl⟩ := Int.eq_ofNat_of_zero_le g1
      by_cases hf : s.room ≤ s.l.length
      · simp only [if_pos hf]
        exact NPost.of_upd (rinsert_full b s B q x w h2 (by omega) g3 hf)
      · simp only [if_neg hf]
        exact NPost.of_upd (rinsert_ok b s B q x w h2 (by omega) g3 (by omega))
    · simp only [if_neg he]
      exact NPost.of_same (RCh.mk h2) (rinsert_err b s B p x w h2 (by simpa using he))

/-! Take. -/
def takeR (so : Option CS) (n : Int) : List UInt8 × Int × Option CS :=
  match so with
  | none => ([], 1, none)
  | some s => if n < 0 then ([], 1, some s) else (s.l.take (min n.toNat s.l.length), 0, some (s.take (min n.toNat s.l.length)))

def TPost (C : World → Value → Option CS → List Nat → Prop) (w : World) (pv : Value) (F : List Nat) (l : List UInt8) (c : Int) (so : Option CS) (e : Ending) (w' : World) : Prop :=
  ∃ ao cap R F', e = .returned (.tuple #[.slice ao l.length cap, .int .i64 c]) ∧ Own w' 5 1 (.slice ao l.length cap) l.length (ub l) R ∧ (∀ k, k ∈ R → w.heap.size ≤ k) ∧
    C w' pv so F' ∧ Fr F w w' ∧ (∀ k, k ∈ F' → k ∈ F ∨ w.heap.size ≤ k) ∧ (∀ k, k ∈ R → k ∉ F')

theorem ptake (so : Option CS) (pv : Value) (F : List Nat) (n : Int) (w : World) (h : PCh w pv so F) :
    Calls Try.prog 14 #[pv, .int .i64 n] w (TPost PCh w pv F (takeR so n).1 (takeR so n).2.1 (takeR so n).2.2) := by
  cases so with
  | none => exact (take_no pv _ w h.no).mono fun e w' ⟨he, hw⟩ => by subst hw; exact ⟨none, 0, [], F, he, Own.nil _ _ _, by simp, h, Fr.refl _ _, fun _ h => .inl h, by simp⟩
  | some s =>
    obtain ⟨b, B, rfl, h2, rfl⟩ := h
    unfold takeR
    by_cases hn : n < 0
    · simp only [if_pos hn]
      exact (take_bad b s B n w h2 hn).mono fun e w' ⟨he, hw⟩ => by subst hw; exact ⟨none, 0, [], b :: B, he, Own.nil _ _ _, by simp, PCh.mk h2, Fr.refl _ _, fun _ h => .inl h, by simp⟩
    · simp only [if_neg hn]
      have hlen : (s.l.take (min n.toNat s.l.length)).length = min n.toNat s.l.length := by simp
      refine (take_ok b s B n w h2 (by omega) _ rfl).mono fun e w' ⟨he, ho, hch, hf, hs⟩ => ?_
      unfold TPost
      rw [hlen]
      refine ⟨_, _, _, b :: B, he, ho, by simp, PCh.mk hch, hf, fun _ h => .inl h, fun k hk hk2 => ?_⟩
      have := h2.lt k hk2
      simp at hk; omega

theorem rtake (so : Option CS) (pv : Value) (F : List Nat) (n : Int) (w : World) (h : RCh w pv so F) :
    Calls Try.prog 35 #[pv, .int .i64 n] w (TPost RCh w pv F (takeR so n).1 (takeR so n).2.1 (takeR so n).2.2) := by
  cases so with
  | none =>
    obtain ⟨rfl, rfl⟩ := h
    exact (rtake_no _ w).mono fun e w' ⟨he, hw⟩ => by subst hw; exact ⟨none, 0, [], [], he, Own.nil _ _ _, by simp, RCh.none', Fr.refl _ _, fun _ h => .inl h, by simp⟩
  | some s =>
    obtain ⟨b, B, rfl, h2, rfl⟩ := h
    unfold takeR
    by_cases hn : n < 0
    · simp only [if_pos hn]
      exact (rtake_bad b n w hn).mono fun e w' ⟨he, hw⟩ => by subst hw; exact ⟨none, 0, [], b :: B, he, Own.nil _ _ _, by simp, RCh.mk h2, Fr.refl _ _, fun _ h => .inl h, by simp⟩
    · simp only [if_neg hn]
      have hlen : (s.l.take (min n.toNat s.l.length)).length = min n.toNat s.l.length := by simp
      refine (rtake_ok b s B n w h2 (by omega) _ rfl).mono fun e w' ⟨ao, cap, R, B', he, ho, hR, hch, hf, hB', hd⟩ => ?_
      unfold TPost
      rw [hlen]
      refine ⟨ao, cap, R, b :: B', he, ho, hR, RCh.mk hch, hf, fun k hk => ?_, fun k hk hk2 => ?_⟩
      · rcases List.mem_cons.1 hk with rfl | hk
        · exact .inl (by simp)
        · exact .inr (hB' k hk)
      · rcases List.mem_cons.1 hk2 with rfl | hk2
        · have h1 := h2.lt k (by simp); have h3 := hR k hk; omega
        · exact hd k hk2 hk

end Go.Proofs.Ytlfchokafpodcaa
