/- No buckets: All, and what it goes over (for BucketsNil). -/
import Derived.Test.YtpffofliemooiaaBuR
import Derived.Test.YtpffofliemooiaaBuI

import Derived.Test.YtpffofliemooiaaRange
import Derived.Shelf.Abstract
import Derived.TacticsInMore
open Go.RowKit Go.Own
namespace Go.Proofs.Ytpffofliemooiaa
attribute [local go_sem] Oper.semAt_some

def encE (x : Int × Int) : Array Value := #[.int .i64 x.1, .int .i64 x.2]
theorem all_ok (p : Option Addr) (w : World) (L : List Asn) (h : Hold w L) : Calls Try.prog 21 #[.pointer p] w fun e w' => ∃ B, e = .returned (.func (.func 33) #[] #[.pointer (some ⟨B, 0, none⟩)]) ∧ Hold w' (cellsA B 25 [.pointer p] :: L) := by
  have hb := h.box 25 [.pointer p]
  go_enter Try.func21, Try.ntmps21
  go_wp2
  go_ret
  exact ⟨_, rfl, hb⟩

theorem nGives (v : Value) (B : Nat) (As : List Asn) (hv : ∀ M w, Hold w (cellsA B 25 [v] :: (As ++ M)) → Calls Try.prog 29 #[v] w fun e w' => e = .returned (.bool true) ∧ w = w') :
    Gives Try.prog 33 #[.pointer (some ⟨B, 0, none⟩)] encE (fun _ => True) ([] : List (Int × Int)) (cellsA B 25 [v] :: As) := by
  intro l L R Rx W h h0 _ _
  have c0 : W.cell? ⟨B, 0, none⟩ = some v := h.cell 0
  have P := hv L W h
  show Calls Try.prog 33 #[.func (.yield l) #[] #[], .pointer (some ⟨B, 0, none⟩)] W _
  go_enter Try.func33, Try.ntmps33
  go_wp2_with (go_at_call 29; refine P.mono ?_; rintro e w1 ⟨rfl, rfl⟩)
  refine bodyPost_ret (results_none rfl _ _ _) rfl ?_
  exact ⟨⟨_, rfl⟩, _, .inl h0, h⟩

def ents : List (Int × Int) → List Value
  | [] => []
  | x :: xs => .int .i64 x.1 :: .int .i64 x.2 :: ents xs
theorem ents_append (x y : List (Int × Int)) : ents (x ++ y) = ents x ++ ents y := by
  induction x with
  | nil => rfl
  | cons a x ih => simp [ents, ih]
@[simp] theorem ents_length (x : List (Int × Int)) : (ents x).length = x.length * 2 := by
  induction x with
  | nil => rfl
  | cons a x ih => simp [ents, ih]; omega
theorem info59 : (Try.prog.info? 59).map (fun i => (i.zero, i.size, i.bytes)) = some (some (.agg #[.int .i64 0, .int .i64 0]), 2, 16) := by kernel_rfl

def LstR (q : Nat) (T : List Asn) (pre : List (Int × Int)) (M : List Asn) : Prop := ∃ ao cap, M = cellsA q 53 [.slice ao pre.length cap] :: rowA 59 2 ao pre.length cap (ents pre) :: T

set_option maxRecDepth 20000 in
theorem listed_ok (p : Option Addr) (As : List Asn) (Kp : Nat → World → Prop) (xs : List (Int × Int)) (hlen : xs.length ≤ 65536)
    (hG : ∀ B, Gives Try.prog 33 #[.pointer (some ⟨B, 0, none⟩)] encE (Kp B) xs (cellsA B 25 [.pointer p] :: As)) (L : List Asn) (hKp : ∀ B M W, Hold W (M ++ cellsA B 25 [.pointer p] :: (As ++ L)) → Kp B W) (w : World) (h : Hold w (As ++ L)) :
    Calls Try.prog 24 #[.pointer p] w fun e w' => ∃ ao cap, e = .returned (.slice ao xs.length cap) ∧ Hold w' (rowA 59 2 ao xs.length cap (ents xs) :: (As ++ L)) := by
  obtain ⟨i59, hi, hz0, hz1, hz2⟩ := info_parts info59
  have hb := h.box 53 [.slice none 0 0]
  obtain ⟨q, hq⟩ : ∃ q, w.heap.size = q := ⟨_, rfl⟩
  rw [hq] at hb
  have PA := fun W h => all_ok p W (cellsA q 53 [.slice none 0 0] :: (As ++ L)) h
  have EQ := fun B w => run_eql_func_nil w 56 (.func 33) #[] #[.pointer (some ⟨B, 0, none⟩)] Try.underlying56
  (refine calls_of_wp_marks Try.func24 rfl ?_; simp only [Try.ntmps24, List.size_toArray, List.length_cons, List.length_nil, Nat.reduceAdd, Nat.reduceSub, Array.replicate_succ, Array.replicate_zero, List.push_toArray, List.append_toArray, List.nil_append, List.cons_append])
  go_wp2_with (go_at_call 21; refine (PA _ hb).mono ?_; rintro e w1 ⟨B, rfl, h1⟩)
  have hp0 : ∀ R : Asn, List.Perm (R :: cellsA B 25 [.pointer p] :: cellsA q 53 [.slice none 0 0] :: (As ++ L)) ((cellsA B 25 [.pointer p] :: As) ++ (L ++ [cellsA q 53 [.slice none 0 0], R])) := fun R => by
    have e1 : List.Perm (R :: cellsA B 25 [.pointer p] :: cellsA q 53 [.slice none 0 0] :: (As ++ L)) ([cellsA q 53 [.slice none 0 0], R] ++ (cellsA B 25 [.pointer p] :: (As ++ L))) :=
      ((List.Perm.swap _ _ _).cons R).trans (List.Perm.swap _ _ _)
    refine e1.trans (List.perm_append_comm.trans ?_)
    simp
  have h2 := (h1.nilRow 59 2).perm (hp0 _)
  refine wp_rangeFunc_h (gf := 33) (lb := #[.pointer (some ⟨B, 0, none⟩)]) rfl (enters_of Try.func33 (by kernel_rfl) rfl) (hG B) (fun _ => rfl) h2
    (fun pre M => ∃ M', List.Perm M M' ∧ LstR q (cellsA B 25 [.pointer p] :: (As ++ L)) pre M') (fun _ _ _ => False)
    ?start ?kp ?round ?done ?stop
  case start => exact ⟨_, (hp0 _).symm.trans (((List.Perm.swap _ _ _).cons _).trans (List.Perm.swap _ _ _)), none, 0, rfl⟩
  case kp =>
    rintro pre M W (⟨M', hp, ao, cap, rfl⟩ | ⟨_, hf⟩) hW
    case inr => exact hf.elim
    exact hKp B [_, _] W (hW.perm hp)
  case round =>
    rintro l pre x rest W G M hx ⟨M', hp, ao, cap, rfl⟩ hW
    have hW2 := hW.perm (hp.cons G)
    have hxl : pre.length + 1 ≤ 65536 := by rw [hx] at hlen; simp at hlen; omega
    clear hx hW hp h1 h2
    dsimp only [encE, List.zip, List.zipWith, List.foldl]
    gi_wp2
    refine ⟨_, hW2, fun W2 G2 hV => ?_⟩
    have c3 : W2.cell? ⟨q, 0, none⟩ = some (.slice ao pre.length cap) := (hV.mv 1).cell 0
    have hV2 := hV.arr [2, 1, 0]
    (try dsimp only [Go.Own.front, Go.Own.arrA, Go.Own.atA, Go.Own.dropA, List.length_cons, List.length_nil, Nat.zero_add, Nat.reduceAdd] at hV2)
    gi_wp2_with ((with_reducible refine wpListIn_plain (o := ⟨some 21, _, _, _, _, _⟩) rfl (fun K hK => ?_)); refine oper_round rfl ?_; refine wp_append_one_h (w := W2) _ _ 53 (by rfl) 59 i59 (.agg #[.int .i64 0, .int .i64 0]) 2 16 Try.underlying53 hi hz0 hz1 hz2 (by rfl) ao pre.length cap _ (by rfl) hV2 [.int .i64 x.1, .int .i64 x.2] (by rfl) ⟨rfl, rfl, rfl, rfl⟩ (by rfl) (by simp [Value.oneCell']) (by unfold maxLen; omega) (by omega) (fun a3 c3 w9 h9 hc9 => ?_); refine hK _ _ ?_; clear hK K; have k3 : w9.cell? ⟨q, 0, none⟩ = some (.slice ao pre.length cap) := (h9.mv 1).cell 0; have f3 := (h9.mv 1).frozen 0)
    have h10 := ((h9.mv 1).st 0 (.slice a3 (pre.length + 1) c3)).arr [2, 0, 1]
    (try dsimp only [Go.Own.front, Go.Own.arrA, Go.Own.atA, Go.Own.dropA, List.length_cons, List.length_nil, Nat.zero_add, Nat.reduceAdd] at h10)
    refine ⟨_, ⟨_, List.Perm.refl _, a3, c3, rfl⟩, ?_⟩
    rw [List.length_append, ents_append]
    exact h10
  case done =>
    rintro D M W ⟨M', hp, ao, cap, rfl⟩ hW
    have hW2 := hW.perm (hp.cons _)
    have c3 : W.cell? ⟨q, 0, none⟩ = some (.slice ao xs.length cap) := (hW2.mv 1).cell 0
    go_wp2
    refine leaves_mark hW2 (fun W' h' => leaves_end (results_tmp rfl _ _ _) ⟨ao, cap, rfl, ?_⟩)
    exact h'.drop.swap.drop
  case stop => exact fun _ _ _ _ _ _ h => h.elim

/-- Where As lies, p points at no buckets. -/
def NoneB (p : Option Addr) (As : List Asn) : Prop := ∀ M w, Hold w (As ++ M) → Calls Try.prog 29 #[.pointer p] w fun e w' => e = .returned (.bool true) ∧ w = w'
theorem NoneB.v {p : Option Addr} {As : List Asn} (h : NoneB p As) (M : List Asn) : noneV (.pointer p) (As ++ M) := fun w hw => h M w hw
theorem noneB_nil : NoneB none [] := fun M w h => noneV_nil M w h
theorem noneB_made (b : Nat) : NoneB (some ⟨b, 0, none⟩) [cellsA b 67 zeroS] := fun M w h => noneV_made b M w h
theorem nListed {p : Option Addr} {As : List Asn} (hv : NoneB p As) (M : List Asn) (w : World) (h : Hold w (As ++ M)) :
    Calls Try.prog 24 #[.pointer p] w fun e w' => ∃ ao cap, e = .returned (.slice ao 0 cap) ∧ Hold w' (As ++ M) := by
  refine (listed_ok p As (fun _ _ => True) [] (by simp) (fun B => nGives _ B As (fun M w h => hv M w h.drop)) M (fun _ _ _ _ => trivial) w h).mono ?_
  rintro e w' ⟨ao, cap, he, h'⟩
  exact ⟨ao, cap, he, h'.drop⟩

theorem none_walk {p : Option Addr} {As : List Asn} (hv : NoneB p As) (M : List Asn) (w : World) (h : Hold w (As ++ M)) :
    Calls Try.prog 26 #[.pointer p] w fun e w' => e = .returned (.bool true) ∧ Hold w' (As ++ M) := by
  have V := hv.v M
  have P1 := fun w h => nPut V (w := w) h 0 1
  have P2 := fun w h => nPop V (w := w) h
  have P3 := fun w h => nHighest V (w := w) h
  have P4 := fun w h => nLowest V (w := w) h
  have P5 := fun w h => nMark V (w := w) h
  have P6 := fun w h => nSize V (w := w) h 0
  have P7 := fun w h => nLen V (w := w) h
  have P8 := fun w h => nListed hv M w h
  clear V
  generalize As ++ M = L at *
  go_enter Try.func26, Try.ntmps26
  go_wp2_with (first
    | (go_at_call 12; refine (P1 _ h).mono ?_; clear P1; rintro e w1 ⟨rfl, h1⟩)
    | (go_at_call 16; refine (P2 _ h1).mono ?_; clear P2; rintro e w2 ⟨rfl, h2⟩)
    | (go_at_call 30; refine (P3 _ h2).mono ?_; clear P3; rintro e w3 ⟨rfl, h3⟩)
    | (go_at_call 13; refine (P4 _ h3).mono ?_; clear P4; rintro e w4 ⟨rfl, h4⟩)
    | (go_at_call 28; refine (P5 _ h4).mono ?_; clear P5; rintro e w5 ⟨rfl, h5⟩)
    | (go_at_call 10; refine (num_any _ _).mono ?_; rintro e w6 ⟨rfl, rfl⟩)
    | (go_at_call 38; refine (P6 _ h5).mono ?_; clear P6; rintro e w7 ⟨rfl, h7⟩)
    | (go_at_call 15; refine (P7 _ h7).mono ?_; clear P7; rintro e w8 ⟨rfl, h8⟩)
    | (go_at_call 24; refine (P8 _ h8).mono ?_; clear P8; rintro e w9 ⟨ao, cap, rfl, h9⟩))
  go_ret
  exact ⟨rfl, h9⟩

theorem nil_walk (w : World) (L : List Asn) (h : Hold w L) : Calls Try.prog 8 #[] w fun e w' => e = .returned (.bool true) ∧ Hold w' L := by
  have hb := h.box 67 zeroS
  generalize hq : w.heap.size = q at hb
  have P1 := fun w h => none_walk noneB_nil (cellsA q 67 zeroS :: L) w h
  have P2 := fun w h => none_walk (noneB_made q) L w h
  have P3 := fun w h => live_ok w (cellsA q 67 zeroS :: L) h
  go_enter Try.func8, Try.ntmps8
  go_wp2_with (first
    | (go_at_call 26; refine (P1 _ hb).mono ?_; clear P1; rintro e w1 ⟨rfl, h1⟩)
    | (go_at_call 26; refine (P2 _ h1).mono ?_; clear P2; rintro e w2 ⟨rfl, h2⟩)
    | (go_at_call 11; refine (P3 _ h2).mono ?_; clear P3; rintro e w3 ⟨rfl, h3⟩))
  go_ret
  exact ⟨rfl, h3.drop⟩

end Go.Proofs.Ytpffofliemooiaa
