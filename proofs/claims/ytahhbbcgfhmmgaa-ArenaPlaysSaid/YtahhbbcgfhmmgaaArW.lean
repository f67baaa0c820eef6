/- Contracts of the law: paths. -/
import Derived.Test.YtahhbbcgfhmmgaaArV
open Go.RowKit Go.Own
namespace Go.Proofs.Ytahhbbcgfhmmgaa

theorem rep_set {v : Value} {xs : List Value} {k : Nat} (hk : k < xs.length) : (List.replicate k v ++ xs.drop k).set k v = List.replicate (k + 1) v ++ xs.drop (k + 1) := by
  rw [List.set_append_right _ _ (by simp), List.length_replicate, Nat.sub_self, List.drop_eq_getElem_cons hk, List.set_cons_zero, List.replicate_succ', List.append_assoc]; rfl
def PthRel (b c : Nat) (A : AR) (xs : List UInt8) (ap aq aw : Option Addr) (cp cq cw : Nat) (L : List Asn) (iv : Value) (wr : World) : Prop :=
  ∃ k : Nat, k ≤ xs.length ∧ iv = .int .i64 k ∧ Hold wr (rowA 5 1 ap xs.length cp (List.replicate k (.int .u8 77) ++ (ub xs).drop k) :: rowA 5 1 aq xs.length cq (List.replicate k (.int .u8 88) ++ (ub xs).drop k) :: rowA 5 1 aw xs.length cw (ub xs) :: arA b A :: rrA c A :: L)
def PthRel2 (b c : Nat) (A : AR) (xs : List UInt8) (aw : Option Addr) (cw : Nat) (L : List Asn) (pv qv iv : Value) (wr : World) : Prop :=
  ∃ (k : Nat) (v : Int) (ap aq : Option Addr) (cp cq : Nat), k ≤ 64 ∧ iv = .int .i64 v ∧ v = (k : Int) ∧ pv = .slice ap (xs.length + k) cp ∧ qv = .slice aq (xs.length + k) cq ∧ Hold wr (rowA 5 1 ap (xs.length + k) cp (List.replicate xs.length (.int .u8 77) ++ List.replicate k (.int .u8 78)) :: rowA 5 1 aq (xs.length + k) cq (List.replicate xs.length (.int .u8 88) ++ List.replicate k (.int .u8 89)) :: rowA 5 1 aw xs.length cw (ub xs) :: arA b A :: rrA c A :: L)
def PthRel3 (n : Nat) (R : List Asn) (iv : Value) (wr : World) : Prop :=
  ∃ k : Nat, k ≤ n ∧ iv = .int .i64 k ∧ Hold wr R

/-- The ways that both tell. -/
theorem path_view (b c : Nat) (A : AR) (born : Nat → Nat) (hI : AI A born) (id : Int) : ∃ (xs : List UInt8) (E : Nat), xs.length ≤ 65536 ∧ (∀ w L, Hold w (arA b A :: L) → Calls Try.prog 22 #[.pointer (some ⟨b, 0, none⟩), .int .i64 id] w fun e w' => ∃ ao cap, e = .returned (.tuple #[.slice ao xs.length cap, .int .i64 E]) ∧ Hold w' (rowA 5 1 ao xs.length cap (ub xs) :: arA b A :: L)) ∧
    (∀ w L, Hold w (rrA c A :: L) → Calls Try.prog 42 #[.pointer (some ⟨c, 0, none⟩), .int .i64 id] w fun e w' => ∃ ao cap, e = .returned (.tuple #[.slice ao xs.length cap, .int .i64 E]) ∧ Hold w' (rowA 5 1 ao xs.length cap (ub xs) :: rrA c A :: L)) := by
  rcases has_view A id with hv | ⟨i, p, rfl, hp, ht, hv, -⟩
  · refine ⟨[], 120, by simp, fun w L h => ?_, fun w L h => ?_⟩
    · refine (path_no b A hI.cap1 id hv w L h).mono ?_
      rintro e w' ⟨rfl, h'⟩
      exact ⟨none, 0, rfl, h'.nilRow 5 1⟩
    · refine (rpath_no c A id hv w L h).mono ?_
      rintro e w' ⟨rfl, h'⟩
      exact ⟨none, 0, rfl, h'.nilRow 5 1⟩
  · obtain ⟨xs, hW, hl⟩ := hI.way hp ht
    refine ⟨xs, 0, by have := hI.len; have := hI.cap2; omega, fun w L h => ?_, fun w L h => ?_⟩
    · refine (path_ok b A born hI i hv xs hW w L h).mono ?_
      rintro e w' ⟨ao, rfl, h'⟩
      exact ⟨ao, _, rfl, h'⟩
    · exact rpath_ok c A born hI i hv xs hW w L h

set_option maxHeartbeats 4000000 in
set_option maxRecDepth 20000 in
theorem paths_ok (b c : Nat) (A : AR) (born : Nat → Nat) (hI : AI A born) (id : Int) (w : World) (L : List Asn) (h : Hold w (arA b A :: rrA c A :: L)) :
    Calls Try.prog 33 #[.pointer (some ⟨b, 0, none⟩), .pointer (some ⟨c, 0, none⟩), .int .i64 id] w fun e w' => e = .returned (.bool true) ∧ Hold w' (arA b A :: rrA c A :: L) := by
  obtain ⟨i5, hi5, hz0, hz1, hz2⟩ := info_parts info5
  obtain ⟨xs, E, hl, PP, PR⟩ := path_view b c A born hI id
  clear hI
  go_enter Try.func33, Try.ntmps33
  go_upto_region 2 with (go_at_call 22; refine (PP _ _ h).mono ?_; rintro e w1 ⟨ap, cp, rfl, h1⟩)
  have h1 := h1.mv 1
  (try dsimp only [Go.Own.front, Go.Own.arrA, Go.Own.atA, Go.Own.dropA, List.length_cons, List.length_nil, Nat.zero_add, Nat.reduceAdd] at h1)
  go_upto_region 3 with (go_at_call 22; refine (PP _ _ h1).mono ?_; rintro e w2 ⟨aq, cq, rfl, h2⟩)
  have h2 := h2.mv 3
  (try dsimp only [Go.Own.front, Go.Own.arrA, Go.Own.atA, Go.Own.dropA, List.length_cons, List.length_nil, Nat.zero_add, Nat.reduceAdd] at h2)
  go_upto_region 4 with (go_at_call 42; refine (PR _ _ h2).mono ?_; rintro e w3 ⟨aw, cw, rfl, h3⟩)
  have h3 := h3.arr [4, 2, 0, 3, 1]
  (try dsimp only [Go.Own.front, Go.Own.arrA, Go.Own.atA, Go.Own.dropA, List.length_cons, List.length_nil, Nat.zero_add, Nat.reduceAdd] at h3)
  clear h h1 h2 PR
  have S1 := same_eq xs ap aw xs.length cp xs.length cw w3 h3.rd (h3.mv 2).rd
  have S2 := same_eq xs aq aw xs.length cq xs.length cw w3 (h3.mv 1).rd (h3.mv 2).rd
  have heE : ((E : Int) == E) = true := by simp
  go_upto_region 6 with (first
    | (go_at_call 8; refine (num_any _ _).mono ?_; rintro e w4 ⟨rfl, rfl⟩)
    | (go_at_call 23; (with_reducible refine S1.mono ?_); rintro e w4 ⟨rfl, rfl⟩)
    | (go_at_call 23; (with_reducible refine S2.mono ?_); rintro e w4 ⟨rfl, rfl⟩))
  clear S1 S2 heE
  obtain ⟨n, hn⟩ : ∃ n, xs.length = n := ⟨_, rfl⟩
  have hul : (ub xs).length = n := by simpa using hn
  have hn6 : n ≤ 65536 := by omega
  have HN := Lib.hid hn
  have HU := Lib.hid hul
  go_wp2
  go_loopw [13] (fun iv wr => PthRel b c A xs ap aq aw cp cq cw L iv wr) (fun iv _ => n - (intOf iv).toNat)
  case atStart => exact ⟨0, Nat.zero_le _, rfl, by simpa using h3⟩
  case round =>
    clear h3
    obtain ⟨k, hk, rfl, hr⟩ := hrel
    rw [hn] at hk hr ⊢
    clear hn hul hl
    by_cases hlt : k < n
    · have hki : (k : Int) < (n : Int) := by omega
      have hk0 : 0 ≤ (k : Int) := by omega
      have W1 : IntKind.i64.wrap ((k : Int) + 1) = (k : Int) + 1 := IntWalk.i64_in _ (by omega)
      obtain ⟨pb, po, rfl, pc, pf⟩ := hr.at (by omega)
      have fp := pf (po + k)
      have cpk : ∃ x, wr.cell? ⟨pb, po + k, none⟩ = some x := ⟨_, by rw [pc k (by omega)]; exact List.getElem?_eq_getElem (by have := HU.out; simp only [List.length_append, List.length_replicate, List.length_drop]; omega)⟩
      obtain ⟨x0, cp0⟩ := cpk
      have h1 := hr.put k (by omega) (.int .u8 77)
      rw [rep_set (by have := HU.out; omega)] at h1
      clear pc pf
      go_upto_region 10 with (fail)
      refine gen_world h1 (fun w5 h1 => ?_)
      clear cp0 fp hr
      have h2 := h1.mv 1
      (try dsimp only [Go.Own.front, Go.Own.arrA, Go.Own.atA, Go.Own.dropA, List.length_cons, List.length_nil, Nat.zero_add, Nat.reduceAdd] at h2)
      obtain ⟨qb, qo, rfl, qc, qf⟩ := h2.at (by omega)
      have fq := qf (qo + k)
      have cqk : ∃ x, w5.cell? ⟨qb, qo + k, none⟩ = some x := ⟨_, by rw [qc k (by omega)]; exact List.getElem?_eq_getElem (by have := HU.out; simp only [List.length_append, List.length_replicate, List.length_drop]; omega)⟩
      obtain ⟨x1, cq0⟩ := cqk
      have h3 := h2.put k (by omega) (.int .u8 88)
      rw [rep_set (by have := HU.out; omega)] at h3
      clear qc qf
      have h4 := h3.mv 1
      (try dsimp only [Go.Own.front, Go.Own.arrA, Go.Own.atA, Go.Own.dropA, List.length_cons, List.length_nil, Nat.zero_add, Nat.reduceAdd] at h4)
      go_wp2
      go_roundw
      case rel => exact ⟨k + 1, by have := HN.out; omega, by go_num, by rw [HN.out]; exact h4⟩
      case measure => simp [intOf]; omega
    · obtain rfl : k = n := by omega
      have ed : (ub xs).drop k = [] := List.drop_eq_nil_of_le (by have := HU.out; omega)
      rw [ed, List.append_nil, List.append_nil] at hr
      clear ed hlt hk
      go_upto_region 11 with (fail)
      go_wp2
      go_loopw [7, 9, 14] (fun pv qv iv wr => PthRel2 b c A xs aw cw L pv qv iv wr) (fun _ _ iv _ => 64 - (intOf iv).toNat)
      case atStart => exact ⟨0, 0, ap, aq, cp, cq, by omega, rfl, rfl, by rw [HN.out]; rfl, by rw [HN.out]; rfl, by rw [HN.out]; simpa using hr⟩
      case round =>
        clear hr
        obtain ⟨j, v, ap, aq, cp, cq, hj, rfl, hv, rfl, rfl, hr⟩ := hrel
        rw [HN.out] at hr ⊢
        by_cases hlt : j < 64
        · subst hv
          have hji : (j : Int) < 64 := by omega
          have W1 : IntKind.i64.wrap ((j : Int) + 1) = (j : Int) + 1 := IntWalk.i64_in _ (by omega)
          go_upto_region 15 with ((with_reducible refine wpList_plain (o := ⟨some 76, _, _, _, _, _⟩) rfl (fun K hK => ?_)); refine wp_append_one_h (w := wr) _ _ 58 (by rfl) 5 i5 (.int .u8 0) 1 1 Try.underlying58 hi5 hz0 hz1 hz2 (by rfl) ap (k + j) cp _ (by rfl) hr [.int .u8 78] (by rfl) ⟨rfl, rfl, rfl, rfl⟩ (by rfl) (by simp [Value.oneCell']) (by unfold maxLen; omega) (by omega) (fun ap2 cp2 w5 h5 hc5 => ?_); refine hK _ _ ?_; clear hK K)
          have h6 := h5.mv 1
          (try dsimp only [Go.Own.front, Go.Own.arrA, Go.Own.atA, Go.Own.dropA, List.length_cons, List.length_nil, Nat.zero_add, Nat.reduceAdd] at h6)
          clear h5 hr
          go_wp2_with ((with_reducible refine wpList_plain (o := ⟨some 79, _, _, _, _, _⟩) rfl (fun K hK => ?_)); refine wp_append_one_h (w := w5) _ _ 58 (by rfl) 5 i5 (.int .u8 0) 1 1 Try.underlying58 hi5 hz0 hz1 hz2 (by rfl) aq (k + j) cq _ (by rfl) h6 [.int .u8 89] (by rfl) ⟨rfl, rfl, rfl, rfl⟩ (by rfl) (by simp [Value.oneCell']) (by unfold maxLen; omega) (by omega) (fun aq2 cq2 w6 h7 hc7 => ?_); refine hK _ _ ?_; clear hK K)
          go_roundw
          case rel =>
            have h8 := h7.mv 1
            (try dsimp only [Go.Own.front, Go.Own.arrA, Go.Own.atA, Go.Own.dropA, List.length_cons, List.length_nil, Nat.zero_add, Nat.reduceAdd] at h8)
            rw [List.append_assoc, List.append_assoc] at h8
            have e1 : ∀ v : Value, List.replicate j v ++ [v] = List.replicate (j + 1) v := fun v => List.replicate_succ'.symm
            rw [e1, e1] at h8
            exact ⟨j + 1, _, ap2, aq2, cp2, cq2, by omega, rfl, by omega, by rw [HN.out]; rfl, by rw [HN.out]; rfl, by rw [HN.out]; exact h8⟩
          case measure => simp [intOf]; omega
        · obtain rfl : j = 64 := by omega
          obtain rfl : v = 64 := by omega
          clear hlt hj hv
          go_upto_region 16 with (fail)
          go_wp2
          go_loopw [15] (fun iv wr => PthRel3 (k + 64) (rowA 5 1 ap (k + 64) cp (List.replicate k (.int .u8 77) ++ List.replicate 64 (.int .u8 78)) :: rowA 5 1 aq (k + 64) cq (List.replicate k (.int .u8 88) ++ List.replicate 64 (.int .u8 89)) :: rowA 5 1 aw k cw (ub xs) :: arA b A :: rrA c A :: L) iv wr) (fun iv _ => (k + 64) - (intOf iv).toNat)
          case atStart => exact ⟨0, by omega, rfl, hr⟩
          case round =>
            clear hr
            obtain ⟨i, hi, rfl, hr⟩ := hrel
            by_cases hlt : i < k + 64
            · have hii : (i : Int) < (k : Int) + 64 := by omega
              have hi0 : 0 ≤ (i : Int) := by omega
              have W1 : IntKind.i64.wrap ((i : Int) + 1) = (i : Int) + 1 := IntWalk.i64_in _ (by omega)
              obtain ⟨pb, po, rfl, pc, -⟩ := hr.at (by omega)
              have hq := hr.mv 1
              (try dsimp only [Go.Own.front, Go.Own.arrA, Go.Own.atA, Go.Own.dropA, List.length_cons, List.length_nil, Nat.zero_add, Nat.reduceAdd] at hq)
              obtain ⟨qb, qo, rfl, qc, -⟩ := hq.at (by omega)
              have p1 := pc i (by omega)
              have q1 := qc i (by omega)
              clear pc qc hq
              by_cases hik : i < k
              · have hiki : (i : Int) < (k : Int) := by omega
                rw [List.getElem?_append_left (by simpa using hik), List.getElem?_replicate, if_pos hik] at p1 q1
                go_wp2
                go_roundw
                case rel => exact ⟨i + 1, by omega, by go_num, hr⟩
                case measure => simp [intOf]; omega
              · have hiki : (k : Int) ≤ (i : Int) := by omega
                rw [List.getElem?_append_right (by simp; omega), List.getElem?_replicate, List.length_replicate, if_pos (by omega)] at p1 q1
                go_wp2
                go_roundw
                case rel => exact ⟨i + 1, by omega, by go_num, hr⟩
                case measure => simp [intOf]; omega
            · obtain rfl : i = k + 64 := by omega
              have hh : ¬ ((k + 64 : Nat) : Int) < (k : Int) + 64 := by omega
              have h9 := hr.mv 3
              (try dsimp only [Go.Own.front, Go.Own.arrA, Go.Own.atA, Go.Own.dropA, List.length_cons, List.length_nil, Nat.zero_add, Nat.reduceAdd] at h9)
              clear hr hi hlt
              go_upto_region 22 with (go_at_call 22; refine (PP _ _ h9).mono ?_; rintro e w7 ⟨az, cz, rfl, h10⟩)
              rw [HN.out] at h10 ⊢
              have hW := (h10.mv 4).rd
              have S1 := same_eq xs az aw k cz k cw w7 h10.rd hW
              clear hW
              go_wp2_with (go_at_call 23; refine S1.mono ?_; rintro e w8 ⟨rfl, rfl⟩)
              go_ret
              have h11 := h10.drop.arr [0, 4, 1, 2, 3]
              (try dsimp only [Go.Own.front, Go.Own.arrA, Go.Own.atA, Go.Own.dropA, List.length_cons, List.length_nil, Nat.zero_add, Nat.reduceAdd] at h11)
              have h12 := (((h11.mv 2).drop.mv 2).drop.mv 2).drop
              (try dsimp only [Go.Own.front, Go.Own.arrA, Go.Own.atA, Go.Own.dropA, List.length_cons, List.length_nil, Nat.zero_add, Nat.reduceAdd] at h12)
              exact ⟨rfl, h12⟩

end Go.Proofs.Ytahhbbcgfhmmgaa
