/- Contracts: Child. -/
import Derived.Test.YtahhbbcgfhmmgaaArG
open Go.RowKit Go.Own
namespace Go.Proofs.Ytahhbbcgfhmmgaa

def childP (i : Int) (bit : Nat) (s : Nat) (d m : Int) : PL := ⟨s, d, m, i, bit, 0, false, false⟩
def bumpA (A : AR) (id : Int) : AR := { A with all := A.all.set id.toNat { plA A id with kids := (plA A id).kids + 1 } }
def childA (A : AR) (id : Int) (bit : Nat) (s : Nat) (d m : Int) : Nat × Nat × AR :=
  if hasA A id = false then (0, 120, A) else if 1 < bit then (0, 10, A) else if A.taken = A.cap then (0, 2, A)
  else ((takeA A (childP id bit s d m)).1, 0, bumpA (takeA A (childP id bit s d m)).2 id)

/-- What a take leaves alone. -/
theorem take_keeps {A : AR} {way : Nat → Nat} (hI : AI A way) (p : PL) {i : Nat} {q : PL} (hq : A.all[i]? = some q) (ht : q.taken = true) : (takeA A p).2.all[i]? = some q := by
  rcases List.eq_nil_or_concat A.free with hf | ⟨fs, id, hf⟩
  · rw [take_new hf]
    exact List.getElem?_append_left (by exact (List.getElem?_eq_some_iff.1 hq).1) |>.trans hq
  · rw [List.concat_eq_append] at hf
    rw [take_old hf]
    obtain ⟨p0, hp0, h0⟩ := (hI.free id).1 (by rw [hf]; simp)
    have hne : id ≠ i := by
      rintro rfl
      rw [hp0] at hq
      simp at hq
      subst hq
      rw [h0] at ht
      exact absurd ht (by simp)
    show (A.all.set id p.up)[i]? = some q
    rw [List.getElem?_set_ne hne]
    exact hq
theorem take_cap (A : AR) (p : PL) : (takeA A p).2.cap = A.cap := by
  unfold takeA
  cases A.free.getLast? <;> rfl

theorem kids_le (l : List PL) (i : Int) : kidsOf l i ≤ l.length := List.length_filter_le _ _

/-- A place's kids are one more, in memory. -/
theorem kid_cells {f : PL → List Value} (hf : ∀ p, (f p).length = 8) {A : AR} {i : Nat} {q : PL} (hq : A.all[i]? = some q) (k : Nat) (hk : k < 8) (q' : PL) (v : Value) (hv : f q' = (f q).set k v) : flat f (A.all.set i q') = (flat f A.all).set (i * 8 + k) v := by
  have hi : i < A.all.length := (List.getElem?_eq_some_iff.1 hq).1
  rw [flat_set f hf A.all i q' hi]
  refine List.ext_getElem? fun j => ?_
  have hfl := flat_length f hf A.all
  have hbd : i * 8 + 8 ≤ (flat f A.all).length := by rw [hfl]; omega
  have ht : ((flat f A.all).take (i * 8)).length = i * 8 := by rw [List.length_take]; omega
  rw [List.append_assoc]
  by_cases h1 : j < i * 8
  · rw [List.getElem?_append_left (by omega), List.getElem?_take, if_pos h1, List.getElem?_set_ne (by omega)]
  · rw [List.getElem?_append_right (by omega), ht]
    by_cases h2 : j < i * 8 + 8
    · rw [List.getElem?_append_left (by rw [hf]; omega), hv]
      by_cases h3 : j = i * 8 + k
      · subst h3
        rw [List.getElem?_set_self (by omega), Nat.add_sub_cancel_left, List.getElem?_set_self (by rw [hf]; omega)]
      · rw [List.getElem?_set_ne (by omega), List.getElem?_set_ne (by omega)]
        have := flat_get f hf A.all i q hq (j - i * 8) (by omega)
        rw [← this]; congr 1; omega
    · rw [List.getElem?_append_right (by rw [hf]; omega), List.getElem?_set_ne (by omega), hf, List.getElem?_drop]
      congr 1; omega

set_option maxHeartbeats 4000000 in
set_option maxRecDepth 20000 in
theorem child_ok (b : Nat) (A : AR) (way : Nat → Nat) (hI : AI A way) (id : Int) (bit : Nat) (s : Nat) (d m : Int) (w : World) (L : List Asn) (h : Hold w (arA b A :: L)) :
    Calls Try.prog 11 #[.pointer (some ⟨b, 0, none⟩), .int .i64 id, .int .u8 bit, .agg #[.int .u32 s, .int .i64 d, .int .i64 m]] w fun e w' => e = .returned (.tuple #[.int .i64 (childA A id bit s d m).1, .int .i64 (childA A id bit s d m).2.1]) ∧ Hold w' (arA b (childA A id bit s d m).2.2 :: L) := by
  have hb := (h.box 32 [.int .u32 s, .int .i64 d, .int .i64 m]).arr [1, 0]
  (try dsimp only [Go.Own.front, Go.Own.arrA, Go.Own.atA, Go.Own.dropA, List.length_cons, List.length_nil, Nat.zero_add, Nat.reduceAdd] at hb)
  obtain ⟨q, hq⟩ : ∃ q, w.heap.size = q := ⟨_, rfl⟩
  simp only [hq] at hb
  have hc1 := hI.cap1
  have hc1' : 1 ≤ (A.cap : Int) := by omega
  have hT := fun W L hW (hlt : A.taken < A.cap) => take_ok b A way hI hlt (childP id bit s d m) W L hW
  have hT2 := fun W L hW hlt => take_full b A hlt (childP id bit s d m) W L hW
  have hH := fun W L hW => has_ok b A hc1 id W L hW
  have HI := Lib.hid hI
  clear h hI hc1
  rcases has_view A id with hv | ⟨i, p, rfl, hp, htk, hv, he⟩
  · have e : childA A id bit s d m = (0, 120, A) := by unfold childA; rw [if_pos hv]
    rw [e]
    rw [hv] at hH
    go_enter Try.func11, Try.ntmps11
    go_upto_region 1 with (fail)
    refine gen_world hb (fun w1 hb => ?_)
    try simp only [hq]
    clear hq hT hT2 HI hv e
    obtain ⟨ao, ac, fo, fc, h1⟩ := ar_open hb
    have g0 : w1.cell? ⟨b, 0, none⟩ = some (.int .i64 A.cap) := h1.cell 0
    have P1 := none_ok b A.cap hc1' w1 g0
    have P2 := hH w1 _ hb
    clear hH h1 g0
    go_wp2_with (first
      | (go_at_call 24; refine P1.mono ?_; rintro e w2 ⟨rfl, rfl⟩)
      | (go_at_call 26; refine P2.mono ?_; rintro e w3 ⟨rfl, rfl⟩))
    go_ret2
    have h5 := (hb.mv 1).drop
    (try dsimp only [Go.Own.front, Go.Own.arrA, Go.Own.atA, Go.Own.dropA, List.length_cons, List.length_nil, Nat.zero_add, Nat.reduceAdd] at h5)
    exact ⟨rfl, h5⟩
  · rw [hv] at hH
    go_enter Try.func11, Try.ntmps11
    go_upto_region 1 with (fail)
    refine gen_world hb (fun w1 hb => ?_)
    try simp only [hq]
    clear hq
    obtain ⟨ao, ac, fo, fc, h1⟩ := ar_open hb
    have g0 : w1.cell? ⟨b, 0, none⟩ = some (.int .i64 A.cap) := h1.cell 0
    have P1 := none_ok b A.cap hc1' w1 g0
    have P2 := hH w1 _ hb
    clear hH h1 g0
    by_cases hbit : 1 < bit
    · have e : childA A i bit s d m = (0, 10, A) := by unfold childA; rw [if_neg (by rw [hv]; simp), if_pos hbit]
      have hbi : (1 : Int) < (bit : Int) := by omega
      have HE := Lib.hid e
      clear e hT hT2 HI hp htk hv he
      go_wp2_with (first
        | (go_at_call 24; refine P1.mono ?_; rintro e w2 ⟨rfl, rfl⟩)
        | (go_at_call 26; refine P2.mono ?_; rintro e w3 ⟨rfl, rfl⟩))
      go_ret2
      have h5 := (hb.mv 1).drop
      (try dsimp only [Go.Own.front, Go.Own.arrA, Go.Own.atA, Go.Own.dropA, List.length_cons, List.length_nil, Nat.zero_add, Nat.reduceAdd] at h5)
      rw [HE.out]
      exact ⟨rfl, h5⟩
    · have hbi : (bit : Int) ≤ 1 := by omega
      have hbi2 : ¬ (1 : Int) < (bit : Int) := by omega
      by_cases hf : A.taken = A.cap
      · have e : childA A i bit s d m = (0, 2, A) := by unfold childA; rw [if_neg (by rw [hv]; simp), if_neg hbit, if_pos hf]
        have HE := Lib.hid e
        have P3 := hT2 w1 _ hb hf
        have h3 := hb.mv 1
        (try dsimp only [Go.Own.front, Go.Own.arrA, Go.Own.atA, Go.Own.dropA, List.length_cons, List.length_nil, Nat.zero_add, Nat.reduceAdd] at h3)
        clear e hT hT2 HI hp htk hv he hf hbit
        go_wp2_with (first
          | (go_at_call 24; refine P1.mono ?_; rintro e w2 ⟨rfl, rfl⟩)
          | (go_at_call 26; refine P2.mono ?_; rintro e w3 ⟨rfl, rfl⟩)
          | (refine wpList_loadAll_h (by rfl) 32 _ (by rfl) q (by rfl) h3 _ Try.underlying32 (by rfl) (by rw [i32]; rfl) ?_)
          | (go_at_call 25; refine P3.mono ?_; rintro e w3 ⟨rfl, h4⟩))
        go_ret2
        have h5 := (h4.mv 1).drop
        (try dsimp only [Go.Own.front, Go.Own.arrA, Go.Own.atA, Go.Own.dropA, List.length_cons, List.length_nil, Nat.zero_add, Nat.reduceAdd] at h5)
        rw [HE.out]
        exact ⟨rfl, h5⟩
      · have e : childA A i bit s d m = ((takeA A (childP i bit s d m)).1, 0, bumpA (takeA A (childP i bit s d m)).2 i) := by unfold childA; rw [if_neg (by rw [hv]; simp), if_neg hbit, if_neg hf]
        have hlt : A.taken < A.cap := by have := HI.out.count; have := HI.out.len; omega
        have P3 := hT w1 _ hb hlt
        have h3 := hb.mv 1
        (try dsimp only [Go.Own.front, Go.Own.arrA, Go.Own.atA, Go.Own.dropA, List.length_cons, List.length_nil, Nat.zero_add, Nat.reduceAdd] at h3)
        have hkp := take_keeps HI.out (childP i bit s d m) hp htk
        have hkd := HI.out.kids i p hp htk
        have hk6 : (p.kids : Int) ≤ 65536 := by have := kids_le A.all i; have := HI.out.len; have := HI.out.cap2; omega
        have W1 : IntKind.i64.wrap ((p.kids : Int) + 1) = (p.kids : Int) + 1 := IntWalk.i64_in _ (by omega)
        have HE := Lib.hid e
        generalize hA2 : takeA A (childP i bit s d m) = R at *
        obtain ⟨id2, A2⟩ := R
        have HKP := Lib.hid hkp
        clear e hT hT2 HI hp htk hv he hf hbit hkd hlt hA2 hkp
        simp only at P3
        go_upto_region 9 with (first
          | (go_at_call 24; refine P1.mono ?_; rintro e w2 ⟨rfl, rfl⟩)
          | (go_at_call 26; refine P2.mono ?_; rintro e w3 ⟨rfl, rfl⟩)
          | (refine wpList_loadAll_h (by rfl) 32 _ (by rfl) q (by rfl) h3 _ Try.underlying32 (by rfl) (by rw [i32]; rfl) ?_)
          | (go_at_call 25; refine P3.mono ?_; rintro e w4 ⟨rfl, h4⟩))
        clear P1 P2 P3 h3 hb
        obtain ⟨ao2, ac2, fo2, fc2, h5⟩ := ar_open h4
        have hil : i < A2.all.length := (List.getElem?_eq_some_iff.1 HKP.out).1
        have hii : (i : Int) < (A2.all.length : Int) := by omega
        obtain ⟨rb, rp, rfl, G⟩ := pl_at cells8 HKP.out rfl (h5.mv 1)
        obtain ⟨g5', f5⟩ := G _ _ (h5.mv 1) 5 (by omega)
        have g5 : w4.cell? ⟨rb, rp + i * 8 + 5, none⟩ = some (.int .i64 p.kids) := g5'
        clear g5'
        have g1 : w4.cell? ⟨b, 1, none⟩ = some (.slice (some ⟨rb, rp, none⟩) A2.all.length ac2) := h5.cell 1
        have h6 := (h5.mv 1).put (i * 8 + 5) (by omega) (.int .i64 ((p.kids : Int) + 1))
        rw [← Nat.add_assoc] at h6
        (try dsimp only [Go.Own.front, Go.Own.arrA, Go.Own.atA, Go.Own.dropA, List.length_cons, List.length_nil, Nat.zero_add, Nat.reduceAdd] at h6)
        have h7 := h6.arr [1, 0, 2]
        (try dsimp only [Go.Own.front, Go.Own.arrA, Go.Own.atA, Go.Own.dropA, List.length_cons, List.length_nil, Nat.zero_add, Nat.reduceAdd] at h7)
        generalize hm2 : A2.all.length = m2 at *
        clear G h4 h5 h6
        go_wp2
        go_ret2
        rw [HE.out]
        refine ⟨rfl, ?_⟩
        have he2 : plA A2 i = p := plA_in HKP.out
        have e3 := kid_cells cells8 HKP.out 5 (by omega) { p with kids := p.kids + 1 } (.int .i64 ((p.kids : Int) + 1)) rfl
        rw [← e3] at h7
        have h8 := (h7.mv 3).drop
        (try dsimp only [Go.Own.front, Go.Own.arrA, Go.Own.atA, Go.Own.dropA, List.length_cons, List.length_nil, Nat.zero_add, Nat.reduceAdd] at h8)
        refine ar_close (A := bumpA A2 i) (ao := some ⟨rb, rp, none⟩) (ac := ac2) (fo := fo2) (fc := fc2) ?_
        unfold bumpA
        rw [he2]
        simp only [List.length_set, hm2, Int.toNat_natCast]
        exact h8.as (by simp only [AR.cells, List.length_set, hm2])

end Go.Proofs.Ytahhbbcgfhmmgaa
