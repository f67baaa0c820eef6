/- ChannelBefalls' walk. -/
import Derived.Test.YtlfchokafpodcaaBfA
open Go.RowKit Go.Own
namespace Go.Proofs.Ytlfchokafpodcaa

theorem text_ok {w : World} {ao : Option Addr} {n cap : Nat} {l : List UInt8} (h : ∃ S, Rd w 1 (.slice ao n cap) n (ub l) S) : Sem.run Try.prog (convert 22 9 (.slice ao n cap)) w = .ok (.string ⟨l.toArray⟩) w := by
  obtain ⟨S, hr⟩ := h
  exact run_text Try.underlying22 Try.underlying5 Try.underlying9 hr
theorem and1 (x : UInt8) : bits BinOp.and IntKind.u8 (x.toNat : Int) 1 = ((x &&& 1).toNat : Int) := by
  have hx : x.toNat &&& 1 < 2 ^ 8 := Nat.and_lt_two_pow _ (by omega)
  have hx2 := x.toNat_lt
  have h1 : (BitVec.ofInt 8 (x.toNat : Int)).toNat = x.toNat := by
    rw [BitVec.ofInt_natCast, BitVec.toNat_ofNat]; exact Nat.mod_eq_of_lt (by omega)
  show IntKind.u8.wrap ((BitVec.ofInt 8 (x.toNat : Int) &&& BitVec.ofInt 8 (1 : Int)).toNat : Int) = _
  rw [BitVec.toNat_and, h1, UInt8.toNat_and]
  have h2 : (BitVec.ofInt 8 (1 : Int)).toNat = 1 := by decide
  rw [h2]
  simp [IntKind.wrap, IntKind.bits, IntKind.signed]
  omega

def chS (l : List UInt8) : CS := ⟨65536, 16, l, 0⟩
def BfRel (b : Nat) (n : Nat) (C : Asn) (L : List Asn) (iv : Value) (wr : World) : Prop := ∃ (k : Nat) (l : List UInt8), k ≤ n ∧ iv = .int .i64 k ∧ l.length ≤ 65536 ∧ Hold wr (chA b (chS l) :: C :: L)
def FillRel (mo : Option Addr) (m : Nat) (bs : List UInt8) (T : List Asn) (jv : Value) (wr : World) : Prop := ∃ (p : Nat) (xs : List Value), p ≤ m ∧ jv = .int .i64 p ∧ (∀ q, q < p → xs[q]? = (ub bs)[q]?) ∧ Hold wr (rowA 5 1 mo m m xs :: T)

theorem q_facts (q M : Nat) (h : (q : Int) ≤ M) (hM : (M : Int) ≤ 65536) : IntKind.i64.wrap ((q : Int) + 1) = (q : Int) + 1 ∧ wrap64 ((q : Int) + 1) = (q : Int) + 1 ∧ ((q : Int) + 1).toNat = q + 1 ∧ ¬ ((q : Int) + 1 < 0) ∧ 0 ≤ (q : Int) + 1 ∧ (q : Int) ≤ (q : Int) + 1 :=
  ⟨IntWalk.i64_in _ (by omega), IntWalk.wrap64_in _ (by omega), by omega, by omega, by omega, by omega⟩
theorem bnds (q M L9 : Nat) (h : (q : Int) ≤ M) (hM : (M : Int) ≤ 65536) (hL : (L9 : Int) ≤ 65536) : q ≤ maxLen ∧ q * 1 ≤ 140737488355328 ∧ q + 1 ≤ maxLen ∧ (q + 1) * 1 ≤ 140737488355328 ∧ q + 1 + L9 ≤ maxLen ∧ (q + 1 + L9) * 1 ≤ 140737488355328 ∧ q + L9 ≤ maxLen ∧ (q + L9) * 1 ≤ 140737488355328 := by
  unfold maxLen
  exact ⟨by omega, by omega, by omega, by omega, by omega, by omega, by omega, by omega⟩
theorem one_max : 1 ≤ maxLen := by unfold maxLen; omega
theorem rest_facts (d M : Nat) (hM : (M : Int) ≤ 65536) : ∃ L9, M - d = L9 ∧ (L9 : Int) ≤ 65536 := ⟨_, rfl, by omega⟩
/-- Behind what befell: the error is nil just where it should be, and want is what the channel has. -/
def BfCut (b : Nat) (C : Asn) (L : List Asn) (fv wv okv : Value) (wc : World) : Prop := ∃ (f : Int) (l : List UInt8) (ao : Option Addr) (cp : Nat), fv = .int .i64 f ∧ okv = .bool (f == 0) ∧ wv = .slice ao l.length cp ∧ l.length ≤ 65536 ∧ Hold wc (rowA 5 1 ao l.length cp (ub l) :: chA b (chS l) :: C :: L)
section
variable {a M q d L9 : Nat} {l : List UInt8}
theorem takeRd (hq : q ≤ M) {W : World} {X : List Asn} (hW : Hold W (rowA 5 1 (some ⟨a, 0, none⟩) M M (ub l) :: X)) : ∃ S, Rd W 1 (.slice (some ⟨a, 0, none⟩) q M) q (ub (l.take q)) S := by
  obtain ⟨S, hr⟩ := hW.rd
  have r2 := hr.sliced (l := 0) (u := q) (m := M) (by omega) (by omega) (by omega) (by omega)
  have e1 : sliced (some ⟨a, 0, none⟩) 0 q M 1 = .slice (some ⟨a, 0, none⟩) q M := by
    unfold sliced
    by_cases e : M = 0
    · rw [if_pos e]; simp
    · rw [if_neg (by omega)]; simp [Addr.add]
  rw [e1, Nat.zero_mul, List.drop_zero, Nat.sub_zero, Nat.mul_one, ← ub_take] at r2
  exact ⟨S, r2⟩
theorem dropRd (hl : l.length = M) (hd : d < M) (hL : M - d = L9) {W : World} {X : List Asn} (hW : Hold W (rowA 5 1 (some ⟨a, 0, none⟩) M M (ub l) :: X)) : ∃ S, Rd W 1 (.slice (some ⟨a, d, none⟩) L9 L9) L9 (ub (l.drop d)) S := by
  obtain ⟨S, hr⟩ := hW.rd
  have r2 := hr.sliced (l := d) (u := M) (m := M) (by omega) (by omega) (by omega) (by omega)
  have e1 : sliced (some ⟨a, 0, none⟩) d M M 1 = .slice (some ⟨a, d, none⟩) L9 L9 := by
    unfold sliced
    rw [if_neg (by omega), hL]; simp [Addr.add]; try (intro h; omega)
  have e2 : ((ub l).drop (d * 1)).take ((M - d) * 1) = ub (l.drop d) := by
    rw [Nat.mul_one, Nat.mul_one, List.take_of_length_le (by simp; omega), ub_drop]
  rw [e1, e2, hL] at r2
  exact ⟨S, r2⟩
theorem dropRd0 (hl : l.length = d) (hMd : M = d) {W : World} {X : List Asn} (hW : Hold W (rowA 5 1 (some ⟨a, 0, none⟩) M M (ub l) :: X)) : ∃ S, Rd W 1 (.slice (some ⟨a, 0, none⟩) 0 0) 0 (ub (l.drop d)) S := by
  rw [hMd] at hW
  obtain ⟨S, hr⟩ := hW.rd
  have r2 := hr.sliced (l := d) (u := d) (m := d) (by omega) (by omega) (by omega) (by omega)
  have e1 : sliced (some ⟨a, 0, none⟩) d d d 1 = .slice (some ⟨a, 0, none⟩) 0 0 := by
    unfold sliced
    rw [if_pos rfl]; simp
  have e2 : ((ub l).drop (d * 1)).take ((d - d) * 1) = ub (l.drop d) := by
    rw [List.drop_of_length_le (by simp; omega), List.drop_of_length_le (by omega)]; simp [ub]
  rw [e1, e2, Nat.sub_self] at r2
  exact ⟨S, r2⟩
variable {b : Nat} {C R P : Asn} {L : List Asn} {x : UInt8}
theorem fin3 (hl : l.length = M) (hq : q < M) (hL : M - (q + 1) = L9) (hM : M ≤ 65536) (NB : Asn) {a10 : Option Addr} {c10 : Nat} {w : World} (hW : Hold w (rowA 5 1 a10 (q + 1 + L9) c10 (ub (l.take q) ++ [.int .u8 (x.toNat : Int)] ++ ub (l.drop (q + 1))) :: NB :: chA b (chS (l.set q x)) :: R :: P :: C :: L)) :
    BfCut b C L (.int .i64 0) (.slice a10 (q + 1 + L9) c10) (.bool true) w := by
  have el : (l.set q x).length = q + 1 + L9 := by simp; omega
  have ev : ub (l.take q) ++ [.int .u8 (x.toNat : Int)] ++ ub (l.drop (q + 1)) = ub (l.set q x) := by
    rw [show l.set q x = l.take q ++ x :: l.drop (q + 1) by rw [List.set_eq_take_append_cons_drop, if_pos (by omega)]]; simp [ub]
  rw [ev, ← el] at hW
  rw [← el]
  have hF := ((((hW.mv 1).drop.mv 2).drop.mv 2).drop)
  (try dsimp only [Go.Own.front, Go.Own.arrA, Go.Own.atA, Go.Own.dropA, List.length_cons, List.length_nil, Nat.zero_add, Nat.reduceAdd] at hF)
  exact ⟨0, l.set q x, a10, c10, rfl, rfl, rfl, by rw [el]; omega, hF⟩
theorem fin5 (hl : l.length = M) (hq : q ≤ M) (hL : M - q = L9) (hM : M < 65536) (NB : Asn) {a10 : Option Addr} {c10 : Nat} {w : World} (hW : Hold w (rowA 5 1 a10 (q + 1 + L9) c10 (ub (l.take q) ++ [.int .u8 (x.toNat : Int)] ++ ub (l.drop q)) :: NB :: chA b (chS (l.take q ++ x :: l.drop q)) :: R :: P :: C :: L)) :
    BfCut b C L (.int .i64 0) (.slice a10 (q + 1 + L9) c10) (.bool true) w := by
  have el : (l.take q ++ x :: l.drop q).length = q + 1 + L9 := by simp; omega
  have ev : ub (l.take q) ++ [.int .u8 (x.toNat : Int)] ++ ub (l.drop q) = ub (l.take q ++ x :: l.drop q) := by simp [ub]
  rw [ev, ← el] at hW
  rw [← el]
  have hF := ((((hW.mv 1).drop.mv 2).drop.mv 2).drop)
  (try dsimp only [Go.Own.front, Go.Own.arrA, Go.Own.atA, Go.Own.dropA, List.length_cons, List.length_nil, Nat.zero_add, Nat.reduceAdd] at hF)
  exact ⟨0, l.take q ++ x :: l.drop q, a10, c10, rfl, rfl, rfl, by rw [el]; omega, hF⟩
theorem fin4 (hl : l.length = M) (hq : q < M) (hL : M - (q + 1) = L9) (hM : M ≤ 65536) {a10 : Option Addr} {c10 : Nat} {w : World} (hW : Hold w (rowA 5 1 a10 (q + L9) c10 (ub (l.take q) ++ ub (l.drop (q + 1))) :: chA b (chS (l.take q ++ l.drop (q + 1))) :: R :: P :: C :: L)) :
    BfCut b C L (.int .i64 0) (.slice a10 (q + L9) c10) (.bool true) w := by
  have el : (l.take q ++ l.drop (q + 1)).length = q + L9 := by simp; omega
  have ev : ub (l.take q) ++ ub (l.drop (q + 1)) = ub (l.take q ++ l.drop (q + 1)) := by simp [ub]
  rw [ev, ← el] at hW
  rw [← el]
  have hF := ((hW.mv 2).drop.mv 2).drop
  (try dsimp only [Go.Own.front, Go.Own.arrA, Go.Own.atA, Go.Own.dropA, List.length_cons, List.length_nil, Nat.zero_add, Nat.reduceAdd] at hF)
  exact ⟨0, l.take q ++ l.drop (q + 1), a10, c10, rfl, rfl, rfl, by rw [el]; omega, hF⟩
end
theorem cells_reads (T : TypeId) (b n sz : Nat) (xs : List Value) (hl : xs.length = n * sz) (hm : n ≤ maxLen) : Reads (cellsA b T xs) sz (.slice (some ⟨b, 0, none⟩) n n) n xs := by
  rintro B w ⟨rfl, h⟩
  refine ⟨[b], ⟨hl, some ⟨b, 0, none⟩, n, rfl, Nat.le_refl _, hm, .inr ⟨b, 0, rfl, rfl, h.lt, fun j _ => by rw [Nat.zero_add]; exact h.cell j⟩⟩, fun _ h => h⟩
theorem emptyRow {w : World} {L : List Asn} (h : Hold w L) (E : TypeId) : Hold (w.alloc (.cells #[] E)) (rowA E 1 (some ⟨w.heap.size, 0, none⟩) 0 0 [] :: L) :=
  h.new ((Fr.refl _ _).alloc _) (B := [w.heap.size]) (Own.new w E 1 0 0 #[] (by omega) (by unfold maxLen; omega) (by simp)) (by simp) (by simp)
theorem wp_append_empty_h {P : Program} {w : World} {L : List Asn} {o : Oper} {a : Act} {K : Act → World → Prop} {Q : Exit → Act → World → Prop} (s x : Operand) (t : TypeId)
    (hop : o.op = Op.call { callee := Callee.builtin Builtin.append, args := #[s, x], argTypes := #[t, t] })
    (E : TypeId) (i : TypeInfo) (z : Value) (sz by_ : Nat) (ht : P.underlying t = some (.slice E)) (hi : P.info? E = some i) (hz : i.zero = some z) (hsz : i.size = sz) (hby : i.bytes = by_)
    (hzc : z.cells.size = sz) (ao : Option Addr) (hv : a.eval s = .slice ao 0 0) (h : Hold w (rowA E sz ao 0 0 [] :: L)) (sv : Value) (hx : a.eval x = sv) (m : Nat) (news : List Value) (S : List Nat)
    (hr : Rd w sz sv m news S) (h1 : ∀ u ∈ news, u.oneCell' = true) (h63 : m ≤ maxLen) (hfit : m * by_ ≤ 140737488355328)
    (hK : ∀ ao' cap' w', Hold w' (rowA E sz ao' m cap' news :: L) → m ≤ cap' → K (a.put o.dst (.slice ao' m cap')) w') : o.wp P a w K Q := by
  refine wp_append_src_h s x t hop E i z sz by_ ht hi hz hsz hby hzc ao 0 0 [] hv h sv hx m news S hr h1 (by omega) (by rw [Nat.zero_add]; exact hfit) (fun ao' cap' w' g1 g2 => ?_)
  rw [Nat.zero_add] at g1 g2 ⊢
  exact hK ao' cap' w' g1 g2

set_option maxHeartbeats 8000000 in
set_option maxRecDepth 20000 in
theorem befalls_walk (ys : List UInt8) (C : Asn) (yo : Option Addr) (yn yc : Nat) (hY : Reads C 1 (.slice yo yn yc) yn (ub ys)) (hyn : yn ≤ 140737488351232) (ao : Option Addr) (n cap : Nat) (hO : RowsOf C 4 OpRow ao n cap) (hn : n * 48 ≤ 140737488351232) (w : World) (L : List Asn) (h : Hold w (C :: L)) :
    Calls Try.prog 5 #[.slice yo yn yc, .slice ao n cap] w fun e w' => e = .returned (.bool true) ∧ Hold w' (C :: L) := by
  obtain ⟨i5, hi, hz0, hz1, hz2⟩ := info_parts info5
  have P1 := new_h h
  have hyl : ys.length = yn := by obtain ⟨S, hr⟩ := h.reads hY; have := hr.bounds.1; simpa using this
  have hn9 : (n : Int) ≤ 9223372036854775807 := by omega
  obtain ⟨m, hm⟩ : ∃ m : Nat, m = min yn 65536 := ⟨_, rfl⟩
  have hm1 : (m : Int) ≤ 65536 := by omega
  have hm2 : (m : Int) ≤ yn := by omega
  have hmm : min (yn : Int) 65536 = m := by omega
  have HM := Lib.hid (And.intro hm hyl)
  clear hm hyl hn
  go_enter Try.func5, Try.ntmps5
  go_upto_region 4 with (first
    | (go_at_call 9; refine P1.mono ?_; clear P1; rintro e w1 ⟨b, rfl, h1⟩; have P2 := knows_h h1)
    | (go_at_call 10; refine (num_any _ _).mono ?_; rintro e w' ⟨rfl, rfl⟩)
    | (go_at_call 11; refine P2.mono ?_; clear P2; rintro e w2 ⟨rfl, h2⟩))
  clear h1 h
  go_cut [7] (fun v wc => ∃ mo, v = .slice mo m m ∧ Hold wc (rowA 5 1 mo m m (((madeCells (Value.int .u8 0).cells (m * 1)).toList).take (m * 1)) :: chA b ⟨65536, 16, [], 0⟩ :: C :: L))
  case first =>
    by_cases hle : yn ≤ 65536
    · obtain rfl : m = yn := by have := HM.out.1; omega
      have hlei : (m : Int) ≤ 65536 := by omega
      go_wp2_with ((with_reducible refine wpList_plain (o := ⟨some 33, _, _, _, _, _⟩) rfl (fun K hK => ?_)); refine wp_make_h _ _ 22 (by rfl) 5 i5 (.int .u8 0) 1 1 Try.underlying22 hi hz0 hz1 hz2 .i64 .i64 m m (by rfl) (by rfl) (by omega) (by omega) (by omega) (by omega) h2 (fun mo w4 h4 => ?_); rw [Int.toNat_natCast] at h4 ⊢; refine hK _ _ ?_; clear hK K)
      all_goals go_meet
      all_goals exact ⟨_, rfl, h4⟩
    · obtain rfl : m = 65536 := by have := HM.out.1; omega
      have hlei : ¬ (yn : Int) ≤ 65536 := by omega
      have hlei2 : (65536 : Int) ≤ yn := by omega
      have hlei3 : (65536 : Int) < yn := by omega
      go_wp2_with ((with_reducible refine wpList_plain (o := ⟨some 33, _, _, _, _, _⟩) rfl (fun K hK => ?_)); refine wp_make_h _ _ 22 (by rfl) 5 i5 (.int .u8 0) 1 1 Try.underlying22 hi hz0 hz1 hz2 .i64 .i64 65536 65536 (by rfl) (by rfl) (by omega) (by omega) (by omega) (by omega) h2 (fun mo w4 h4 => ?_); refine hK _ _ ?_; clear hK K)
      all_goals go_meet
      all_goals exact ⟨_, rfl, h4⟩
  case rest =>
    obtain ⟨mo, rfl, h4⟩ := hcut
    clear h2
    obtain ⟨bs, hbs⟩ : ∃ bs, bs = (ys.take m).map (· &&& 1) := ⟨_, rfl⟩
    have hbl : bs.length = m := by rw [hbs]; have := HM.out; simp; omega
    have hbg : ∀ q x, ys[q]? = some x → q < m → bs[q]? = some (x &&& 1) := fun q x h1 h2 => by
      rw [hbs, List.getElem?_map, List.getElem?_take, if_pos h2, h1]; rfl
    have hb1 : ∀ x ∈ bs, x ≤ 1 := fun x hx => by
      rw [hbs] at hx
      obtain ⟨y, -, rfl⟩ := List.mem_map.1 hx
      have h1 : (y &&& 1).toNat ≤ 1 := by rw [UInt8.toNat_and]; exact Nat.and_le_right
      exact UInt8.le_iff_toNat_le.2 (by simpa using h1)
    have HBS := Lib.hid (And.intro hbl (And.intro hbg hb1))
    clear hbs hbl hbg hb1
    go_upto_block 0 with (fail)
    go_wp2
    go_loopw [8] (fun jv wr => FillRel mo m bs (chA b ⟨65536, 16, [], 0⟩ :: C :: L) jv wr) (fun jv _ => m - (intOf jv).toNat)
    case atStart => exact ⟨0, _, Nat.zero_le _, rfl, fun q hq => by omega, h4⟩
    case round =>
      clear h4
      obtain ⟨p, xs, hp, rfl, hxs, hr⟩ := hrel
      by_cases hlt : p < m
      · have hpi : (p : Int) < m := by omega
        have hp0 : 0 ≤ (p : Int) := by omega
        have hpy : (p : Int) < yn := by omega
        obtain ⟨S1, hrd⟩ := (hr.mv 2).reads hY
        obtain ⟨rb, ro, rfl, -, -, hct⟩ := hrd.addr (by omega)
        obtain ⟨x, hx⟩ : ∃ x, ys[p]? = some x := ⟨_, List.getElem?_eq_getElem (by have := HM.out; omega)⟩
        have cx : wr.cell? ⟨rb, ro + p, none⟩ = some (.int .u8 x.toNat) := by rw [hct p (by omega), ub_get? hx]
        obtain ⟨mb, mp, rfl, hmc, hmf⟩ := hr.at (by omega)
        have hxl := hr.bounds.1
        obtain ⟨z, hz⟩ : ∃ z, wr.cell? ⟨mb, mp + p, none⟩ = some z := ⟨_, by rw [hmc p (by omega)]; exact List.getElem?_eq_getElem (by omega)⟩
        have f1 := hmf (mp + p)
        obtain ⟨y, hy⟩ : ∃ y : UInt8, y = x &&& 1 := ⟨_, rfl⟩
        have hand := and1 x
        rw [← hy] at hand
        have hset := hr.put p (by omega) (.int .u8 y.toNat)
        have hnew : ∀ q, q < p + 1 → (xs.set p (.int .u8 y.toNat))[q]? = (ub bs)[q]? := fun q hq => by
          by_cases e : q = p
          · rw [e, List.getElem?_set_self (by omega), ub_get? (x := y) (by rw [HBS.out.2.1 p x hx hlt, hy])]
          · rw [List.getElem?_set_ne (by omega)]; exact hxs q (by omega)
        have HNW := Lib.hid hnew
        clear hrd hct hx hmc hmf hxs hnew hy
        go_wp2
        go_roundw
        case rel => exact ⟨p + 1, _, by omega, by go_num, HNW.out, hset⟩
        case measure => (simp [intOf] <;> omega)
      · obtain rfl : p = m := by omega
        have hxe : xs = ub bs := by
          apply List.ext_getElem?
          intro q
          by_cases hq : q < p
          · exact hxs q hq
          · have h1 := hr.bounds.1
            rw [List.getElem?_eq_none (by omega), List.getElem?_eq_none (by rw [ub_length, HBS.out.1]; omega)]
        subst hxe
        have PP := put_h (hr.mv 1) HBS.out.2.2
        obtain ⟨l0, hl0⟩ : ∃ l0, l0 = (bs.take 65536).map (lv 16) := ⟨_, rfl⟩
        have hput : CS.put ⟨65536, 16, [], 0⟩ bs = chS l0 := by rw [hl0]; rfl
        rw [hput] at PP
        have hl0l : l0.length ≤ 65536 := by rw [hl0]; simp; omega
        clear hl0 hput hxs
        go_upto_block 2 with (go_at_call 12; refine PP.mono ?_; clear PP; rintro e w5 ⟨rfl, h5⟩)
        have h6 := (h5.mv 1).drop
        clear hr h5
        go_wp2
        go_loopw [9] (fun iv wr => BfRel b n C L iv wr) (fun iv _ => n - (intOf iv).toNat)
        case atStart => exact ⟨0, l0, Nat.zero_le _, rfl, hl0l, h6⟩
        case round =>
          clear h6 hl0l
          obtain ⟨k, l, hk, rfl, hll, hr⟩ := hrel
          by_cases hlt : k < n
          · have hki : (k : Int) < n := by omega
            have hk0 : 0 ≤ (k : Int) := by omega
            obtain ⟨rb, ro, vs, rfl, ⟨K, wo, wn, wcp, N, x, rfl, hN⟩, hct⟩ := hO.at hlt (by omega) (hr.mv 1)
            have c0 : wr.cell? ⟨rb, ro + k * 4, none⟩ = some (.int .i64 K) := hct wr _ (hr.mv 1) 0 (by omega)
            have c1 : wr.cell? ⟨rb, ro + k * 4 + 1, none⟩ = some (.slice wo wn wcp) := by rw [Nat.add_assoc]; exact hct wr _ (hr.mv 1) 1 (by omega)
            have c2 : wr.cell? ⟨rb, ro + k * 4 + 2, none⟩ = some (.int .i64 N) := by rw [Nat.add_assoc]; exact hct wr _ (hr.mv 1) 2 (by omega)
            have c3 : wr.cell? ⟨rb, ro + k * 4 + 3, none⟩ = some (.int .u8 x.toNat) := by rw [Nat.add_assoc]; exact hct wr _ (hr.mv 1) 3 (by omega)
            have hb := hr.box 39 [.int .i64 K, .slice wo wn wcp, .int .i64 N, .int .u8 x.toNat]
            obtain ⟨p, hp⟩ : ∃ p, wr.heap.size = p := ⟨_, rfl⟩
            rw [hp] at hb
            clear hct
            go_upto_region 14 with (fail)
            refine gen_world hb (fun w6 hb => ?_)
            clear hp hr c0 c1 c2 c3
            have PL := look_h (hb.mv 1)
            obtain ⟨a, ha⟩ : ∃ a, w6.heap.size = a := ⟨_, rfl⟩
            rw [ha] at PL
            rw [show (chS l).l = l from rfl] at PL
            obtain ⟨M, hM⟩ : ∃ M, l.length = M := ⟨_, rfl⟩
            rw [hM] at PL hll
            have hMi : (M : Int) ≤ 65536 := by omega
            have HLM := Lib.hid hM
            clear hM ha
            go_upto_region 15 with (go_at_call 13; refine PL.mono ?_; clear PL; rintro e w7 ⟨rfl, hA⟩)
            clear hb
            have hA : Hold w7 (rowA 5 1 (some ⟨a, 0, none⟩) M M (ub l) :: chA b (chS l) :: cellsA p 39 [.int .i64 K, .slice wo wn wcp, .int .i64 N, .int .u8 x.toNat] :: C :: L) := hA
            have d0 : w7.cell? ⟨p, 0, none⟩ = some (.int .i64 K) := (hA.mv 2).cell 0
            have d2 : w7.cell? ⟨p, 2, none⟩ = some (.int .i64 N) := (hA.mv 2).cell 2
            have d3 : w7.cell? ⟨p, 3, none⟩ = some (.int .u8 x.toNat) := (hA.mv 2).cell 3
            go_upto_region 17 with (fail)
            go_cut [14] (fun okv wc => (∃ okb : Bool, okv = .bool okb ∧ (okb = true ↔ (0 ≤ N ∧ N < (M : Int)))) ∧ wc = w7)
            case first =>
              by_cases hN0 : N < 0
              · have hN1 : ¬ 0 ≤ N := by omega
                go_wp2
                all_goals go_meet
                all_goals exact ⟨⟨false, rfl, by simp; omega⟩, rfl⟩
              · have hN1 : 0 ≤ N := by omega
                by_cases hNM : N < M
                · have hNMh := Lib.hid (And.intro hN1 hNM)
                  go_wp2
                  all_goals go_meet
                  all_goals exact ⟨⟨true, rfl, ⟨fun _ => hNMh.out, fun _ => rfl⟩⟩, rfl⟩
                · have hNM2 : (M : Int) ≤ N := by omega
                  have hNMh := Lib.hid hNM2
                  go_wp2
                  all_goals go_meet
                  all_goals exact ⟨⟨false, rfl, ⟨fun h => Bool.noConfusion h, fun h => absurd h.2 (by have := hNMh.out; omega)⟩⟩, rfl⟩
            case rest =>
              obtain ⟨⟨okb, rfl, hokb⟩, hww⟩ := hcut
              subst hww
              have HOKB := Lib.hid hokb
              clear hokb
              go_upto_block 4 with (fail)
              go_cut [12, 13, 14] (fun fv wv okv wc => BfCut b C L fv wv okv wc)
              case first =>
                have HREF : Hid (∀ (z : Int) (W : World), (z == 0) = false → Hold W (chA b (chS l) :: rowA 5 1 (some ⟨a, 0, none⟩) M M (ub l) :: cellsA p 39 [.int .i64 K, .slice wo wn wcp, .int .i64 N, .int .u8 x.toNat] :: C :: L) → BfCut b C L (.int .i64 z) (.slice (some ⟨a, 0, none⟩) M M) (.bool false) W) := Lib.hid (fun z W hz hW => by
                  have h9 := (hW.mv 2).drop.mv 1
                  (try dsimp only [Go.Own.front, Go.Own.arrA, Go.Own.atA, Go.Own.dropA, List.length_cons, List.length_nil, Nat.zero_add, Nat.reduceAdd] at h9)
                  rw [← HLM.out] at h9 ⊢
                  exact ⟨z, l, _, _, rfl, by rw [hz], rfl, by rw [HLM.out]; exact hll, h9⟩)
                by_cases hk3 : K = 3
                · have hq3 : (K == 3) = true := by simpa using hk3
                  clear hk3
                  cases okb
                  · have hout : N < 0 ∨ (M : Int) ≤ N := by
                      have h1 : ¬ (0 ≤ N ∧ N < (M : Int)) := fun h => Bool.noConfusion (HOKB.out.2 h)
                      omega
                    as_aux_lemma =>
                      have PS := set_no_h N x (by show _ ∨ (l.length : Int) ≤ N ∨ _; rw [HLM.out]; omega) (hA.mv 1)
                      clear d0
                      go_wp2_with (first
                        | (go_at_call 18; refine PS.mono ?_; clear PS; rintro e w8 ⟨⟨z, hz, rfl⟩, h8⟩; have e2 := (h8.mv 2).cell 2; have e3 := (h8.mv 2).cell 3)
                        | (go_at_call 10; refine (num_any _ _).mono ?_; rintro e w9 ⟨rfl, rfl⟩))
                      all_goals go_meet
                      all_goals first | exact HREF.out z _ hz h8 | (rw [show decide ((x.toNat : Int) < 16) = false from HXD.out]; exact HREF.out z _ hz h8)
                  · have hin := HOKB.out.1 rfl
                    obtain ⟨q, hq⟩ : ∃ q : Nat, N = q := ⟨N.toNat, by omega⟩
                    subst hq
                    have hqM : (q : Int) < M := hin.2
                    have hq0 : 0 ≤ (q : Int) := hin.1
                    have hqM2 : (q : Int) ≤ M := by omega
                    have hqN : q < M := by omega
                    by_cases hx : x.toNat < 16
                    · have hxi : (x.toNat : Int) < 16 := by omega
                      have PS := set_h q x hx (by show q < l.length; rw [HLM.out]; exact hqN) (hA.mv 1)
                      rw [show (chS l).set q x = chS (l.set q x) from rfl] at PS
                      have HFS : Hid (∀ W X, Hold W (cellsA p 39 [.int .i64 K, .slice wo wn wcp, .int .i64 q, .int .u8 x.toNat] :: X) → W.cell? ⟨p, 2, none⟩ = some (.int .i64 q) ∧ W.cell? ⟨p, 3, none⟩ = some (.int .u8 x.toNat)) := Lib.hid (fun W X hW => ⟨hW.cell 2, hW.cell 3⟩)
                      have hqNle : q ≤ M := by omega
                      have hdM : q + 1 ≤ M := by omega
                      have HLE := Lib.hid (And.intro hqNle hdM)
                      obtain ⟨W1, W2, g1, g2, g3, g4⟩ := q_facts q M hqM2 hMi
                      obtain ⟨L9, hL9, hL9b⟩ := rest_facts (q + 1) M hMi
                      have HL9 := Lib.hid hL9
                      have HBN := Lib.hid (bnds q M L9 hqM2 hMi hL9b)
                      have hMN : M ≤ 65536 := by omega
                      have HMN := Lib.hid hMN
                      have HQN := Lib.hid hqN
                      clear d0
                      by_cases hce : M = q + 1
                      · as_aux_lemma =>
                          have hce := hce.symm
                          subst hce
                          have HRT : Hid (∀ W X, Hold W (rowA 5 1 (some ⟨a, 0, none⟩) (q + 1) (q + 1) (ub l) :: X) → ∃ S, Rd W 1 (.slice (some ⟨a, 0, none⟩) q (q + 1)) q (ub (l.take q)) S) := Lib.hid (fun W X hW => takeRd hqNle hW)
                          have HRD : Hid (∀ W X, Hold W (rowA 5 1 (some ⟨a, 0, none⟩) (q + 1) (q + 1) (ub l) :: X) → ∃ S, Rd W 1 (.slice (some ⟨a, 0, none⟩) 0 0) 0 (ub (l.drop (q + 1))) S) := Lib.hid (fun W X hW => dropRd0 HLM.out rfl hW)
                          have HT1 := Lib.hid (ub_one (l.take q))
                          have HT2 := Lib.hid (ub_one (l.drop (q + 1)))
                          have hz9 : L9 = 0 := by omega
                          have HZ9 := Lib.hid hz9
                          subst hz9
                          clear hqNle hdM hMN
                          go_upto_region 23 with (first
                            | (go_at_call 18; refine PS.mono ?_; clear PS; rintro e w8 ⟨rfl, h8⟩; have e2 := (h8.mv 2).cell 2; have e3 := (h8.mv 2).cell 3)
                            | (go_at_call 10; refine (num_any _ _).mono ?_; rintro e w9 ⟨rfl, rfl⟩))
                          have hX := h8.drew
                          clear hA h8 d2 d3 e2 e3
                          refine wp_region_ZP (fun W => W.cell? ⟨p, 2, none⟩ = some (.int .i64 q) ∧ W.cell? ⟨p, 3, none⟩ = some (.int .u8 x.toNat)) [3, 7] [] [1, 2, 4, 6, 10] (.fork [1, 2, 3, 4, 6, 7] 0 (.fork [] 5 (.run [8, 9, 10]) 8 (.run [5, 9, 10])) 8 (.run [0, 5, 9, 10])) (by kernel_rfl) (by kernel_rfl) ?_
                          generalize w8.drew = w9 at *
                          obtain ⟨n9, hn9⟩ : ∃ n, w9.heap.size = n := ⟨_, rfl⟩
                          simp only [wpZP]
                          (repeat (first | (refine wpZ_st (v := ?_) _ (by rfl) (by rfl) (by rfl) (fun W hW => ?_) (by exact HFS.out _ _ (hX.mv 2)) ?_; (rotate_left; (focus ((try dsimp only at hW); go_simp; (try with_reducible rfl); done))); try simp only [Act.put, List.getElem_toArray, List.getElem_cons_zero, List.getElem_cons_succ, List.setIfInBounds_toArray, List.set_cons_zero, List.set_cons_succ]) | (refine wpZ_pu (v := ?_) _ (by rfl) (by rfl) (by rfl) (by rfl) (fun W => ?_) ?_; (rotate_left; (focus ((try dsimp only at hW); go_simp; (try with_reducible rfl); done))); try simp only [Act.put, List.getElem_toArray, List.getElem_cons_zero, List.getElem_cons_succ, List.setIfInBounds_toArray, List.set_cons_zero, List.set_cons_succ]) | (refine wpZ_no _ (by rfl) (by rfl) (by rfl) (by rfl) ?_; try simp only [Act.put, List.getElem_toArray, List.getElem_cons_zero, List.getElem_cons_succ, List.setIfInBounds_toArray, List.set_cons_zero, List.set_cons_succ]) | (refine wpZ_noS _ (by rfl) (by rfl) (by rfl) (by exact HFS.out _ _ (hX.mv 2)) ?_; try simp only [Act.put, List.getElem_toArray, List.getElem_cons_zero, List.getElem_cons_succ, List.setIfInBounds_toArray, List.set_cons_zero, List.set_cons_succ])))
                          refine wpZ_fork ⟨?_, ?_⟩
                          · have h9 := emptyRow hX 5
                            simp only [hn9] at h9
                            refine fork_eff _ (by rfl) (by rfl) (fun K hK => ?_)
                            go_simp
                            refine hK _ _ (fun hl => HFS.out _ _ (h9.mv 3)) ?_
                            clear hK K
                            try simp only [Act.put, List.getElem_toArray, List.getElem_cons_zero, List.getElem_cons_succ, List.setIfInBounds_toArray, List.set_cons_zero, List.set_cons_succ]
                            refine wpZ_fork ⟨?_, ?_⟩
                            · obtain ⟨SR, r0⟩ := HRT.out _ _ (h9.mv 2)
                              refine fork_eff _ (by rfl) (by rfl) (fun K hK => ?_)
                              refine wp_append_empty_h _ _ 22 (by rfl) 5 i5 (.int .u8 0) 1 1 Try.underlying22 hi hz0 hz1 hz2 (by rfl) _ (by rfl) h9 _ (by rfl) q (ub (l.take q)) SR r0 HT1.out HBN.out.1 HBN.out.2.1 (fun a1 c1 w11 h10 hc1 => ?_)
                              refine hK _ _ (fun hl => HFS.out _ _ (h10.mv 3)) ?_
                              clear hK K
                              try simp only [Act.put, List.getElem_toArray, List.getElem_cons_zero, List.getElem_cons_succ, List.setIfInBounds_toArray, List.set_cons_zero, List.set_cons_succ]
                              obtain ⟨n6, hn6⟩ : ∃ n, w11.heap.size = n := ⟨_, rfl⟩
                              have h11 := h10.box 5 [.int .u8 (x.toNat : Int)]
                              simp only [hn6] at h11
                              (refine wpZ_eff _ (by rfl) (by rfl) (by rfl) (by rfl) (fun K hK => ?_); go_simp; refine hK _ _ (fun hl => ?_) ?_; (first | (focus (cases hl; done)) | exact HFS.out _ _ (h11.mv 4)); clear hK K; try simp only [Act.put, List.getElem_toArray, List.getElem_cons_zero, List.getElem_cons_succ, List.setIfInBounds_toArray, List.set_cons_zero, List.set_cons_succ])
                              have h12 := h11.mv 1
                              (try dsimp only [Go.Own.front, Go.Own.arrA, Go.Own.atA, Go.Own.dropA, List.length_cons, List.length_nil, Nat.zero_add, Nat.reduceAdd] at h12)
                              obtain ⟨SB, rB⟩ := (h12.mv 1).reads (cells_reads 5 n6 1 1 _ (by rfl) one_max)
                              refine wpZ_eff _ (by rfl) (by rfl) (by rfl) (by rfl) (fun K hK => ?_)
                              refine wp_append_src_h _ _ 22 (by rfl) 5 i5 (.int .u8 0) 1 1 Try.underlying22 hi hz0 hz1 hz2 (by rfl) a1 (q) c1 _ (by rfl) h12 _ (by rfl) 1 ([.int .u8 x.toNat]) SB rB (by simp [Value.oneCell']) HBN.out.2.2.1 HBN.out.2.2.2.1 (fun a9 c9 w13 h13 hc9 => ?_)
                              (refine hK _ _ (fun hl => ?_) ?_; (first | (focus (cases hl; done)) | exact HFS.out _ _ (h13.mv 4)); clear hK K; try simp only [Act.put, List.getElem_toArray, List.getElem_cons_zero, List.getElem_cons_succ, List.setIfInBounds_toArray, List.set_cons_zero, List.set_cons_succ])
                              (repeat (first | (refine wpZ_st (v := ?_) _ (by rfl) (by rfl) (by rfl) (fun W hW => ?_) (by exact HFS.out _ _ (h13.mv 4)) ?_; (rotate_left; (focus ((try dsimp only at hW); go_simp; (try with_reducible rfl); done))); try simp only [Act.put, List.getElem_toArray, List.getElem_cons_zero, List.getElem_cons_succ, List.setIfInBounds_toArray, List.set_cons_zero, List.set_cons_succ]) | (refine wpZ_pu (v := ?_) _ (by rfl) (by rfl) (by rfl) (by rfl) (fun W => ?_) ?_; (rotate_left; (focus ((try dsimp only at hW); go_simp; (try with_reducible rfl); done))); try simp only [Act.put, List.getElem_toArray, List.getElem_cons_zero, List.getElem_cons_succ, List.setIfInBounds_toArray, List.set_cons_zero, List.set_cons_succ]) | (refine wpZ_no _ (by rfl) (by rfl) (by rfl) (by rfl) ?_; try simp only [Act.put, List.getElem_toArray, List.getElem_cons_zero, List.getElem_cons_succ, List.setIfInBounds_toArray, List.set_cons_zero, List.set_cons_succ]) | (refine wpZ_noS _ (by rfl) (by rfl) (by rfl) (by exact HFS.out _ _ (h13.mv 4)) ?_; try simp only [Act.put, List.getElem_toArray, List.getElem_cons_zero, List.getElem_cons_succ, List.setIfInBounds_toArray, List.set_cons_zero, List.set_cons_succ])))
                              (simp only [wpZ])
                              obtain ⟨SR2, r2⟩ := HRD.out w13 _ (h13.mv 3)
                              have k2 : w13.cell? ⟨p, 2, none⟩ = some (.int .i64 q) := (h13.mv 4).cell 2
                              clear rB h12
                              go_wp2_with ((with_reducible refine wpList_plain (o := ⟨some 108, _, _, _, _, _⟩) rfl (fun K hK => ?_)); refine wp_append_src_h _ _ 22 (by rfl) 5 i5 (.int .u8 0) 1 1 Try.underlying22 hi hz0 hz1 hz2 (by rfl) a9 (q + 1) c9 _ (by rfl) h13 _ (by rfl) 0 (ub (l.drop (q + 1))) SR2 r2 HT2.out HBN.out.2.2.2.2.1 HBN.out.2.2.2.2.2.1 (fun a10 c10 w15 h15 hc15 => ?_); refine hK _ _ ?_; clear hK K)
                              all_goals go_meet
                              all_goals exact fin3 HLM.out HQN.out HL9.out HMN.out _ h15
                            · have h10 := h9.box 5 [.int .u8 (x.toNat : Int)]
                              simp only [World.size_alloc, hn9] at h10
                              refine fork_eff _ (by rfl) (by rfl) (fun K hK => ?_)
                              go_simp
                              refine hK _ _ (fun hl => HFS.out _ _ (h10.mv 4)) ?_
                              clear hK K
                              try simp only [Act.put, List.getElem_toArray, List.getElem_cons_zero, List.getElem_cons_succ, List.setIfInBounds_toArray, List.set_cons_zero, List.set_cons_succ]
                              have h11 := h10.mv 1
                              (try dsimp only [Go.Own.front, Go.Own.arrA, Go.Own.atA, Go.Own.dropA, List.length_cons, List.length_nil, Nat.zero_add, Nat.reduceAdd] at h11)
                              obtain ⟨SR, r0⟩ := HRT.out _ _ (h11.mv 3)
                              refine wpZ_eff _ (by rfl) (by rfl) (by rfl) (by rfl) (fun K hK => ?_)
                              refine wp_append_empty_h _ _ 22 (by rfl) 5 i5 (.int .u8 0) 1 1 Try.underlying22 hi hz0 hz1 hz2 (by rfl) _ (by rfl) h11 _ (by rfl) q (ub (l.take q)) SR r0 HT1.out HBN.out.1 HBN.out.2.1 (fun a1 c1 w11 h12 hc1 => ?_)
                              (refine hK _ _ (fun hl => ?_) ?_; (first | (focus (cases hl; done)) | exact HFS.out _ _ (h12.mv 4)); clear hK K; try simp only [Act.put, List.getElem_toArray, List.getElem_cons_zero, List.getElem_cons_succ, List.setIfInBounds_toArray, List.set_cons_zero, List.set_cons_succ])
                              obtain ⟨SB, rB⟩ := (h12.mv 1).reads (cells_reads 5 (n9 + 1) 1 1 _ (by rfl) one_max)
                              refine wpZ_eff _ (by rfl) (by rfl) (by rfl) (by rfl) (fun K hK => ?_)
                              refine wp_append_src_h _ _ 22 (by rfl) 5 i5 (.int .u8 0) 1 1 Try.underlying22 hi hz0 hz1 hz2 (by rfl) a1 (q) c1 _ (by rfl) h12 _ (by rfl) 1 ([.int .u8 x.toNat]) SB rB (by simp [Value.oneCell']) HBN.out.2.2.1 HBN.out.2.2.2.1 (fun a9 c9 w13 h13 hc9 => ?_)
                              (refine hK _ _ (fun hl => ?_) ?_; (first | (focus (cases hl; done)) | exact HFS.out _ _ (h13.mv 4)); clear hK K; try simp only [Act.put, List.getElem_toArray, List.getElem_cons_zero, List.getElem_cons_succ, List.setIfInBounds_toArray, List.set_cons_zero, List.set_cons_succ])
                              (repeat (first | (refine wpZ_st (v := ?_) _ (by rfl) (by rfl) (by rfl) (fun W hW => ?_) (by exact HFS.out _ _ (h13.mv 4)) ?_; (rotate_left; (focus ((try dsimp only at hW); go_simp; (try with_reducible rfl); done))); try simp only [Act.put, List.getElem_toArray, List.getElem_cons_zero, List.getElem_cons_succ, List.setIfInBounds_toArray, List.set_cons_zero, List.set_cons_succ]) | (refine wpZ_pu (v := ?_) _ (by rfl) (by rfl) (by rfl) (by rfl) (fun W => ?_) ?_; (rotate_left; (focus ((try dsimp only at hW); go_simp; (try with_reducible rfl); done))); try simp only [Act.put, List.getElem_toArray, List.getElem_cons_zero, List.getElem_cons_succ, List.setIfInBounds_toArray, List.set_cons_zero, List.set_cons_succ]) | (refine wpZ_no _ (by rfl) (by rfl) (by rfl) (by rfl) ?_; try simp only [Act.put, List.getElem_toArray, List.getElem_cons_zero, List.getElem_cons_succ, List.setIfInBounds_toArray, List.set_cons_zero, List.set_cons_succ]) | (refine wpZ_noS _ (by rfl) (by rfl) (by rfl) (by exact HFS.out _ _ (h13.mv 4)) ?_; try simp only [Act.put, List.getElem_toArray, List.getElem_cons_zero, List.getElem_cons_succ, List.setIfInBounds_toArray, List.set_cons_zero, List.set_cons_succ])))
                              (simp only [wpZ])
                              obtain ⟨SR2, r2⟩ := HRD.out w13 _ (h13.mv 3)
                              have k2 : w13.cell? ⟨p, 2, none⟩ = some (.int .i64 q) := (h13.mv 4).cell 2
                              clear rB h12
                              go_wp2_with ((with_reducible refine wpList_plain (o := ⟨some 108, _, _, _, _, _⟩) rfl (fun K hK => ?_)); refine wp_append_src_h _ _ 22 (by rfl) 5 i5 (.int .u8 0) 1 1 Try.underlying22 hi hz0 hz1 hz2 (by rfl) a9 (q + 1) c9 _ (by rfl) h13 _ (by rfl) 0 (ub (l.drop (q + 1))) SR2 r2 HT2.out HBN.out.2.2.2.2.1 HBN.out.2.2.2.2.2.1 (fun a10 c10 w15 h15 hc15 => ?_); refine hK _ _ ?_; clear hK K)
                              all_goals go_meet
                              all_goals exact fin3 HLM.out HQN.out HL9.out HMN.out _ h15
                          · have h9 := hX.box 5 [.int .u8 (x.toNat : Int)]
                            simp only [hn9] at h9
                            refine fork_eff _ (by rfl) (by rfl) (fun K hK => ?_)
                            go_simp
                            refine hK _ _ (fun hl => HFS.out _ _ (h9.mv 3)) ?_
                            clear hK K
                            try simp only [Act.put, List.getElem_toArray, List.getElem_cons_zero, List.getElem_cons_succ, List.setIfInBounds_toArray, List.set_cons_zero, List.set_cons_succ]
                            have h11 := emptyRow h9 5
                            simp only [World.size_alloc, hn9] at h11
                            (refine wpZ_eff _ (by rfl) (by rfl) (by rfl) (by rfl) (fun K hK => ?_); go_simp; refine hK _ _ (fun hl => ?_) ?_; (first | (focus (cases hl; done)) | exact HFS.out _ _ (h11.mv 4)); clear hK K; try simp only [Act.put, List.getElem_toArray, List.getElem_cons_zero, List.getElem_cons_succ, List.setIfInBounds_toArray, List.set_cons_zero, List.set_cons_succ])
                            obtain ⟨SR, r0⟩ := HRT.out _ _ (h11.mv 3)
                            refine wpZ_eff _ (by rfl) (by rfl) (by rfl) (by rfl) (fun K hK => ?_)
                            refine wp_append_empty_h _ _ 22 (by rfl) 5 i5 (.int .u8 0) 1 1 Try.underlying22 hi hz0 hz1 hz2 (by rfl) _ (by rfl) h11 _ (by rfl) q (ub (l.take q)) SR r0 HT1.out HBN.out.1 HBN.out.2.1 (fun a1 c1 w11 h12 hc1 => ?_)
                            (refine hK _ _ (fun hl => ?_) ?_; (first | (focus (cases hl; done)) | exact HFS.out _ _ (h12.mv 4)); clear hK K; try simp only [Act.put, List.getElem_toArray, List.getElem_cons_zero, List.getElem_cons_succ, List.setIfInBounds_toArray, List.set_cons_zero, List.set_cons_succ])
                            obtain ⟨SB, rB⟩ := (h12.mv 1).reads (cells_reads 5 n9 1 1 _ (by rfl) one_max)
                            refine wpZ_eff _ (by rfl) (by rfl) (by rfl) (by rfl) (fun K hK => ?_)
                            refine wp_append_src_h _ _ 22 (by rfl) 5 i5 (.int .u8 0) 1 1 Try.underlying22 hi hz0 hz1 hz2 (by rfl) a1 (q) c1 _ (by rfl) h12 _ (by rfl) 1 ([.int .u8 x.toNat]) SB rB (by simp [Value.oneCell']) HBN.out.2.2.1 HBN.out.2.2.2.1 (fun a9 c9 w13 h13 hc9 => ?_)
                            (refine hK _ _ (fun hl => ?_) ?_; (first | (focus (cases hl; done)) | exact HFS.out _ _ (h13.mv 4)); clear hK K; try simp only [Act.put, List.getElem_toArray, List.getElem_cons_zero, List.getElem_cons_succ, List.setIfInBounds_toArray, List.set_cons_zero, List.set_cons_succ])
                            (repeat (first | (refine wpZ_st (v := ?_) _ (by rfl) (by rfl) (by rfl) (fun W hW => ?_) (by exact HFS.out _ _ (h13.mv 4)) ?_; (rotate_left; (focus ((try dsimp only at hW); go_simp; (try with_reducible rfl); done))); try simp only [Act.put, List.getElem_toArray, List.getElem_cons_zero, List.getElem_cons_succ, List.setIfInBounds_toArray, List.set_cons_zero, List.set_cons_succ]) | (refine wpZ_pu (v := ?_) _ (by rfl) (by rfl) (by rfl) (by rfl) (fun W => ?_) ?_; (rotate_left; (focus ((try dsimp only at hW); go_simp; (try with_reducible rfl); done))); try simp only [Act.put, List.getElem_toArray, List.getElem_cons_zero, List.getElem_cons_succ, List.setIfInBounds_toArray, List.set_cons_zero, List.set_cons_succ]) | (refine wpZ_no _ (by rfl) (by rfl) (by rfl) (by rfl) ?_; try simp only [Act.put, List.getElem_toArray, List.getElem_cons_zero, List.getElem_cons_succ, List.setIfInBounds_toArray, List.set_cons_zero, List.set_cons_succ]) | (refine wpZ_noS _ (by rfl) (by rfl) (by rfl) (by exact HFS.out _ _ (h13.mv 4)) ?_; try simp only [Act.put, List.getElem_toArray, List.getElem_cons_zero, List.getElem_cons_succ, List.setIfInBounds_toArray, List.set_cons_zero, List.set_cons_succ])))
                            (simp only [wpZ])
                            obtain ⟨SR2, r2⟩ := HRD.out w13 _ (h13.mv 3)
                            have k2 : w13.cell? ⟨p, 2, none⟩ = some (.int .i64 q) := (h13.mv 4).cell 2
                            clear rB h12
                            go_wp2_with ((with_reducible refine wpList_plain (o := ⟨some 108, _, _, _, _, _⟩) rfl (fun K hK => ?_)); refine wp_append_src_h _ _ 22 (by rfl) 5 i5 (.int .u8 0) 1 1 Try.underlying22 hi hz0 hz1 hz2 (by rfl) a9 (q + 1) c9 _ (by rfl) h13 _ (by rfl) 0 (ub (l.drop (q + 1))) SR2 r2 HT2.out HBN.out.2.2.2.2.1 HBN.out.2.2.2.2.2.1 (fun a10 c10 w15 h15 hc15 => ?_); refine hK _ _ ?_; clear hK K)
                            all_goals go_meet
                            all_goals exact fin3 HLM.out HQN.out HL9.out HMN.out _ h15
                      · as_aux_lemma =>
                          have hloI := Int.add_one_le_of_lt hqM
                          have HRT : Hid (∀ W X, Hold W (rowA 5 1 (some ⟨a, 0, none⟩) M M (ub l) :: X) → ∃ S, Rd W 1 (.slice (some ⟨a, 0, none⟩) q M) q (ub (l.take q)) S) := Lib.hid (fun W X hW => takeRd hqNle hW)
                          have HRD : Hid (∀ W X, Hold W (rowA 5 1 (some ⟨a, 0, none⟩) M M (ub l) :: X) → ∃ S, Rd W 1 (.slice (some ⟨a, q + 1, none⟩) L9 L9) L9 (ub (l.drop (q + 1))) S) := Lib.hid (fun W X hW => dropRd HLM.out (Nat.lt_of_le_of_ne hdM (fun e => hce e.symm)) HL9.out hW)
                          have HT1 := Lib.hid (ub_one (l.take q))
                          have HT2 := Lib.hid (ub_one (l.drop (q + 1)))
                          clear hqNle hdM hMN
                          go_upto_region 23 with (first
                            | (go_at_call 18; refine PS.mono ?_; clear PS; rintro e w8 ⟨rfl, h8⟩; have e2 := (h8.mv 2).cell 2; have e3 := (h8.mv 2).cell 3)
                            | (go_at_call 10; refine (num_any _ _).mono ?_; rintro e w9 ⟨rfl, rfl⟩))
                          have hX := h8.drew
                          clear hA h8 d2 d3 e2 e3
                          refine wp_region_ZP (fun W => W.cell? ⟨p, 2, none⟩ = some (.int .i64 q) ∧ W.cell? ⟨p, 3, none⟩ = some (.int .u8 x.toNat)) [3, 7] [] [1, 2, 4, 6, 10] (.fork [1, 2, 3, 4, 6, 7] 0 (.fork [] 5 (.run [8, 9, 10]) 8 (.run [5, 9, 10])) 8 (.run [0, 5, 9, 10])) (by kernel_rfl) (by kernel_rfl) ?_
                          generalize w8.drew = w9 at *
                          obtain ⟨n9, hn9⟩ : ∃ n, w9.heap.size = n := ⟨_, rfl⟩
                          simp only [wpZP]
                          (repeat (first | (refine wpZ_st (v := ?_) _ (by rfl) (by rfl) (by rfl) (fun W hW => ?_) (by exact HFS.out _ _ (hX.mv 2)) ?_; (rotate_left; (focus ((try dsimp only at hW); go_simp; (try with_reducible rfl); done))); try simp only [Act.put, List.getElem_toArray, List.getElem_cons_zero, List.getElem_cons_succ, List.setIfInBounds_toArray, List.set_cons_zero, List.set_cons_succ]) | (refine wpZ_pu (v := ?_) _ (by rfl) (by rfl) (by rfl) (by rfl) (fun W => ?_) ?_; (rotate_left; (focus ((try dsimp only at hW); go_simp; (try with_reducible rfl); done))); try simp only [Act.put, List.getElem_toArray, List.getElem_cons_zero, List.getElem_cons_succ, List.setIfInBounds_toArray, List.set_cons_zero, List.set_cons_succ]) | (refine wpZ_no _ (by rfl) (by rfl) (by rfl) (by rfl) ?_; try simp only [Act.put, List.getElem_toArray, List.getElem_cons_zero, List.getElem_cons_succ, List.setIfInBounds_toArray, List.set_cons_zero, List.set_cons_succ]) | (refine wpZ_noS _ (by rfl) (by rfl) (by rfl) (by exact HFS.out _ _ (hX.mv 2)) ?_; try simp only [Act.put, List.getElem_toArray, List.getElem_cons_zero, List.getElem_cons_succ, List.setIfInBounds_toArray, List.set_cons_zero, List.set_cons_succ])))
                          refine wpZ_fork ⟨?_, ?_⟩
                          · have h9 := emptyRow hX 5
                            simp only [hn9] at h9
                            refine fork_eff _ (by rfl) (by rfl) (fun K hK => ?_)
                            go_simp
                            refine hK _ _ (fun hl => HFS.out _ _ (h9.mv 3)) ?_
                            clear hK K
                            try simp only [Act.put, List.getElem_toArray, List.getElem_cons_zero, List.getElem_cons_succ, List.setIfInBounds_toArray, List.set_cons_zero, List.set_cons_succ]
                            refine wpZ_fork ⟨?_, ?_⟩
                            · obtain ⟨SR, r0⟩ := HRT.out _ _ (h9.mv 2)
                              refine fork_eff _ (by rfl) (by rfl) (fun K hK => ?_)
                              refine wp_append_empty_h _ _ 22 (by rfl) 5 i5 (.int .u8 0) 1 1 Try.underlying22 hi hz0 hz1 hz2 (by rfl) _ (by rfl) h9 _ (by rfl) q (ub (l.take q)) SR r0 HT1.out HBN.out.1 HBN.out.2.1 (fun a1 c1 w11 h10 hc1 => ?_)
                              refine hK _ _ (fun hl => HFS.out _ _ (h10.mv 3)) ?_
                              clear hK K
                              try simp only [Act.put, List.getElem_toArray, List.getElem_cons_zero, List.getElem_cons_succ, List.setIfInBounds_toArray, List.set_cons_zero, List.set_cons_succ]
                              obtain ⟨n6, hn6⟩ : ∃ n, w11.heap.size = n := ⟨_, rfl⟩
                              have h11 := h10.box 5 [.int .u8 (x.toNat : Int)]
                              simp only [hn6] at h11
                              (refine wpZ_eff _ (by rfl) (by rfl) (by rfl) (by rfl) (fun K hK => ?_); go_simp; refine hK _ _ (fun hl => ?_) ?_; (first | (focus (cases hl; done)) | exact HFS.out _ _ (h11.mv 4)); clear hK K; try simp only [Act.put, List.getElem_toArray, List.getElem_cons_zero, List.getElem_cons_succ, List.setIfInBounds_toArray, List.set_cons_zero, List.set_cons_succ])
                              have h12 := h11.mv 1
                              (try dsimp only [Go.Own.front, Go.Own.arrA, Go.Own.atA, Go.Own.dropA, List.length_cons, List.length_nil, Nat.zero_add, Nat.reduceAdd] at h12)
                              obtain ⟨SB, rB⟩ := (h12.mv 1).reads (cells_reads 5 n6 1 1 _ (by rfl) one_max)
                              refine wpZ_eff _ (by rfl) (by rfl) (by rfl) (by rfl) (fun K hK => ?_)
                              refine wp_append_src_h _ _ 22 (by rfl) 5 i5 (.int .u8 0) 1 1 Try.underlying22 hi hz0 hz1 hz2 (by rfl) a1 (q) c1 _ (by rfl) h12 _ (by rfl) 1 ([.int .u8 x.toNat]) SB rB (by simp [Value.oneCell']) HBN.out.2.2.1 HBN.out.2.2.2.1 (fun a9 c9 w13 h13 hc9 => ?_)
                              (refine hK _ _ (fun hl => ?_) ?_; (first | (focus (cases hl; done)) | exact HFS.out _ _ (h13.mv 4)); clear hK K; try simp only [Act.put, List.getElem_toArray, List.getElem_cons_zero, List.getElem_cons_succ, List.setIfInBounds_toArray, List.set_cons_zero, List.set_cons_succ])
                              (repeat (first | (refine wpZ_st (v := ?_) _ (by rfl) (by rfl) (by rfl) (fun W hW => ?_) (by exact HFS.out _ _ (h13.mv 4)) ?_; (rotate_left; (focus ((try dsimp only at hW); go_simp; (try with_reducible rfl); done))); try simp only [Act.put, List.getElem_toArray, List.getElem_cons_zero, List.getElem_cons_succ, List.setIfInBounds_toArray, List.set_cons_zero, List.set_cons_succ]) | (refine wpZ_pu (v := ?_) _ (by rfl) (by rfl) (by rfl) (by rfl) (fun W => ?_) ?_; (rotate_left; (focus ((try dsimp only at hW); go_simp; (try with_reducible rfl); done))); try simp only [Act.put, List.getElem_toArray, List.getElem_cons_zero, List.getElem_cons_succ, List.setIfInBounds_toArray, List.set_cons_zero, List.set_cons_succ]) | (refine wpZ_no _ (by rfl) (by rfl) (by rfl) (by rfl) ?_; try simp only [Act.put, List.getElem_toArray, List.getElem_cons_zero, List.getElem_cons_succ, List.setIfInBounds_toArray, List.set_cons_zero, List.set_cons_succ]) | (refine wpZ_noS _ (by rfl) (by rfl) (by rfl) (by exact HFS.out _ _ (h13.mv 4)) ?_; try simp only [Act.put, List.getElem_toArray, List.getElem_cons_zero, List.getElem_cons_succ, List.setIfInBounds_toArray, List.set_cons_zero, List.set_cons_succ])))
                              (simp only [wpZ])
                              obtain ⟨SR2, r2⟩ := HRD.out w13 _ (h13.mv 3)
                              have k2 : w13.cell? ⟨p, 2, none⟩ = some (.int .i64 q) := (h13.mv 4).cell 2
                              clear rB h12
                              go_wp2_with ((with_reducible refine wpList_plain (o := ⟨some 108, _, _, _, _, _⟩) rfl (fun K hK => ?_)); refine wp_append_src_h _ _ 22 (by rfl) 5 i5 (.int .u8 0) 1 1 Try.underlying22 hi hz0 hz1 hz2 (by rfl) a9 (q + 1) c9 _ (by rfl) h13 _ (by rfl) L9 (ub (l.drop (q + 1))) SR2 r2 HT2.out HBN.out.2.2.2.2.1 HBN.out.2.2.2.2.2.1 (fun a10 c10 w15 h15 hc15 => ?_); refine hK _ _ ?_; clear hK K)
                              all_goals go_meet
                              all_goals exact fin3 HLM.out HQN.out HL9.out HMN.out _ h15
                            · have h10 := h9.box 5 [.int .u8 (x.toNat : Int)]
                              simp only [World.size_alloc, hn9] at h10
                              refine fork_eff _ (by rfl) (by rfl) (fun K hK => ?_)
                              go_simp
                              refine hK _ _ (fun hl => HFS.out _ _ (h10.mv 4)) ?_
                              clear hK K
                              try simp only [Act.put, List.getElem_toArray, List.getElem_cons_zero, List.getElem_cons_succ, List.setIfInBounds_toArray, List.set_cons_zero, List.set_cons_succ]
                              have h11 := h10.mv 1
                              (try dsimp only [Go.Own.front, Go.Own.arrA, Go.Own.atA, Go.Own.dropA, List.length_cons, List.length_nil, Nat.zero_add, Nat.reduceAdd] at h11)
                              obtain ⟨SR, r0⟩ := HRT.out _ _ (h11.mv 3)
                              refine wpZ_eff _ (by rfl) (by rfl) (by rfl) (by rfl) (fun K hK => ?_)
                              refine wp_append_empty_h _ _ 22 (by rfl) 5 i5 (.int .u8 0) 1 1 Try.underlying22 hi hz0 hz1 hz2 (by rfl) _ (by rfl) h11 _ (by rfl) q (ub (l.take q)) SR r0 HT1.out HBN.out.1 HBN.out.2.1 (fun a1 c1 w11 h12 hc1 => ?_)
                              (refine hK _ _ (fun hl => ?_) ?_; (first | (focus (cases hl; done)) | exact HFS.out _ _ (h12.mv 4)); clear hK K; try simp only [Act.put, List.getElem_toArray, List.getElem_cons_zero, List.getElem_cons_succ, List.setIfInBounds_toArray, List.set_cons_zero, List.set_cons_succ])
                              obtain ⟨SB, rB⟩ := (h12.mv 1).reads (cells_reads 5 (n9 + 1) 1 1 _ (by rfl) one_max)
                              refine wpZ_eff _ (by rfl) (by rfl) (by rfl) (by rfl) (fun K hK => ?_)
                              refine wp_append_src_h _ _ 22 (by rfl) 5 i5 (.int .u8 0) 1 1 Try.underlying22 hi hz0 hz1 hz2 (by rfl) a1 (q) c1 _ (by rfl) h12 _ (by rfl) 1 ([.int .u8 x.toNat]) SB rB (by simp [Value.oneCell']) HBN.out.2.2.1 HBN.out.2.2.2.1 (fun a9 c9 w13 h13 hc9 => ?_)
                              (refine hK _ _ (fun hl => ?_) ?_; (first | (focus (cases hl; done)) | exact HFS.out _ _ (h13.mv 4)); clear hK K; try simp only [Act.put, List.getElem_toArray, List.getElem_cons_zero, List.getElem_cons_succ, List.setIfInBounds_toArray, List.set_cons_zero, List.set_cons_succ])
                              (repeat (first | (refine wpZ_st (v := ?_) _ (by rfl) (by rfl) (by rfl) (fun W hW => ?_) (by exact HFS.out _ _ (h13.mv 4)) ?_; (rotate_left; (focus ((try dsimp only at hW); go_simp; (try with_reducible rfl); done))); try simp only [Act.put, List.getElem_toArray, List.getElem_cons_zero, List.getElem_cons_succ, List.setIfInBounds_toArray, List.set_cons_zero, List.set_cons_succ]) | (refine wpZ_pu (v := ?_) _ (by rfl) (by rfl) (by rfl) (by rfl) (fun W => ?_) ?_; (rotate_left; (focus ((try dsimp only at hW); go_simp; (try with_reducible rfl); done))); try simp only [Act.put, List.getElem_toArray, List.getElem_cons_zero, List.getElem_cons_succ, List.setIfInBounds_toArray, List.set_cons_zero, List.set_cons_succ]) | (refine wpZ_no _ (by rfl) (by rfl) (by rfl) (by rfl) ?_; try simp only [Act.put, List.getElem_toArray, List.getElem_cons_zero, List.getElem_cons_succ, List.setIfInBounds_toArray, List.set_cons_zero, List.set_cons_succ]) | (refine wpZ_noS _ (by rfl) (by rfl) (by rfl) (by exact HFS.out _ _ (h13.mv 4)) ?_; try simp only [Act.put, List.getElem_toArray, List.getElem_cons_zero, List.getElem_cons_succ, List.setIfInBounds_toArray, List.set_cons_zero, List.set_cons_succ])))
                              (simp only [wpZ])
                              obtain ⟨SR2, r2⟩ := HRD.out w13 _ (h13.mv 3)
                              have k2 : w13.cell? ⟨p, 2, none⟩ = some (.int .i64 q) := (h13.mv 4).cell 2
                              clear rB h12
                              go_wp2_with ((with_reducible refine wpList_plain (o := ⟨some 108, _, _, _, _, _⟩) rfl (fun K hK => ?_)); refine wp_append_src_h _ _ 22 (by rfl) 5 i5 (.int .u8 0) 1 1 Try.underlying22 hi hz0 hz1 hz2 (by rfl) a9 (q + 1) c9 _ (by rfl) h13 _ (by rfl) L9 (ub (l.drop (q + 1))) SR2 r2 HT2.out HBN.out.2.2.2.2.1 HBN.out.2.2.2.2.2.1 (fun a10 c10 w15 h15 hc15 => ?_); refine hK _ _ ?_; clear hK K)
                              all_goals go_meet
                              all_goals exact fin3 HLM.out HQN.out HL9.out HMN.out _ h15
                          · have h9 := hX.box 5 [.int .u8 (x.toNat : Int)]
                            simp only [hn9] at h9
                            refine fork_eff _ (by rfl) (by rfl) (fun K hK => ?_)
                            go_simp
                            refine hK _ _ (fun hl => HFS.out _ _ (h9.mv 3)) ?_
                            clear hK K
                            try simp only [Act.put, List.getElem_toArray, List.getElem_cons_zero, List.getElem_cons_succ, List.setIfInBounds_toArray, List.set_cons_zero, List.set_cons_succ]
                            have h11 := emptyRow h9 5
                            simp only [World.size_alloc, hn9] at h11
                            (refine wpZ_eff _ (by rfl) (by rfl) (by rfl) (by rfl) (fun K hK => ?_); go_simp; refine hK _ _ (fun hl => ?_) ?_; (first | (focus (cases hl; done)) | exact HFS.out _ _ (h11.mv 4)); clear hK K; try simp only [Act.put, List.getElem_toArray, List.getElem_cons_zero, List.getElem_cons_succ, List.setIfInBounds_toArray, List.set_cons_zero, List.set_cons_succ])
                            obtain ⟨SR, r0⟩ := HRT.out _ _ (h11.mv 3)
                            refine wpZ_eff _ (by rfl) (by rfl) (by rfl) (by rfl) (fun K hK => ?_)
                            refine wp_append_empty_h _ _ 22 (by rfl) 5 i5 (.int .u8 0) 1 1 Try.underlying22 hi hz0 hz1 hz2 (by rfl) _ (by rfl) h11 _ (by rfl) q (ub (l.take q)) SR r0 HT1.out HBN.out.1 HBN.out.2.1 (fun a1 c1 w11 h12 hc1 => ?_)
                            (refine hK _ _ (fun hl => ?_) ?_; (first | (focus (cases hl; done)) | exact HFS.out _ _ (h12.mv 4)); clear hK K; try simp only [Act.put, List.getElem_toArray, List.getElem_cons_zero, List.getElem_cons_succ, List.setIfInBounds_toArray, List.set_cons_zero, List.set_cons_succ])
                            obtain ⟨SB, rB⟩ := (h12.mv 1).reads (cells_reads 5 n9 1 1 _ (by rfl) one_max)
                            refine wpZ_eff _ (by rfl) (by rfl) (by rfl) (by rfl) (fun K hK => ?_)
                            refine wp_append_src_h _ _ 22 (by rfl) 5 i5 (.int .u8 0) 1 1 Try.underlying22 hi hz0 hz1 hz2 (by rfl) a1 (q) c1 _ (by rfl) h12 _ (by rfl) 1 ([.int .u8 x.toNat]) SB rB (by simp [Value.oneCell']) HBN.out.2.2.1 HBN.out.2.2.2.1 (fun a9 c9 w13 h13 hc9 => ?_)
                            (refine hK _ _ (fun hl => ?_) ?_; (first | (focus (cases hl; done)) | exact HFS.out _ _ (h13.mv 4)); clear hK K; try simp only [Act.put, List.getElem_toArray, List.getElem_cons_zero, List.getElem_cons_succ, List.setIfInBounds_toArray, List.set_cons_zero, List.set_cons_succ])
                            (repeat (first | (refine wpZ_st (v := ?_) _ (by rfl) (by rfl) (by rfl) (fun W hW => ?_) (by exact HFS.out _ _ (h13.mv 4)) ?_; (rotate_left; (focus ((try dsimp only at hW); go_simp; (try with_reducible rfl); done))); try simp only [Act.put, List.getElem_toArray, List.getElem_cons_zero, List.getElem_cons_succ, List.setIfInBounds_toArray, List.set_cons_zero, List.set_cons_succ]) | (refine wpZ_pu (v := ?_) _ (by rfl) (by rfl) (by rfl) (by rfl) (fun W => ?_) ?_; (rotate_left; (focus ((try dsimp only at hW); go_simp; (try with_reducible rfl); done))); try simp only [Act.put, List.getElem_toArray, List.getElem_cons_zero, List.getElem_cons_succ, List.setIfInBounds_toArray, List.set_cons_zero, List.set_cons_succ]) | (refine wpZ_no _ (by rfl) (by rfl) (by rfl) (by rfl) ?_; try simp only [Act.put, List.getElem_toArray, List.getElem_cons_zero, List.getElem_cons_succ, List.setIfInBounds_toArray, List.set_cons_zero, List.set_cons_succ]) | (refine wpZ_noS _ (by rfl) (by rfl) (by rfl) (by exact HFS.out _ _ (h13.mv 4)) ?_; try simp only [Act.put, List.getElem_toArray, List.getElem_cons_zero, List.getElem_cons_succ, List.setIfInBounds_toArray, List.set_cons_zero, List.set_cons_succ])))
                            (simp only [wpZ])
                            obtain ⟨SR2, r2⟩ := HRD.out w13 _ (h13.mv 3)
                            have k2 : w13.cell? ⟨p, 2, none⟩ = some (.int .i64 q) := (h13.mv 4).cell 2
                            clear rB h12
                            go_wp2_with ((with_reducible refine wpList_plain (o := ⟨some 108, _, _, _, _, _⟩) rfl (fun K hK => ?_)); refine wp_append_src_h _ _ 22 (by rfl) 5 i5 (.int .u8 0) 1 1 Try.underlying22 hi hz0 hz1 hz2 (by rfl) a9 (q + 1) c9 _ (by rfl) h13 _ (by rfl) L9 (ub (l.drop (q + 1))) SR2 r2 HT2.out HBN.out.2.2.2.2.1 HBN.out.2.2.2.2.2.1 (fun a10 c10 w15 h15 hc15 => ?_); refine hK _ _ ?_; clear hK K)
                            all_goals go_meet
                            all_goals exact fin3 HLM.out HQN.out HL9.out HMN.out _ h15
                    · have hxi : ¬ (x.toNat : Int) < 16 := by omega
                      have HXD : Hid (decide ((x.toNat : Int) < 16) = false) := Lib.hid (by simp; omega)
                      as_aux_lemma =>
                        have PS := set_no_h q x (by show _ ∨ _ ∨ 16 ≤ x.toNat; omega) (hA.mv 1)
                        clear d0
                        go_wp2_with (first
                          | (go_at_call 18; refine PS.mono ?_; clear PS; rintro e w8 ⟨⟨z, hz, rfl⟩, h8⟩; have e2 := (h8.mv 2).cell 2; have e3 := (h8.mv 2).cell 3)
                          | (go_at_call 10; refine (num_any _ _).mono ?_; rintro e w9 ⟨rfl, rfl⟩))
                        all_goals go_meet
                        all_goals first | exact HREF.out z _ hz h8 | (rw [show decide ((x.toNat : Int) < 16) = false from HXD.out]; exact HREF.out z _ hz h8)
                · have hq3 : (K == 3) = false := by simpa using hk3
                  by_cases hk4 : K = 4
                  · have hq4 : (K == 4) = true := by simpa using hk4
                    clear hk4
                    cases okb
                    · have hout : N < 0 ∨ (M : Int) ≤ N := by
                        have h1 : ¬ (0 ≤ N ∧ N < (M : Int)) := fun h => Bool.noConfusion (HOKB.out.2 h)
                        omega
                      as_aux_lemma =>
                        have PS := slip_no_h N (by show _ ∨ (l.length : Int) ≤ N; rw [HLM.out]; omega) (hA.mv 1)
                        clear d0
                        go_wp2_with (first
                          | (go_at_call 19; refine PS.mono ?_; clear PS; rintro e w8 ⟨⟨z, hz, rfl⟩, h8⟩; have e2 := (h8.mv 2).cell 2; have e3 := (h8.mv 2).cell 3)
                          | (go_at_call 10; refine (num_any _ _).mono ?_; rintro e w9 ⟨rfl, rfl⟩))
                        all_goals go_meet
                        all_goals first | exact HREF.out z _ hz h8 | (rw [show decide ((x.toNat : Int) < 16) = false from HXD.out]; exact HREF.out z _ hz h8)
                    · have hin := HOKB.out.1 rfl
                      obtain ⟨q, hq⟩ : ∃ q : Nat, N = q := ⟨N.toNat, by omega⟩
                      subst hq
                      have hqM : (q : Int) < M := hin.2
                      have hq0 : 0 ≤ (q : Int) := hin.1
                      have hqM2 : (q : Int) ≤ M := by omega
                      have hqN : q < M := by omega
                      have PS := slip_h q (by show q < l.length; rw [HLM.out]; exact hqN) (hA.mv 1)
                      rw [show (chS l).slip q = chS (l.take q ++ l.drop (q + 1)) from rfl] at PS
                      have HFS : Hid (∀ W X, Hold W (cellsA p 39 [.int .i64 K, .slice wo wn wcp, .int .i64 q, .int .u8 x.toNat] :: X) → W.cell? ⟨p, 2, none⟩ = some (.int .i64 q) ∧ W.cell? ⟨p, 3, none⟩ = some (.int .u8 x.toNat)) := Lib.hid (fun W X hW => ⟨hW.cell 2, hW.cell 3⟩)
                      have hqNle : q ≤ M := by omega
                      have hdM : q + 1 ≤ M := by omega
                      have HLE := Lib.hid (And.intro hqNle hdM)
                      obtain ⟨W1, W2, g1, g2, g3, g4⟩ := q_facts q M hqM2 hMi
                      obtain ⟨L9, hL9, hL9b⟩ := rest_facts (q + 1) M hMi
                      have HL9 := Lib.hid hL9
                      have HBN := Lib.hid (bnds q M L9 hqM2 hMi hL9b)
                      have hMN : M ≤ 65536 := by omega
                      have HMN := Lib.hid hMN
                      have HQN := Lib.hid hqN
                      clear d0
                      by_cases hce : M = q + 1
                      · as_aux_lemma =>
                          have hce := hce.symm
                          subst hce
                          have HRT : Hid (∀ W X, Hold W (rowA 5 1 (some ⟨a, 0, none⟩) (q + 1) (q + 1) (ub l) :: X) → ∃ S, Rd W 1 (.slice (some ⟨a, 0, none⟩) q (q + 1)) q (ub (l.take q)) S) := Lib.hid (fun W X hW => takeRd hqNle hW)
                          have HRD : Hid (∀ W X, Hold W (rowA 5 1 (some ⟨a, 0, none⟩) (q + 1) (q + 1) (ub l) :: X) → ∃ S, Rd W 1 (.slice (some ⟨a, 0, none⟩) 0 0) 0 (ub (l.drop (q + 1))) S) := Lib.hid (fun W X hW => dropRd0 HLM.out rfl hW)
                          have HT1 := Lib.hid (ub_one (l.take q))
                          have HT2 := Lib.hid (ub_one (l.drop (q + 1)))
                          have hz9 : L9 = 0 := by omega
                          have HZ9 := Lib.hid hz9
                          subst hz9
                          clear hqNle hdM hMN
                          go_upto_region 28 with (first
                            | (go_at_call 19; refine PS.mono ?_; clear PS; rintro e w8 ⟨rfl, h8⟩; have e2 := (h8.mv 2).cell 2; have e3 := (h8.mv 2).cell 3)
                            | (go_at_call 10; refine (num_any _ _).mono ?_; rintro e w9 ⟨rfl, rfl⟩))
                          have hX := h8.drew
                          clear hA h8 d2 d3 e2 e3
                          refine wp_region_Z (fun W => W.cell? ⟨p, 2, none⟩ = some (.int .i64 q)) [3, 8] [] [1, 2, 4, 6, 7, 9, 10, 12] [1, 2, 3, 4, 6, 7, 8, 9, 10, 0, 5, 11, 12] (by kernel_rfl) (by kernel_rfl) ?_
                          generalize w8.drew = w9 at *
                          obtain ⟨n9, hn9⟩ : ∃ n, w9.heap.size = n := ⟨_, rfl⟩
                          (repeat (first | (refine wpZ_st (v := ?_) _ (by rfl) (by rfl) (by rfl) (fun W hW => ?_) (by exact (HFS.out _ _ (hX.mv 2)).1) ?_; (rotate_left; (focus ((try dsimp only at hW); go_simp; (try with_reducible rfl); done))); try simp only [Act.put, List.getElem_toArray, List.getElem_cons_zero, List.getElem_cons_succ, List.setIfInBounds_toArray, List.set_cons_zero, List.set_cons_succ]) | (refine wpZ_pu (v := ?_) _ (by rfl) (by rfl) (by rfl) (by rfl) (fun W => ?_) ?_; (rotate_left; (focus ((try dsimp only at hW); go_simp; (try with_reducible rfl); done))); try simp only [Act.put, List.getElem_toArray, List.getElem_cons_zero, List.getElem_cons_succ, List.setIfInBounds_toArray, List.set_cons_zero, List.set_cons_succ]) | (refine wpZ_no _ (by rfl) (by rfl) (by rfl) (by rfl) ?_; try simp only [Act.put, List.getElem_toArray, List.getElem_cons_zero, List.getElem_cons_succ, List.setIfInBounds_toArray, List.set_cons_zero, List.set_cons_succ]) | (refine wpZ_noS _ (by rfl) (by rfl) (by rfl) (by exact (HFS.out _ _ (hX.mv 2)).1) ?_; try simp only [Act.put, List.getElem_toArray, List.getElem_cons_zero, List.getElem_cons_succ, List.setIfInBounds_toArray, List.set_cons_zero, List.set_cons_succ])))
                          have h9 := emptyRow hX 5
                          simp only [hn9] at h9
                          (refine wpZ_eff _ (by rfl) (by rfl) (by rfl) (by rfl) (fun K hK => ?_); go_simp; refine hK _ _ (fun hl => ?_) ?_; (first | (focus (cases hl; done)) | exact (HFS.out _ _ (h9.mv 3)).1); clear hK K; try simp only [Act.put, List.getElem_toArray, List.getElem_cons_zero, List.getElem_cons_succ, List.setIfInBounds_toArray, List.set_cons_zero, List.set_cons_succ])
                          obtain ⟨SR, r0⟩ := HRT.out _ _ (h9.mv 2)
                          refine wpZ_eff _ (by rfl) (by rfl) (by rfl) (by rfl) (fun K hK => ?_)
                          refine wp_append_empty_h _ _ 22 (by rfl) 5 i5 (.int .u8 0) 1 1 Try.underlying22 hi hz0 hz1 hz2 (by rfl) _ (by rfl) h9 _ (by rfl) q (ub (l.take q)) SR r0 HT1.out HBN.out.1 HBN.out.2.1 (fun a1 c1 w11 h10 hc1 => ?_)
                          (refine hK _ _ (fun hl => ?_) ?_; (first | (focus (cases hl; done)) | exact (HFS.out _ _ (h10.mv 3)).1); clear hK K; try simp only [Act.put, List.getElem_toArray, List.getElem_cons_zero, List.getElem_cons_succ, List.setIfInBounds_toArray, List.set_cons_zero, List.set_cons_succ])
                          obtain ⟨SR2, r2⟩ := HRD.out _ _ (h10.mv 2)
                          refine wpZ_eff _ (by rfl) (by rfl) (by rfl) (by rfl) (fun K hK => ?_)
                          refine wp_append_src_h _ _ 22 (by rfl) 5 i5 (.int .u8 0) 1 1 Try.underlying22 hi hz0 hz1 hz2 (by rfl) a1 (q) c1 _ (by rfl) h10 _ (by rfl) 0 (ub (l.drop (q + 1))) SR2 r2 HT2.out HBN.out.2.2.2.2.2.2.1 HBN.out.2.2.2.2.2.2.2 (fun a10 c10 w15 h15 hc15 => ?_)
                          (refine hK _ _ (fun hl => ?_) ?_; (first | (focus (cases hl; done)) | exact (HFS.out _ _ (h15.mv 3)).1); clear hK K; try simp only [Act.put, List.getElem_toArray, List.getElem_cons_zero, List.getElem_cons_succ, List.setIfInBounds_toArray, List.set_cons_zero, List.set_cons_succ])
                          (repeat (first | (refine wpZ_st (v := ?_) _ (by rfl) (by rfl) (by rfl) (fun W hW => ?_) (by exact (HFS.out _ _ (h15.mv 3)).1) ?_; (rotate_left; (focus ((try dsimp only at hW); go_simp; (try with_reducible rfl); done))); try simp only [Act.put, List.getElem_toArray, List.getElem_cons_zero, List.getElem_cons_succ, List.setIfInBounds_toArray, List.set_cons_zero, List.set_cons_succ]) | (refine wpZ_pu (v := ?_) _ (by rfl) (by rfl) (by rfl) (by rfl) (fun W => ?_) ?_; (rotate_left; (focus ((try dsimp only at hW); go_simp; (try with_reducible rfl); done))); try simp only [Act.put, List.getElem_toArray, List.getElem_cons_zero, List.getElem_cons_succ, List.setIfInBounds_toArray, List.set_cons_zero, List.set_cons_succ]) | (refine wpZ_no _ (by rfl) (by rfl) (by rfl) (by rfl) ?_; try simp only [Act.put, List.getElem_toArray, List.getElem_cons_zero, List.getElem_cons_succ, List.setIfInBounds_toArray, List.set_cons_zero, List.set_cons_succ]) | (refine wpZ_noS _ (by rfl) (by rfl) (by rfl) (by exact (HFS.out _ _ (h15.mv 3)).1) ?_; try simp only [Act.put, List.getElem_toArray, List.getElem_cons_zero, List.getElem_cons_succ, List.setIfInBounds_toArray, List.set_cons_zero, List.set_cons_succ])))
                          (simp only [wpZ])
                          go_wp2
                          all_goals go_meet
                          all_goals exact fin4 HLM.out HQN.out HL9.out HMN.out h15
                      · as_aux_lemma =>
                          have hloI := Int.add_one_le_of_lt hqM
                          have HRT : Hid (∀ W X, Hold W (rowA 5 1 (some ⟨a, 0, none⟩) M M (ub l) :: X) → ∃ S, Rd W 1 (.slice (some ⟨a, 0, none⟩) q M) q (ub (l.take q)) S) := Lib.hid (fun W X hW => takeRd hqNle hW)
                          have HRD : Hid (∀ W X, Hold W (rowA 5 1 (some ⟨a, 0, none⟩) M M (ub l) :: X) → ∃ S, Rd W 1 (.slice (some ⟨a, q + 1, none⟩) L9 L9) L9 (ub (l.drop (q + 1))) S) := Lib.hid (fun W X hW => dropRd HLM.out (Nat.lt_of_le_of_ne hdM (fun e => hce e.symm)) HL9.out hW)
                          have HT1 := Lib.hid (ub_one (l.take q))
                          have HT2 := Lib.hid (ub_one (l.drop (q + 1)))
                          clear hqNle hdM hMN
                          go_upto_region 28 with (first
                            | (go_at_call 19; refine PS.mono ?_; clear PS; rintro e w8 ⟨rfl, h8⟩; have e2 := (h8.mv 2).cell 2; have e3 := (h8.mv 2).cell 3)
                            | (go_at_call 10; refine (num_any _ _).mono ?_; rintro e w9 ⟨rfl, rfl⟩))
                          have hX := h8.drew
                          clear hA h8 d2 d3 e2 e3
                          refine wp_region_Z (fun W => W.cell? ⟨p, 2, none⟩ = some (.int .i64 q)) [3, 8] [] [1, 2, 4, 6, 7, 9, 10, 12] [1, 2, 3, 4, 6, 7, 8, 9, 10, 0, 5, 11, 12] (by kernel_rfl) (by kernel_rfl) ?_
                          generalize w8.drew = w9 at *
                          obtain ⟨n9, hn9⟩ : ∃ n, w9.heap.size = n := ⟨_, rfl⟩
                          (repeat (first | (refine wpZ_st (v := ?_) _ (by rfl) (by rfl) (by rfl) (fun W hW => ?_) (by exact (HFS.out _ _ (hX.mv 2)).1) ?_; (rotate_left; (focus ((try dsimp only at hW); go_simp; (try with_reducible rfl); done))); try simp only [Act.put, List.getElem_toArray, List.getElem_cons_zero, List.getElem_cons_succ, List.setIfInBounds_toArray, List.set_cons_zero, List.set_cons_succ]) | (refine wpZ_pu (v := ?_) _ (by rfl) (by rfl) (by rfl) (by rfl) (fun W => ?_) ?_; (rotate_left; (focus ((try dsimp only at hW); go_simp; (try with_reducible rfl); done))); try simp only [Act.put, List.getElem_toArray, List.getElem_cons_zero, List.getElem_cons_succ, List.setIfInBounds_toArray, List.set_cons_zero, List.set_cons_succ]) | (refine wpZ_no _ (by rfl) (by rfl) (by rfl) (by rfl) ?_; try simp only [Act.put, List.getElem_toArray, List.getElem_cons_zero, List.getElem_cons_succ, List.setIfInBounds_toArray, List.set_cons_zero, List.set_cons_succ]) | (refine wpZ_noS _ (by rfl) (by rfl) (by rfl) (by exact (HFS.out _ _ (hX.mv 2)).1) ?_; try simp only [Act.put, List.getElem_toArray, List.getElem_cons_zero, List.getElem_cons_succ, List.setIfInBounds_toArray, List.set_cons_zero, List.set_cons_succ])))
                          have h9 := emptyRow hX 5
                          simp only [hn9] at h9
                          (refine wpZ_eff _ (by rfl) (by rfl) (by rfl) (by rfl) (fun K hK => ?_); go_simp; refine hK _ _ (fun hl => ?_) ?_; (first | (focus (cases hl; done)) | exact (HFS.out _ _ (h9.mv 3)).1); clear hK K; try simp only [Act.put, List.getElem_toArray, List.getElem_cons_zero, List.getElem_cons_succ, List.setIfInBounds_toArray, List.set_cons_zero, List.set_cons_succ])
                          obtain ⟨SR, r0⟩ := HRT.out _ _ (h9.mv 2)
                          refine wpZ_eff _ (by rfl) (by rfl) (by rfl) (by rfl) (fun K hK => ?_)
                          refine wp_append_empty_h _ _ 22 (by rfl) 5 i5 (.int .u8 0) 1 1 Try.underlying22 hi hz0 hz1 hz2 (by rfl) _ (by rfl) h9 _ (by rfl) q (ub (l.take q)) SR r0 HT1.out HBN.out.1 HBN.out.2.1 (fun a1 c1 w11 h10 hc1 => ?_)
                          (refine hK _ _ (fun hl => ?_) ?_; (first | (focus (cases hl; done)) | exact (HFS.out _ _ (h10.mv 3)).1); clear hK K; try simp only [Act.put, List.getElem_toArray, List.getElem_cons_zero, List.getElem_cons_succ, List.setIfInBounds_toArray, List.set_cons_zero, List.set_cons_succ])
                          obtain ⟨SR2, r2⟩ := HRD.out _ _ (h10.mv 2)
                          refine wpZ_eff _ (by rfl) (by rfl) (by rfl) (by rfl) (fun K hK => ?_)
                          refine wp_append_src_h _ _ 22 (by rfl) 5 i5 (.int .u8 0) 1 1 Try.underlying22 hi hz0 hz1 hz2 (by rfl) a1 (q) c1 _ (by rfl) h10 _ (by rfl) L9 (ub (l.drop (q + 1))) SR2 r2 HT2.out HBN.out.2.2.2.2.2.2.1 HBN.out.2.2.2.2.2.2.2 (fun a10 c10 w15 h15 hc15 => ?_)
                          (refine hK _ _ (fun hl => ?_) ?_; (first | (focus (cases hl; done)) | exact (HFS.out _ _ (h15.mv 3)).1); clear hK K; try simp only [Act.put, List.getElem_toArray, List.getElem_cons_zero, List.getElem_cons_succ, List.setIfInBounds_toArray, List.set_cons_zero, List.set_cons_succ])
                          (repeat (first | (refine wpZ_st (v := ?_) _ (by rfl) (by rfl) (by rfl) (fun W hW => ?_) (by exact (HFS.out _ _ (h15.mv 3)).1) ?_; (rotate_left; (focus ((try dsimp only at hW); go_simp; (try with_reducible rfl); done))); try simp only [Act.put, List.getElem_toArray, List.getElem_cons_zero, List.getElem_cons_succ, List.setIfInBounds_toArray, List.set_cons_zero, List.set_cons_succ]) | (refine wpZ_pu (v := ?_) _ (by rfl) (by rfl) (by rfl) (by rfl) (fun W => ?_) ?_; (rotate_left; (focus ((try dsimp only at hW); go_simp; (try with_reducible rfl); done))); try simp only [Act.put, List.getElem_toArray, List.getElem_cons_zero, List.getElem_cons_succ, List.setIfInBounds_toArray, List.set_cons_zero, List.set_cons_succ]) | (refine wpZ_no _ (by rfl) (by rfl) (by rfl) (by rfl) ?_; try simp only [Act.put, List.getElem_toArray, List.getElem_cons_zero, List.getElem_cons_succ, List.setIfInBounds_toArray, List.set_cons_zero, List.set_cons_succ]) | (refine wpZ_noS _ (by rfl) (by rfl) (by rfl) (by exact (HFS.out _ _ (h15.mv 3)).1) ?_; try simp only [Act.put, List.getElem_toArray, List.getElem_cons_zero, List.getElem_cons_succ, List.setIfInBounds_toArray, List.set_cons_zero, List.set_cons_succ])))
                          (simp only [wpZ])
                          go_wp2
                          all_goals go_meet
                          all_goals exact fin4 HLM.out HQN.out HL9.out HMN.out h15
                  · have hq4 : (K == 4) = false := by simpa using hk4
                    by_cases hk5 : K = 5
                    · have hq5 : (K == 5) = true := by simpa using hk5
                      clear hk5 HOKB
                      by_cases hbad : N < 0 ∨ (M : Int) < N ∨ 16 ≤ x.toNat ∨ (65536 : Int) ≤ (M : Int)
                      · as_aux_lemma =>
                          have hbadN : N < 0 ∨ (l.length : Int) < N ∨ 16 ≤ x.toNat ∨ 65536 ≤ l.length := by rw [HLM.out]; omega
                          have PS := insert_no_h N x hbadN (hA.mv 1)
                          clear hbadN
                          clear d0
                          have hbad2 : N < 0 ∨ (0 ≤ N ∧ (M : Int) < N) ∨ (0 ≤ N ∧ N ≤ (M : Int) ∧ ¬ (x.toNat : Int) < 16) ∨ (0 ≤ N ∧ N ≤ (M : Int) ∧ (x.toNat : Int) < 16 ∧ ¬ (M : Int) < 65536) := by omega
                          clear hbad
                          have hbad3 : N < 0 ∨ (0 ≤ N ∧ (M : Int) < N) ∨ (0 ≤ N ∧ N ≤ (M : Int) ∧ decide ((x.toNat : Int) < 16) = false) ∨ (0 ≤ N ∧ N ≤ (M : Int) ∧ decide ((x.toNat : Int) < 16) = true ∧ decide ((M : Int) < 65536) = false) := by
                            simp only [decide_eq_true_eq, decide_eq_false_iff_not]; exact hbad2
                          clear hbad2
                          rcases hbad3 with g1 | ⟨g1, g2⟩ | ⟨g1, g2, g3⟩ | ⟨g1, g2, g3, g4⟩
                          all_goals
                            try clear hMi
                            go_wp2_with (first
                              | (go_at_call 20; refine PS.mono ?_; clear PS; rintro e w8 ⟨⟨z, hz, rfl⟩, h8⟩; have e2 := (h8.mv 2).cell 2; have e3 := (h8.mv 2).cell 3)
                              | (go_at_call 10; refine (num_any _ _).mono ?_; rintro e w9 ⟨rfl, rfl⟩))
                            all_goals go_meet
                            all_goals exact HREF.out z _ hz h8
                      · obtain ⟨q, hq⟩ : ∃ q : Nat, N = q := ⟨N.toNat, by omega⟩
                        subst hq
                        have hqM2 : (q : Int) ≤ M := by omega
                        have hq0 : 0 ≤ (q : Int) := by omega
                        have hqN : q ≤ M := by omega
                        have hxi : (x.toNat : Int) < 16 := by omega
                        have hMi2 : (M : Int) < 65536 := by omega
                        have hx : x.toNat < 16 := by omega
                        clear hbad
                        have PS := insert_h q x hx (by show q ≤ l.length; rw [HLM.out]; exact hqN) (by show l.length < 65536; rw [HLM.out]; omega) (hA.mv 1)
                        rw [show (chS l).insert q x = chS (l.take q ++ x :: l.drop q) from rfl] at PS
                        have HFS : Hid (∀ W X, Hold W (cellsA p 39 [.int .i64 K, .slice wo wn wcp, .int .i64 q, .int .u8 x.toNat] :: X) → W.cell? ⟨p, 2, none⟩ = some (.int .i64 q) ∧ W.cell? ⟨p, 3, none⟩ = some (.int .u8 x.toNat)) := Lib.hid (fun W X hW => ⟨hW.cell 2, hW.cell 3⟩)
                        have hqNle : q ≤ M := by omega
                        have hdM : q ≤ M := by omega
                        have HLE := Lib.hid (And.intro hqNle hdM)
                        obtain ⟨W1, W2, g1, g2, g3, g4⟩ := q_facts q M hqM2 hMi
                        obtain ⟨L9, hL9, hL9b⟩ := rest_facts (q) M hMi
                        have HL9 := Lib.hid hL9
                        have HBN := Lib.hid (bnds q M L9 hqM2 hMi hL9b)
                        have hMN : M < 65536 := by omega
                        have HMN := Lib.hid hMN
                        have HQN := Lib.hid hqN
                        clear d0
                        by_cases hce : M = q
                        · as_aux_lemma =>
                            have hce := hce.symm
                            subst hce
                            have HRT : Hid (∀ W X, Hold W (rowA 5 1 (some ⟨a, 0, none⟩) (q) (q) (ub l) :: X) → ∃ S, Rd W 1 (.slice (some ⟨a, 0, none⟩) q (q)) q (ub (l.take q)) S) := Lib.hid (fun W X hW => takeRd hqNle hW)
                            have HRD : Hid (∀ W X, Hold W (rowA 5 1 (some ⟨a, 0, none⟩) (q) (q) (ub l) :: X) → ∃ S, Rd W 1 (.slice (some ⟨a, 0, none⟩) 0 0) 0 (ub (l.drop (q))) S) := Lib.hid (fun W X hW => dropRd0 HLM.out rfl hW)
                            have HT1 := Lib.hid (ub_one (l.take q))
                            have HT2 := Lib.hid (ub_one (l.drop (q)))
                            have hz9 : L9 = 0 := by omega
                            have HZ9 := Lib.hid hz9
                            subst hz9
                            clear hqNle hdM hMN
                            go_upto_region 33 with (first
                              | (go_at_call 20; refine PS.mono ?_; clear PS; rintro e w8 ⟨rfl, h8⟩; have e2 := (h8.mv 2).cell 2; have e3 := (h8.mv 2).cell 3)
                              | (go_at_call 10; refine (num_any _ _).mono ?_; rintro e w9 ⟨rfl, rfl⟩))
                            have hX := h8.drew
                            clear hA h8 d2 d3 e2 e3
                            refine wp_region_ZP (fun W => W.cell? ⟨p, 2, none⟩ = some (.int .i64 q) ∧ W.cell? ⟨p, 3, none⟩ = some (.int .u8 x.toNat)) [3, 7] [] [1, 2, 4, 6, 10] (.fork [1, 2, 3, 4, 6, 7] 0 (.fork [] 5 (.run [8, 9, 10]) 8 (.run [5, 9, 10])) 8 (.run [0, 5, 9, 10])) (by kernel_rfl) (by kernel_rfl) ?_
                            generalize w8.drew = w9 at *
                            obtain ⟨n9, hn9⟩ : ∃ n, w9.heap.size = n := ⟨_, rfl⟩
                            simp only [wpZP]
                            (repeat (first | (refine wpZ_st (v := ?_) _ (by rfl) (by rfl) (by rfl) (fun W hW => ?_) (by exact HFS.out _ _ (hX.mv 2)) ?_; (rotate_left; (focus ((try dsimp only at hW); go_simp; (try with_reducible rfl); done))); try simp only [Act.put, List.getElem_toArray, List.getElem_cons_zero, List.getElem_cons_succ, List.setIfInBounds_toArray, List.set_cons_zero, List.set_cons_succ]) | (refine wpZ_pu (v := ?_) _ (by rfl) (by rfl) (by rfl) (by rfl) (fun W => ?_) ?_; (rotate_left; (focus ((try dsimp only at hW); go_simp; (try with_reducible rfl); done))); try simp only [Act.put, List.getElem_toArray, List.getElem_cons_zero, List.getElem_cons_succ, List.setIfInBounds_toArray, List.set_cons_zero, List.set_cons_succ]) | (refine wpZ_no _ (by rfl) (by rfl) (by rfl) (by rfl) ?_; try simp only [Act.put, List.getElem_toArray, List.getElem_cons_zero, List.getElem_cons_succ, List.setIfInBounds_toArray, List.set_cons_zero, List.set_cons_succ]) | (refine wpZ_noS _ (by rfl) (by rfl) (by rfl) (by exact HFS.out _ _ (hX.mv 2)) ?_; try simp only [Act.put, List.getElem_toArray, List.getElem_cons_zero, List.getElem_cons_succ, List.setIfInBounds_toArray, List.set_cons_zero, List.set_cons_succ])))
                            refine wpZ_fork ⟨?_, ?_⟩
                            · have h9 := emptyRow hX 5
                              simp only [hn9] at h9
                              refine fork_eff _ (by rfl) (by rfl) (fun K hK => ?_)
                              go_simp
                              refine hK _ _ (fun hl => HFS.out _ _ (h9.mv 3)) ?_
                              clear hK K
                              try simp only [Act.put, List.getElem_toArray, List.getElem_cons_zero, List.getElem_cons_succ, List.setIfInBounds_toArray, List.set_cons_zero, List.set_cons_succ]
                              refine wpZ_fork ⟨?_, ?_⟩
                              · obtain ⟨SR, r0⟩ := HRT.out _ _ (h9.mv 2)
                                refine fork_eff _ (by rfl) (by rfl) (fun K hK => ?_)
                                refine wp_append_empty_h _ _ 22 (by rfl) 5 i5 (.int .u8 0) 1 1 Try.underlying22 hi hz0 hz1 hz2 (by rfl) _ (by rfl) h9 _ (by rfl) q (ub (l.take q)) SR r0 HT1.out HBN.out.1 HBN.out.2.1 (fun a1 c1 w11 h10 hc1 => ?_)
                                refine hK _ _ (fun hl => HFS.out _ _ (h10.mv 3)) ?_
                                clear hK K
                                try simp only [Act.put, List.getElem_toArray, List.getElem_cons_zero, List.getElem_cons_succ, List.setIfInBounds_toArray, List.set_cons_zero, List.set_cons_succ]
                                obtain ⟨n6, hn6⟩ : ∃ n, w11.heap.size = n := ⟨_, rfl⟩
                                have h11 := h10.box 5 [.int .u8 (x.toNat : Int)]
                                simp only [hn6] at h11
                                (refine wpZ_eff _ (by rfl) (by rfl) (by rfl) (by rfl) (fun K hK => ?_); go_simp; refine hK _ _ (fun hl => ?_) ?_; (first | (focus (cases hl; done)) | exact HFS.out _ _ (h11.mv 4)); clear hK K; try simp only [Act.put, List.getElem_toArray, List.getElem_cons_zero, List.getElem_cons_succ, List.setIfInBounds_toArray, List.set_cons_zero, List.set_cons_succ])
                                have h12 := h11.mv 1
                                (try dsimp only [Go.Own.front, Go.Own.arrA, Go.Own.atA, Go.Own.dropA, List.length_cons, List.length_nil, Nat.zero_add, Nat.reduceAdd] at h12)
                                obtain ⟨SB, rB⟩ := (h12.mv 1).reads (cells_reads 5 n6 1 1 _ (by rfl) one_max)
                                refine wpZ_eff _ (by rfl) (by rfl) (by rfl) (by rfl) (fun K hK => ?_)
                                refine wp_append_src_h _ _ 22 (by rfl) 5 i5 (.int .u8 0) 1 1 Try.underlying22 hi hz0 hz1 hz2 (by rfl) a1 (q) c1 _ (by rfl) h12 _ (by rfl) 1 ([.int .u8 x.toNat]) SB rB (by simp [Value.oneCell']) HBN.out.2.2.1 HBN.out.2.2.2.1 (fun a9 c9 w13 h13 hc9 => ?_)
                                (refine hK _ _ (fun hl => ?_) ?_; (first | (focus (cases hl; done)) | exact HFS.out _ _ (h13.mv 4)); clear hK K; try simp only [Act.put, List.getElem_toArray, List.getElem_cons_zero, List.getElem_cons_succ, List.setIfInBounds_toArray, List.set_cons_zero, List.set_cons_succ])
                                (repeat (first | (refine wpZ_st (v := ?_) _ (by rfl) (by rfl) (by rfl) (fun W hW => ?_) (by exact HFS.out _ _ (h13.mv 4)) ?_; (rotate_left; (focus ((try dsimp only at hW); go_simp; (try with_reducible rfl); done))); try simp only [Act.put, List.getElem_toArray, List.getElem_cons_zero, List.getElem_cons_succ, List.setIfInBounds_toArray, List.set_cons_zero, List.set_cons_succ]) | (refine wpZ_pu (v := ?_) _ (by rfl) (by rfl) (by rfl) (by rfl) (fun W => ?_) ?_; (rotate_left; (focus ((try dsimp only at hW); go_simp; (try with_reducible rfl); done))); try simp only [Act.put, List.getElem_toArray, List.getElem_cons_zero, List.getElem_cons_succ, List.setIfInBounds_toArray, List.set_cons_zero, List.set_cons_succ]) | (refine wpZ_no _ (by rfl) (by rfl) (by rfl) (by rfl) ?_; try simp only [Act.put, List.getElem_toArray, List.getElem_cons_zero, List.getElem_cons_succ, List.setIfInBounds_toArray, List.set_cons_zero, List.set_cons_succ]) | (refine wpZ_noS _ (by rfl) (by rfl) (by rfl) (by exact HFS.out _ _ (h13.mv 4)) ?_; try simp only [Act.put, List.getElem_toArray, List.getElem_cons_zero, List.getElem_cons_succ, List.setIfInBounds_toArray, List.set_cons_zero, List.set_cons_succ])))
                                (simp only [wpZ])
                                obtain ⟨SR2, r2⟩ := HRD.out w13 _ (h13.mv 3)
                                have k2 : w13.cell? ⟨p, 2, none⟩ = some (.int .i64 q) := (h13.mv 4).cell 2
                                clear rB h12
                                go_wp2_with ((with_reducible refine wpList_plain (o := ⟨some 174, _, _, _, _, _⟩) rfl (fun K hK => ?_)); refine wp_append_src_h _ _ 22 (by rfl) 5 i5 (.int .u8 0) 1 1 Try.underlying22 hi hz0 hz1 hz2 (by rfl) a9 (q + 1) c9 _ (by rfl) h13 _ (by rfl) 0 (ub (l.drop (q))) SR2 r2 HT2.out HBN.out.2.2.2.2.1 HBN.out.2.2.2.2.2.1 (fun a10 c10 w15 h15 hc15 => ?_); refine hK _ _ ?_; clear hK K)
                                all_goals go_meet
                                all_goals exact fin5 HLM.out HQN.out HL9.out HMN.out _ h15
                              · have h10 := h9.box 5 [.int .u8 (x.toNat : Int)]
                                simp only [World.size_alloc, hn9] at h10
                                refine fork_eff _ (by rfl) (by rfl) (fun K hK => ?_)
                                go_simp
                                refine hK _ _ (fun hl => HFS.out _ _ (h10.mv 4)) ?_
                                clear hK K
                                try simp only [Act.put, List.getElem_toArray, List.getElem_cons_zero, List.getElem_cons_succ, List.setIfInBounds_toArray, List.set_cons_zero, List.set_cons_succ]
                                have h11 := h10.mv 1
                                (try dsimp only [Go.Own.front, Go.Own.arrA, Go.Own.atA, Go.Own.dropA, List.length_cons, List.length_nil, Nat.zero_add, Nat.reduceAdd] at h11)
                                obtain ⟨SR, r0⟩ := HRT.out _ _ (h11.mv 3)
                                refine wpZ_eff _ (by rfl) (by rfl) (by rfl) (by rfl) (fun K hK => ?_)
                                refine wp_append_empty_h _ _ 22 (by rfl) 5 i5 (.int .u8 0) 1 1 Try.underlying22 hi hz0 hz1 hz2 (by rfl) _ (by rfl) h11 _ (by rfl) q (ub (l.take q)) SR r0 HT1.out HBN.out.1 HBN.out.2.1 (fun a1 c1 w11 h12 hc1 => ?_)
                                (refine hK _ _ (fun hl => ?_) ?_; (first | (focus (cases hl; done)) | exact HFS.out _ _ (h12.mv 4)); clear hK K; try simp only [Act.put, List.getElem_toArray, List.getElem_cons_zero, List.getElem_cons_succ, List.setIfInBounds_toArray, List.set_cons_zero, List.set_cons_succ])
                                obtain ⟨SB, rB⟩ := (h12.mv 1).reads (cells_reads 5 (n9 + 1) 1 1 _ (by rfl) one_max)
                                refine wpZ_eff _ (by rfl) (by rfl) (by rfl) (by rfl) (fun K hK => ?_)
                                refine wp_append_src_h _ _ 22 (by rfl) 5 i5 (.int .u8 0) 1 1 Try.underlying22 hi hz0 hz1 hz2 (by rfl) a1 (q) c1 _ (by rfl) h12 _ (by rfl) 1 ([.int .u8 x.toNat]) SB rB (by simp [Value.oneCell']) HBN.out.2.2.1 HBN.out.2.2.2.1 (fun a9 c9 w13 h13 hc9 => ?_)
                                (refine hK _ _ (fun hl => ?_) ?_; (first | (focus (cases hl; done)) | exact HFS.out _ _ (h13.mv 4)); clear hK K; try simp only [Act.put, List.getElem_toArray, List.getElem_cons_zero, List.getElem_cons_succ, List.setIfInBounds_toArray, List.set_cons_zero, List.set_cons_succ])
                                (repeat (first | (refine wpZ_st (v := ?_) _ (by rfl) (by rfl) (by rfl) (fun W hW => ?_) (by exact HFS.out _ _ (h13.mv 4)) ?_; (rotate_left; (focus ((try dsimp only at hW); go_simp; (try with_reducible rfl); done))); try simp only [Act.put, List.getElem_toArray, List.getElem_cons_zero, List.getElem_cons_succ, List.setIfInBounds_toArray, List.set_cons_zero, List.set_cons_succ]) | (refine wpZ_pu (v := ?_) _ (by rfl) (by rfl) (by rfl) (by rfl) (fun W => ?_) ?_; (rotate_left; (focus ((try dsimp only at hW); go_simp; (try with_reducible rfl); done))); try simp only [Act.put, List.getElem_toArray, List.getElem_cons_zero, List.getElem_cons_succ, List.setIfInBounds_toArray, List.set_cons_zero, List.set_cons_succ]) | (refine wpZ_no _ (by rfl) (by rfl) (by rfl) (by rfl) ?_; try simp only [Act.put, List.getElem_toArray, List.getElem_cons_zero, List.getElem_cons_succ, List.setIfInBounds_toArray, List.set_cons_zero, List.set_cons_succ]) | (refine wpZ_noS _ (by rfl) (by rfl) (by rfl) (by exact HFS.out _ _ (h13.mv 4)) ?_; try simp only [Act.put, List.getElem_toArray, List.getElem_cons_zero, List.getElem_cons_succ, List.setIfInBounds_toArray, List.set_cons_zero, List.set_cons_succ])))
                                (simp only [wpZ])
                                obtain ⟨SR2, r2⟩ := HRD.out w13 _ (h13.mv 3)
                                have k2 : w13.cell? ⟨p, 2, none⟩ = some (.int .i64 q) := (h13.mv 4).cell 2
                                clear rB h12
                                go_wp2_with ((with_reducible refine wpList_plain (o := ⟨some 174, _, _, _, _, _⟩) rfl (fun K hK => ?_)); refine wp_append_src_h _ _ 22 (by rfl) 5 i5 (.int .u8 0) 1 1 Try.underlying22 hi hz0 hz1 hz2 (by rfl) a9 (q + 1) c9 _ (by rfl) h13 _ (by rfl) 0 (ub (l.drop (q))) SR2 r2 HT2.out HBN.out.2.2.2.2.1 HBN.out.2.2.2.2.2.1 (fun a10 c10 w15 h15 hc15 => ?_); refine hK _ _ ?_; clear hK K)
                                all_goals go_meet
                                all_goals exact fin5 HLM.out HQN.out HL9.out HMN.out _ h15
                            · have h9 := hX.box 5 [.int .u8 (x.toNat : Int)]
                              simp only [hn9] at h9
                              refine fork_eff _ (by rfl) (by rfl) (fun K hK => ?_)
                              go_simp
                              refine hK _ _ (fun hl => HFS.out _ _ (h9.mv 3)) ?_
                              clear hK K
                              try simp only [Act.put, List.getElem_toArray, List.getElem_cons_zero, List.getElem_cons_succ, List.setIfInBounds_toArray, List.set_cons_zero, List.set_cons_succ]
                              have h11 := emptyRow h9 5
                              simp only [World.size_alloc, hn9] at h11
                              (refine wpZ_eff _ (by rfl) (by rfl) (by rfl) (by rfl) (fun K hK => ?_); go_simp; refine hK _ _ (fun hl => ?_) ?_; (first | (focus (cases hl; done)) | exact HFS.out _ _ (h11.mv 4)); clear hK K; try simp only [Act.put, List.getElem_toArray, List.getElem_cons_zero, List.getElem_cons_succ, List.setIfInBounds_toArray, List.set_cons_zero, List.set_cons_succ])
                              obtain ⟨SR, r0⟩ := HRT.out _ _ (h11.mv 3)
                              refine wpZ_eff _ (by rfl) (by rfl) (by rfl) (by rfl) (fun K hK => ?_)
                              refine wp_append_empty_h _ _ 22 (by rfl) 5 i5 (.int .u8 0) 1 1 Try.underlying22 hi hz0 hz1 hz2 (by rfl) _ (by rfl) h11 _ (by rfl) q (ub (l.take q)) SR r0 HT1.out HBN.out.1 HBN.out.2.1 (fun a1 c1 w11 h12 hc1 => ?_)
                              (refine hK _ _ (fun hl => ?_) ?_; (first | (focus (cases hl; done)) | exact HFS.out _ _ (h12.mv 4)); clear hK K; try simp only [Act.put, List.getElem_toArray, List.getElem_cons_zero, List.getElem_cons_succ, List.setIfInBounds_toArray, List.set_cons_zero, List.set_cons_succ])
                              obtain ⟨SB, rB⟩ := (h12.mv 1).reads (cells_reads 5 n9 1 1 _ (by rfl) one_max)
                              refine wpZ_eff _ (by rfl) (by rfl) (by rfl) (by rfl) (fun K hK => ?_)
                              refine wp_append_src_h _ _ 22 (by rfl) 5 i5 (.int .u8 0) 1 1 Try.underlying22 hi hz0 hz1 hz2 (by rfl) a1 (q) c1 _ (by rfl) h12 _ (by rfl) 1 ([.int .u8 x.toNat]) SB rB (by simp [Value.oneCell']) HBN.out.2.2.1 HBN.out.2.2.2.1 (fun a9 c9 w13 h13 hc9 => ?_)
                              (refine hK _ _ (fun hl => ?_) ?_; (first | (focus (cases hl; done)) | exact HFS.out _ _ (h13.mv 4)); clear hK K; try simp only [Act.put, List.getElem_toArray, List.getElem_cons_zero, List.getElem_cons_succ, List.setIfInBounds_toArray, List.set_cons_zero, List.set_cons_succ])
                              (repeat (first | (refine wpZ_st (v := ?_) _ (by rfl) (by rfl) (by rfl) (fun W hW => ?_) (by exact HFS.out _ _ (h13.mv 4)) ?_; (rotate_left; (focus ((try dsimp only at hW); go_simp; (try with_reducible rfl); done))); try simp only [Act.put, List.getElem_toArray, List.getElem_cons_zero, List.getElem_cons_succ, List.setIfInBounds_toArray, List.set_cons_zero, List.set_cons_succ]) | (refine wpZ_pu (v := ?_) _ (by rfl) (by rfl) (by rfl) (by rfl) (fun W => ?_) ?_; (rotate_left; (focus ((try dsimp only at hW); go_simp; (try with_reducible rfl); done))); try simp only [Act.put, List.getElem_toArray, List.getElem_cons_zero, List.getElem_cons_succ, List.setIfInBounds_toArray, List.set_cons_zero, List.set_cons_succ]) | (refine wpZ_no _ (by rfl) (by rfl) (by rfl) (by rfl) ?_; try simp only [Act.put, List.getElem_toArray, List.getElem_cons_zero, List.getElem_cons_succ, List.setIfInBounds_toArray, List.set_cons_zero, List.set_cons_succ]) | (refine wpZ_noS _ (by rfl) (by rfl) (by rfl) (by exact HFS.out _ _ (h13.mv 4)) ?_; try simp only [Act.put, List.getElem_toArray, List.getElem_cons_zero, List.getElem_cons_succ, List.setIfInBounds_toArray, List.set_cons_zero, List.set_cons_succ])))
                              (simp only [wpZ])
                              obtain ⟨SR2, r2⟩ := HRD.out w13 _ (h13.mv 3)
                              have k2 : w13.cell? ⟨p, 2, none⟩ = some (.int .i64 q) := (h13.mv 4).cell 2
                              clear rB h12
                              go_wp2_with ((with_reducible refine wpList_plain (o := ⟨some 174, _, _, _, _, _⟩) rfl (fun K hK => ?_)); refine wp_append_src_h _ _ 22 (by rfl) 5 i5 (.int .u8 0) 1 1 Try.underlying22 hi hz0 hz1 hz2 (by rfl) a9 (q + 1) c9 _ (by rfl) h13 _ (by rfl) 0 (ub (l.drop (q))) SR2 r2 HT2.out HBN.out.2.2.2.2.1 HBN.out.2.2.2.2.2.1 (fun a10 c10 w15 h15 hc15 => ?_); refine hK _ _ ?_; clear hK K)
                              all_goals go_meet
                              all_goals exact fin5 HLM.out HQN.out HL9.out HMN.out _ h15
                        · as_aux_lemma =>
                            have HRT : Hid (∀ W X, Hold W (rowA 5 1 (some ⟨a, 0, none⟩) M M (ub l) :: X) → ∃ S, Rd W 1 (.slice (some ⟨a, 0, none⟩) q M) q (ub (l.take q)) S) := Lib.hid (fun W X hW => takeRd hqNle hW)
                            have HRD : Hid (∀ W X, Hold W (rowA 5 1 (some ⟨a, 0, none⟩) M M (ub l) :: X) → ∃ S, Rd W 1 (.slice (some ⟨a, q, none⟩) L9 L9) L9 (ub (l.drop (q))) S) := Lib.hid (fun W X hW => dropRd HLM.out (Nat.lt_of_le_of_ne hdM (fun e => hce e.symm)) HL9.out hW)
                            have HT1 := Lib.hid (ub_one (l.take q))
                            have HT2 := Lib.hid (ub_one (l.drop (q)))
                            clear hqNle hdM hMN
                            go_upto_region 33 with (first
                              | (go_at_call 20; refine PS.mono ?_; clear PS; rintro e w8 ⟨rfl, h8⟩; have e2 := (h8.mv 2).cell 2; have e3 := (h8.mv 2).cell 3)
                              | (go_at_call 10; refine (num_any _ _).mono ?_; rintro e w9 ⟨rfl, rfl⟩))
                            have hX := h8.drew
                            clear hA h8 d2 d3 e2 e3
                            refine wp_region_ZP (fun W => W.cell? ⟨p, 2, none⟩ = some (.int .i64 q) ∧ W.cell? ⟨p, 3, none⟩ = some (.int .u8 x.toNat)) [3, 7] [] [1, 2, 4, 6, 10] (.fork [1, 2, 3, 4, 6, 7] 0 (.fork [] 5 (.run [8, 9, 10]) 8 (.run [5, 9, 10])) 8 (.run [0, 5, 9, 10])) (by kernel_rfl) (by kernel_rfl) ?_
                            generalize w8.drew = w9 at *
                            obtain ⟨n9, hn9⟩ : ∃ n, w9.heap.size = n := ⟨_, rfl⟩
                            simp only [wpZP]
                            (repeat (first | (refine wpZ_st (v := ?_) _ (by rfl) (by rfl) (by rfl) (fun W hW => ?_) (by exact HFS.out _ _ (hX.mv 2)) ?_; (rotate_left; (focus ((try dsimp only at hW); go_simp; (try with_reducible rfl); done))); try simp only [Act.put, List.getElem_toArray, List.getElem_cons_zero, List.getElem_cons_succ, List.setIfInBounds_toArray, List.set_cons_zero, List.set_cons_succ]) | (refine wpZ_pu (v := ?_) _ (by rfl) (by rfl) (by rfl) (by rfl) (fun W => ?_) ?_; (rotate_left; (focus ((try dsimp only at hW); go_simp; (try with_reducible rfl); done))); try simp only [Act.put, List.getElem_toArray, List.getElem_cons_zero, List.getElem_cons_succ, List.setIfInBounds_toArray, List.set_cons_zero, List.set_cons_succ]) | (refine wpZ_no _ (by rfl) (by rfl) (by rfl) (by rfl) ?_; try simp only [Act.put, List.getElem_toArray, List.getElem_cons_zero, List.getElem_cons_succ, List.setIfInBounds_toArray, List.set_cons_zero, List.set_cons_succ]) | (refine wpZ_noS _ (by rfl) (by rfl) (by rfl) (by exact HFS.out _ _ (hX.mv 2)) ?_; try simp only [Act.put, List.getElem_toArray, List.getElem_cons_zero, List.getElem_cons_succ, List.setIfInBounds_toArray, List.set_cons_zero, List.set_cons_succ])))
                            refine wpZ_fork ⟨?_, ?_⟩
                            · have h9 := emptyRow hX 5
                              simp only [hn9] at h9
                              refine fork_eff _ (by rfl) (by rfl) (fun K hK => ?_)
                              go_simp
                              refine hK _ _ (fun hl => HFS.out _ _ (h9.mv 3)) ?_
                              clear hK K
                              try simp only [Act.put, List.getElem_toArray, List.getElem_cons_zero, List.getElem_cons_succ, List.setIfInBounds_toArray, List.set_cons_zero, List.set_cons_succ]
                              refine wpZ_fork ⟨?_, ?_⟩
                              · obtain ⟨SR, r0⟩ := HRT.out _ _ (h9.mv 2)
                                refine fork_eff _ (by rfl) (by rfl) (fun K hK => ?_)
                                refine wp_append_empty_h _ _ 22 (by rfl) 5 i5 (.int .u8 0) 1 1 Try.underlying22 hi hz0 hz1 hz2 (by rfl) _ (by rfl) h9 _ (by rfl) q (ub (l.take q)) SR r0 HT1.out HBN.out.1 HBN.out.2.1 (fun a1 c1 w11 h10 hc1 => ?_)
                                refine hK _ _ (fun hl => HFS.out _ _ (h10.mv 3)) ?_
                                clear hK K
                                try simp only [Act.put, List.getElem_toArray, List.getElem_cons_zero, List.getElem_cons_succ, List.setIfInBounds_toArray, List.set_cons_zero, List.set_cons_succ]
                                obtain ⟨n6, hn6⟩ : ∃ n, w11.heap.size = n := ⟨_, rfl⟩
                                have h11 := h10.box 5 [.int .u8 (x.toNat : Int)]
                                simp only [hn6] at h11
                                (refine wpZ_eff _ (by rfl) (by rfl) (by rfl) (by rfl) (fun K hK => ?_); go_simp; refine hK _ _ (fun hl => ?_) ?_; (first | (focus (cases hl; done)) | exact HFS.out _ _ (h11.mv 4)); clear hK K; try simp only [Act.put, List.getElem_toArray, List.getElem_cons_zero, List.getElem_cons_succ, List.setIfInBounds_toArray, List.set_cons_zero, List.set_cons_succ])
                                have h12 := h11.mv 1
                                (try dsimp only [Go.Own.front, Go.Own.arrA, Go.Own.atA, Go.Own.dropA, List.length_cons, List.length_nil, Nat.zero_add, Nat.reduceAdd] at h12)
                                obtain ⟨SB, rB⟩ := (h12.mv 1).reads (cells_reads 5 n6 1 1 _ (by rfl) one_max)
                                refine wpZ_eff _ (by rfl) (by rfl) (by rfl) (by rfl) (fun K hK => ?_)
                                refine wp_append_src_h _ _ 22 (by rfl) 5 i5 (.int .u8 0) 1 1 Try.underlying22 hi hz0 hz1 hz2 (by rfl) a1 (q) c1 _ (by rfl) h12 _ (by rfl) 1 ([.int .u8 x.toNat]) SB rB (by simp [Value.oneCell']) HBN.out.2.2.1 HBN.out.2.2.2.1 (fun a9 c9 w13 h13 hc9 => ?_)
                                (refine hK _ _ (fun hl => ?_) ?_; (first | (focus (cases hl; done)) | exact HFS.out _ _ (h13.mv 4)); clear hK K; try simp only [Act.put, List.getElem_toArray, List.getElem_cons_zero, List.getElem_cons_succ, List.setIfInBounds_toArray, List.set_cons_zero, List.set_cons_succ])
                                (repeat (first | (refine wpZ_st (v := ?_) _ (by rfl) (by rfl) (by rfl) (fun W hW => ?_) (by exact HFS.out _ _ (h13.mv 4)) ?_; (rotate_left; (focus ((try dsimp only at hW); go_simp; (try with_reducible rfl); done))); try simp only [Act.put, List.getElem_toArray, List.getElem_cons_zero, List.getElem_cons_succ, List.setIfInBounds_toArray, List.set_cons_zero, List.set_cons_succ]) | (refine wpZ_pu (v := ?_) _ (by rfl) (by rfl) (by rfl) (by rfl) (fun W => ?_) ?_; (rotate_left; (focus ((try dsimp only at hW); go_simp; (try with_reducible rfl); done))); try simp only [Act.put, List.getElem_toArray, List.getElem_cons_zero, List.getElem_cons_succ, List.setIfInBounds_toArray, List.set_cons_zero, List.set_cons_succ]) | (refine wpZ_no _ (by rfl) (by rfl) (by rfl) (by rfl) ?_; try simp only [Act.put, List.getElem_toArray, List.getElem_cons_zero, List.getElem_cons_succ, List.setIfInBounds_toArray, List.set_cons_zero, List.set_cons_succ]) | (refine wpZ_noS _ (by rfl) (by rfl) (by rfl) (by exact HFS.out _ _ (h13.mv 4)) ?_; try simp only [Act.put, List.getElem_toArray, List.getElem_cons_zero, List.getElem_cons_succ, List.setIfInBounds_toArray, List.set_cons_zero, List.set_cons_succ])))
                                (simp only [wpZ])
                                obtain ⟨SR2, r2⟩ := HRD.out w13 _ (h13.mv 3)
                                have k2 : w13.cell? ⟨p, 2, none⟩ = some (.int .i64 q) := (h13.mv 4).cell 2
                                clear rB h12
                                go_wp2_with ((with_reducible refine wpList_plain (o := ⟨some 174, _, _, _, _, _⟩) rfl (fun K hK => ?_)); refine wp_append_src_h _ _ 22 (by rfl) 5 i5 (.int .u8 0) 1 1 Try.underlying22 hi hz0 hz1 hz2 (by rfl) a9 (q + 1) c9 _ (by rfl) h13 _ (by rfl) L9 (ub (l.drop (q))) SR2 r2 HT2.out HBN.out.2.2.2.2.1 HBN.out.2.2.2.2.2.1 (fun a10 c10 w15 h15 hc15 => ?_); refine hK _ _ ?_; clear hK K)
                                all_goals go_meet
                                all_goals exact fin5 HLM.out HQN.out HL9.out HMN.out _ h15
                              · have h10 := h9.box 5 [.int .u8 (x.toNat : Int)]
                                simp only [World.size_alloc, hn9] at h10
                                refine fork_eff _ (by rfl) (by rfl) (fun K hK => ?_)
                                go_simp
                                refine hK _ _ (fun hl => HFS.out _ _ (h10.mv 4)) ?_
                                clear hK K
                                try simp only [Act.put, List.getElem_toArray, List.getElem_cons_zero, List.getElem_cons_succ, List.setIfInBounds_toArray, List.set_cons_zero, List.set_cons_succ]
                                have h11 := h10.mv 1
                                (try dsimp only [Go.Own.front, Go.Own.arrA, Go.Own.atA, Go.Own.dropA, List.length_cons, List.length_nil, Nat.zero_add, Nat.reduceAdd] at h11)
                                obtain ⟨SR, r0⟩ := HRT.out _ _ (h11.mv 3)
                                refine wpZ_eff _ (by rfl) (by rfl) (by rfl) (by rfl) (fun K hK => ?_)
                                refine wp_append_empty_h _ _ 22 (by rfl) 5 i5 (.int .u8 0) 1 1 Try.underlying22 hi hz0 hz1 hz2 (by rfl) _ (by rfl) h11 _ (by rfl) q (ub (l.take q)) SR r0 HT1.out HBN.out.1 HBN.out.2.1 (fun a1 c1 w11 h12 hc1 => ?_)
                                (refine hK _ _ (fun hl => ?_) ?_; (first | (focus (cases hl; done)) | exact HFS.out _ _ (h12.mv 4)); clear hK K; try simp only [Act.put, List.getElem_toArray, List.getElem_cons_zero, List.getElem_cons_succ, List.setIfInBounds_toArray, List.set_cons_zero, List.set_cons_succ])
                                obtain ⟨SB, rB⟩ := (h12.mv 1).reads (cells_reads 5 (n9 + 1) 1 1 _ (by rfl) one_max)
                                refine wpZ_eff _ (by rfl) (by rfl) (by rfl) (by rfl) (fun K hK => ?_)
                                refine wp_append_src_h _ _ 22 (by rfl) 5 i5 (.int .u8 0) 1 1 Try.underlying22 hi hz0 hz1 hz2 (by rfl) a1 (q) c1 _ (by rfl) h12 _ (by rfl) 1 ([.int .u8 x.toNat]) SB rB (by simp [Value.oneCell']) HBN.out.2.2.1 HBN.out.2.2.2.1 (fun a9 c9 w13 h13 hc9 => ?_)
                                (refine hK _ _ (fun hl => ?_) ?_; (first | (focus (cases hl; done)) | exact HFS.out _ _ (h13.mv 4)); clear hK K; try simp only [Act.put, List.getElem_toArray, List.getElem_cons_zero, List.getElem_cons_succ, List.setIfInBounds_toArray, List.set_cons_zero, List.set_cons_succ])
                                (repeat (first | (refine wpZ_st (v := ?_) _ (by rfl) (by rfl) (by rfl) (fun W hW => ?_) (by exact HFS.out _ _ (h13.mv 4)) ?_; (rotate_left; (focus ((try dsimp only at hW); go_simp; (try with_reducible rfl); done))); try simp only [Act.put, List.getElem_toArray, List.getElem_cons_zero, List.getElem_cons_succ, List.setIfInBounds_toArray, List.set_cons_zero, List.set_cons_succ]) | (refine wpZ_pu (v := ?_) _ (by rfl) (by rfl) (by rfl) (by rfl) (fun W => ?_) ?_; (rotate_left; (focus ((try dsimp only at hW); go_simp; (try with_reducible rfl); done))); try simp only [Act.put, List.getElem_toArray, List.getElem_cons_zero, List.getElem_cons_succ, List.setIfInBounds_toArray, List.set_cons_zero, List.set_cons_succ]) | (refine wpZ_no _ (by rfl) (by rfl) (by rfl) (by rfl) ?_; try simp only [Act.put, List.getElem_toArray, List.getElem_cons_zero, List.getElem_cons_succ, List.setIfInBounds_toArray, List.set_cons_zero, List.set_cons_succ]) | (refine wpZ_noS _ (by rfl) (by rfl) (by rfl) (by exact HFS.out _ _ (h13.mv 4)) ?_; try simp only [Act.put, List.getElem_toArray, List.getElem_cons_zero, List.getElem_cons_succ, List.setIfInBounds_toArray, List.set_cons_zero, List.set_cons_succ])))
                                (simp only [wpZ])
                                obtain ⟨SR2, r2⟩ := HRD.out w13 _ (h13.mv 3)
                                have k2 : w13.cell? ⟨p, 2, none⟩ = some (.int .i64 q) := (h13.mv 4).cell 2
                                clear rB h12
                                go_wp2_with ((with_reducible refine wpList_plain (o := ⟨some 174, _, _, _, _, _⟩) rfl (fun K hK => ?_)); refine wp_append_src_h _ _ 22 (by rfl) 5 i5 (.int .u8 0) 1 1 Try.underlying22 hi hz0 hz1 hz2 (by rfl) a9 (q + 1) c9 _ (by rfl) h13 _ (by rfl) L9 (ub (l.drop (q))) SR2 r2 HT2.out HBN.out.2.2.2.2.1 HBN.out.2.2.2.2.2.1 (fun a10 c10 w15 h15 hc15 => ?_); refine hK _ _ ?_; clear hK K)
                                all_goals go_meet
                                all_goals exact fin5 HLM.out HQN.out HL9.out HMN.out _ h15
                            · have h9 := hX.box 5 [.int .u8 (x.toNat : Int)]
                              simp only [hn9] at h9
                              refine fork_eff _ (by rfl) (by rfl) (fun K hK => ?_)
                              go_simp
                              refine hK _ _ (fun hl => HFS.out _ _ (h9.mv 3)) ?_
                              clear hK K
                              try simp only [Act.put, List.getElem_toArray, List.getElem_cons_zero, List.getElem_cons_succ, List.setIfInBounds_toArray, List.set_cons_zero, List.set_cons_succ]
                              have h11 := emptyRow h9 5
                              simp only [World.size_alloc, hn9] at h11
                              (refine wpZ_eff _ (by rfl) (by rfl) (by rfl) (by rfl) (fun K hK => ?_); go_simp; refine hK _ _ (fun hl => ?_) ?_; (first | (focus (cases hl; done)) | exact HFS.out _ _ (h11.mv 4)); clear hK K; try simp only [Act.put, List.getElem_toArray, List.getElem_cons_zero, List.getElem_cons_succ, List.setIfInBounds_toArray, List.set_cons_zero, List.set_cons_succ])
                              obtain ⟨SR, r0⟩ := HRT.out _ _ (h11.mv 3)
                              refine wpZ_eff _ (by rfl) (by rfl) (by rfl) (by rfl) (fun K hK => ?_)
                              refine wp_append_empty_h _ _ 22 (by rfl) 5 i5 (.int .u8 0) 1 1 Try.underlying22 hi hz0 hz1 hz2 (by rfl) _ (by rfl) h11 _ (by rfl) q (ub (l.take q)) SR r0 HT1.out HBN.out.1 HBN.out.2.1 (fun a1 c1 w11 h12 hc1 => ?_)
                              (refine hK _ _ (fun hl => ?_) ?_; (first | (focus (cases hl; done)) | exact HFS.out _ _ (h12.mv 4)); clear hK K; try simp only [Act.put, List.getElem_toArray, List.getElem_cons_zero, List.getElem_cons_succ, List.setIfInBounds_toArray, List.set_cons_zero, List.set_cons_succ])
                              obtain ⟨SB, rB⟩ := (h12.mv 1).reads (cells_reads 5 n9 1 1 _ (by rfl) one_max)
                              refine wpZ_eff _ (by rfl) (by rfl) (by rfl) (by rfl) (fun K hK => ?_)
                              refine wp_append_src_h _ _ 22 (by rfl) 5 i5 (.int .u8 0) 1 1 Try.underlying22 hi hz0 hz1 hz2 (by rfl) a1 (q) c1 _ (by rfl) h12 _ (by rfl) 1 ([.int .u8 x.toNat]) SB rB (by simp [Value.oneCell']) HBN.out.2.2.1 HBN.out.2.2.2.1 (fun a9 c9 w13 h13 hc9 => ?_)
                              (refine hK _ _ (fun hl => ?_) ?_; (first | (focus (cases hl; done)) | exact HFS.out _ _ (h13.mv 4)); clear hK K; try simp only [Act.put, List.getElem_toArray, List.getElem_cons_zero, List.getElem_cons_succ, List.setIfInBounds_toArray, List.set_cons_zero, List.set_cons_succ])
                              (repeat (first | (refine wpZ_st (v := ?_) _ (by rfl) (by rfl) (by rfl) (fun W hW => ?_) (by exact HFS.out _ _ (h13.mv 4)) ?_; (rotate_left; (focus ((try dsimp only at hW); go_simp; (try with_reducible rfl); done))); try simp only [Act.put, List.getElem_toArray, List.getElem_cons_zero, List.getElem_cons_succ, List.setIfInBounds_toArray, List.set_cons_zero, List.set_cons_succ]) | (refine wpZ_pu (v := ?_) _ (by rfl) (by rfl) (by rfl) (by rfl) (fun W => ?_) ?_; (rotate_left; (focus ((try dsimp only at hW); go_simp; (try with_reducible rfl); done))); try simp only [Act.put, List.getElem_toArray, List.getElem_cons_zero, List.getElem_cons_succ, List.setIfInBounds_toArray, List.set_cons_zero, List.set_cons_succ]) | (refine wpZ_no _ (by rfl) (by rfl) (by rfl) (by rfl) ?_; try simp only [Act.put, List.getElem_toArray, List.getElem_cons_zero, List.getElem_cons_succ, List.setIfInBounds_toArray, List.set_cons_zero, List.set_cons_succ]) | (refine wpZ_noS _ (by rfl) (by rfl) (by rfl) (by exact HFS.out _ _ (h13.mv 4)) ?_; try simp only [Act.put, List.getElem_toArray, List.getElem_cons_zero, List.getElem_cons_succ, List.setIfInBounds_toArray, List.set_cons_zero, List.set_cons_succ])))
                              (simp only [wpZ])
                              obtain ⟨SR2, r2⟩ := HRD.out w13 _ (h13.mv 3)
                              have k2 : w13.cell? ⟨p, 2, none⟩ = some (.int .i64 q) := (h13.mv 4).cell 2
                              clear rB h12
                              go_wp2_with ((with_reducible refine wpList_plain (o := ⟨some 174, _, _, _, _, _⟩) rfl (fun K hK => ?_)); refine wp_append_src_h _ _ 22 (by rfl) 5 i5 (.int .u8 0) 1 1 Try.underlying22 hi hz0 hz1 hz2 (by rfl) a9 (q + 1) c9 _ (by rfl) h13 _ (by rfl) L9 (ub (l.drop (q))) SR2 r2 HT2.out HBN.out.2.2.2.2.1 HBN.out.2.2.2.2.2.1 (fun a10 c10 w15 h15 hc15 => ?_); refine hK _ _ ?_; clear hK K)
                              all_goals go_meet
                              all_goals exact fin5 HLM.out HQN.out HL9.out HMN.out _ h15
                    · as_aux_lemma =>
                        have hq3 : (K == 3) = false := by simpa using hk3
                        have hq4 : (K == 4) = false := by simpa using hk4
                        have hq5 : (K == 5) = false := by simpa using hk5
                        have h9 := (hA.drop.mv 1).drop
                        (try dsimp only [Go.Own.front, Go.Own.arrA, Go.Own.atA, Go.Own.dropA, List.length_cons, List.length_nil, Nat.zero_add, Nat.reduceAdd] at h9)
                        clear hk3 hk4 hk5 hA
                        have hLL : l.length ≤ 65536 := by have := HLM.out; omega
                        have HLL := Lib.hid hLL
                        clear hLL
                        go_wp2
                        go_roundw
                        case rel => exact ⟨k + 1, l, by omega, by go_num, HLL.out, h9⟩
                        case measure => (simp [intOf] <;> omega)
              case rest =>
                obtain ⟨f, l', ao', cp', rfl, rfl, rfl, hl', hT⟩ := hcut
                clear hA d0 d2 d3
                have hS := hT.drew
                have T0 : Sem.run Try.prog (convert 22 9 (.slice ao' l'.length cp')) wc.drew = .ok (.string ⟨l'.toArray⟩) wc.drew := text_ok hS.rd
                have PL := look_h (hS.mv 1)
                rw [show (chS l').l = l' from rfl] at PL
                obtain ⟨a9, ha9⟩ : ∃ a9, wc.drew.heap.size = a9 := ⟨_, rfl⟩
                rw [ha9] at PL
                clear ha9
                go_upto_region 35 with (fail)
                refine wp_region_Z (fun W => Sem.run Try.prog (convert 22 9 (.slice ao' l'.length cp')) W = .ok (.string ⟨l'.toArray⟩) W) [9] [] [0, 1, 2, 3, 4, 5, 8, 10, 11, 12, 13, 15, 16, 17, 18] [0, 1, 2, 3, 4, 5, 8, 9, 6, 7, 10, 11, 12, 13, 15, 16, 14, 17, 18] (by kernel_rfl) (by kernel_rfl) ?_
                (repeat (first | (refine wpZ_st (v := ?_) _ (by rfl) (by rfl) (by rfl) (fun W hW => ?_) (by exact T0) ?_; (rotate_left; (focus ((try dsimp only at hW); go_simp; (try with_reducible rfl); done))); try simp only [Act.put, List.getElem_toArray, List.getElem_cons_zero, List.getElem_cons_succ, List.setIfInBounds_toArray, List.set_cons_zero, List.set_cons_succ]) | (refine wpZ_pu (v := ?_) _ (by rfl) (by rfl) (by rfl) (by rfl) (fun W => ?_) ?_; (rotate_left; (focus ((try dsimp only at hW); go_simp; (try with_reducible rfl); done))); try simp only [Act.put, List.getElem_toArray, List.getElem_cons_zero, List.getElem_cons_succ, List.setIfInBounds_toArray, List.set_cons_zero, List.set_cons_succ]) | (refine wpZ_no _ (by rfl) (by rfl) (by rfl) (by rfl) ?_; try simp only [Act.put, List.getElem_toArray, List.getElem_cons_zero, List.getElem_cons_succ, List.setIfInBounds_toArray, List.set_cons_zero, List.set_cons_succ]) | (refine wpZ_noS _ (by rfl) (by rfl) (by rfl) (by exact T0) ?_; try simp only [Act.put, List.getElem_toArray, List.getElem_cons_zero, List.getElem_cons_succ, List.setIfInBounds_toArray, List.set_cons_zero, List.set_cons_succ])))
                refine wpZ_eff _ (by rfl) (by rfl) (by rfl) (by rfl) (fun K hK => ?_)
                go_simp
                refine PL.mono ?_
                rintro e w10 ⟨rfl, h10⟩
                dsimp only
                have T1 : Sem.run Try.prog (convert 22 9 (.slice (some ⟨a9, 0, none⟩) l'.length l'.length)) w10 = .ok (.string ⟨l'.toArray⟩) w10 := text_ok h10.rd
                have T2 : Sem.run Try.prog (convert 22 9 (.slice ao' l'.length cp')) w10 = .ok (.string ⟨l'.toArray⟩) w10 := text_ok (h10.mv 2).rd
                (refine hK _ _ (fun hl => ?_) ?_; (first | (focus (cases hl; done)) | exact T2); clear hK K; try simp only [Act.put, List.getElem_toArray, List.getElem_cons_zero, List.getElem_cons_succ, List.setIfInBounds_toArray, List.set_cons_zero, List.set_cons_succ])
                (refine wpZ_eff _ (by rfl) (by rfl) (by rfl) (by rfl) (fun K hK => ?_); go_simp; refine hK _ _ (fun hl => ?_) ?_; (first | (focus (cases hl; done)) | exact T2); clear hK K; try simp only [Act.put, List.getElem_toArray, List.getElem_cons_zero, List.getElem_cons_succ, List.setIfInBounds_toArray, List.set_cons_zero, List.set_cons_succ])
                (repeat (first | (refine wpZ_st (v := ?_) _ (by rfl) (by rfl) (by rfl) (fun W hW => ?_) (by exact T2) ?_; (rotate_left; (focus ((try dsimp only at hW); go_simp; (try with_reducible rfl); done))); try simp only [Act.put, List.getElem_toArray, List.getElem_cons_zero, List.getElem_cons_succ, List.setIfInBounds_toArray, List.set_cons_zero, List.set_cons_succ]) | (refine wpZ_pu (v := ?_) _ (by rfl) (by rfl) (by rfl) (by rfl) (fun W => ?_) ?_; (rotate_left; (focus ((try dsimp only at hW); go_simp; (try with_reducible rfl); done))); try simp only [Act.put, List.getElem_toArray, List.getElem_cons_zero, List.getElem_cons_succ, List.setIfInBounds_toArray, List.set_cons_zero, List.set_cons_succ]) | (refine wpZ_no _ (by rfl) (by rfl) (by rfl) (by rfl) ?_; try simp only [Act.put, List.getElem_toArray, List.getElem_cons_zero, List.getElem_cons_succ, List.setIfInBounds_toArray, List.set_cons_zero, List.set_cons_succ]) | (refine wpZ_noS _ (by rfl) (by rfl) (by rfl) (by exact T2) ?_; try simp only [Act.put, List.getElem_toArray, List.getElem_cons_zero, List.getElem_cons_succ, List.setIfInBounds_toArray, List.set_cons_zero, List.set_cons_succ])))
                have PN := len_h (h10.mv 1)
                rw [show (chS l').l = l' from rfl] at PN
                refine wpZ_eff _ (by rfl) (by rfl) (by rfl) (by rfl) (fun K hK => ?_)
                go_simp
                refine PN.mono ?_
                rintro e w11 ⟨rfl, rfl⟩
                dsimp only
                (refine hK _ _ (fun hl => ?_) ?_; (first | (focus (cases hl; done)) | exact T2); clear hK K; try simp only [Act.put, List.getElem_toArray, List.getElem_cons_zero, List.getElem_cons_succ, List.setIfInBounds_toArray, List.set_cons_zero, List.set_cons_succ])
                (repeat (first | (refine wpZ_st (v := ?_) _ (by rfl) (by rfl) (by rfl) (fun W hW => ?_) (by exact T2) ?_; (rotate_left; (focus ((try dsimp only at hW); go_simp; (try with_reducible rfl); done))); try simp only [Act.put, List.getElem_toArray, List.getElem_cons_zero, List.getElem_cons_succ, List.setIfInBounds_toArray, List.set_cons_zero, List.set_cons_succ]) | (refine wpZ_pu (v := ?_) _ (by rfl) (by rfl) (by rfl) (by rfl) (fun W => ?_) ?_; (rotate_left; (focus ((try dsimp only at hW); go_simp; (try with_reducible rfl); done))); try simp only [Act.put, List.getElem_toArray, List.getElem_cons_zero, List.getElem_cons_succ, List.setIfInBounds_toArray, List.set_cons_zero, List.set_cons_succ]) | (refine wpZ_no _ (by rfl) (by rfl) (by rfl) (by rfl) ?_; try simp only [Act.put, List.getElem_toArray, List.getElem_cons_zero, List.getElem_cons_succ, List.setIfInBounds_toArray, List.set_cons_zero, List.set_cons_succ]) | (refine wpZ_noS _ (by rfl) (by rfl) (by rfl) (by exact T2) ?_; try simp only [Act.put, List.getElem_toArray, List.getElem_cons_zero, List.getElem_cons_succ, List.setIfInBounds_toArray, List.set_cons_zero, List.set_cons_succ])))
                (simp only [wpZ])
                have h12 := (h10.drop.mv 1).drop
                (try dsimp only [Go.Own.front, Go.Own.arrA, Go.Own.atA, Go.Own.dropA, List.length_cons, List.length_nil, Nat.zero_add, Nat.reduceAdd] at h12)
                clear T0 T1 T2 PN PL hS h10 hT
                go_wp2
                go_roundw
                case rel => exact ⟨k + 1, l', by omega, by go_num, hl', h12⟩
                case measure => (simp [intOf] <;> omega)
          · obtain rfl : k = n := by omega
            have PQ := passed_h hr
            go_wp2_with (go_at_call 17; refine PQ.mono ?_; clear PQ; rintro e w6 ⟨rfl, rfl⟩)
            go_ret
            exact ⟨rfl, hr.drop⟩

end Go.Proofs.Ytlfchokafpodcaa
