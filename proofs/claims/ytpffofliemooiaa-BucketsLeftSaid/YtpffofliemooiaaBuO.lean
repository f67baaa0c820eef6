/- The walk of BucketsOrder. -/
import Derived.Test.YtpffofliemooiaaBuN
open Go.RowKit Go.Own
namespace Go.Proofs.Ytpffofliemooiaa

theorem Inv.more {ms : List Int} {i : Nat} {S : BS} (H : Inv ms i S) : Inv ms (i + 1) S :=
  ⟨H.len, H.total, fun j row h id hid => by obtain ⟨a, b, c⟩ := H.ids j row h id hid; exact ⟨a, by push_cast; omega, c⟩, H.rise, H.low, H.far⟩
theorem inv_low {ms : List Int} {i : Nat} {S : BS} (H : Inv ms i S) (hn : 0 < S.n) : Inv ms i { S with low := loAt S.rows S.low } := by
  obtain ⟨j, hj1, hj2⟩ := tot_pos (by rw [H.total]; exact hn)
  obtain ⟨hq1, hq2⟩ := loAt_spec ⟨j, (H.far j hj2).1, hj1, hj2⟩
  refine ⟨H.len, H.total, H.ids, H.rise, ⟨hq1, H.low.2⟩, fun k hk => ⟨?_, (H.far k hk).2⟩⟩
  show loAt S.rows S.low ≤ k
  rcases Nat.lt_or_ge k (loAt S.rows S.low) with h | h
  · exact absurd (loFrom_min (H.far k hk).1 h) hk
  · exact h

theorem rowG {C : Asn} {ao : Option Addr} {m cap : Nat} {xs : List Value} (hR : Reads C 1 (.slice ao m cap) m xs) (hm : 0 < m) {w : World} {L : List Asn} (h : Hold w (C :: L)) :
    ∃ rb ro, ao = some ⟨rb, ro, none⟩ ∧ ∀ W L, Hold W (C :: L) → ∀ j, j < m → W.cell? ⟨rb, ro + j, none⟩ = xs[j]? := by
  obtain ⟨S, hrd⟩ := h.reads hR
  obtain ⟨rb, ro, rfl, -, -, -⟩ := hrd.addr hm
  refine ⟨rb, ro, rfl, fun W L hW j hj => ?_⟩
  obtain ⟨S2, hrd2⟩ := hW.reads hR
  obtain ⟨rb2, ro2, he, -, -, hc⟩ := hrd2.addr hm
  simp only [Option.some.injEq, Addr.mk.injEq, and_true] at he
  obtain ⟨rfl, rfl⟩ := he
  exact hc j (by omega)

def seA (q : Nat) (d lo hi cp : Int) : Asn := cellsA q 23 [.int .i64 d, .int .i64 lo, .int .i64 hi, .int .i64 cp]
theorem seM {w : World} {q : Nat} {d lo hi cp : Int} {L : List Asn} (h : Hold w (seA q d lo hi cp :: L)) :
    w.cell? ⟨q, 0, none⟩ = some (.int .i64 d) ∧ w.cell? ⟨q, 1, none⟩ = some (.int .i64 lo) ∧ w.cell? ⟨q, 2, none⟩ = some (.int .i64 hi) ∧ w.cell? ⟨q, 3, none⟩ = some (.int .i64 cp) :=
  ⟨Hold.cell h 0, Hold.cell h 1, Hold.cell h 2, Hold.cell h 3⟩

set_option maxRecDepth 20000 in
theorem order_bad (d lo hi cp : Int) (hlo : I64 lo) (hhi : I64 hi) (hbad : (d < 1 ∨ 65536 < d) ∨ (hi < lo ∨ cp < 1 ∨ 65536 < cp) ∨ 65536 ≤ hi / d - lo / d) (v : Value) (w : World) (L : List Asn) (h : Hold w L) :
    Calls Try.prog 3 #[.agg #[.int .i64 d, .int .i64 lo, .int .i64 hi, .int .i64 cp], v] w fun e w' => e = .returned (.bool true) ∧ Hold w' L := by
  have PN := fun w => new_bad d lo hi cp hlo hhi hbad w
  clear hbad
  go_enter Try.func3, Try.ntmps3
  have hb : Hold _ (seA w.heap.size d lo hi cp :: L) := h.box 23 [.int .i64 d, .int .i64 lo, .int .i64 hi, .int .i64 cp]
  go_upto_region 1 with (fail)
  refine gen_world hb (fun w1 hb => ?_)
  generalize w.heap.size = q at *
  obtain ⟨g0, g1, g2, g3⟩ := seM hb
  go_upto_region 2 with (go_at_call 9; refine (PN _).mono ?_; rintro e w2 ⟨⟨z, hz, rfl⟩, rfl⟩)
  have hz2 : (z != 0) = true := by simpa using hz
  clear PN g0 g1 g2 g3
  go_wp2_with (first
    | (go_at_call 10; refine (num_any _ _).mono ?_; rintro e w2 ⟨rfl, rfl⟩)
    | (go_at_call 11; refine (live_ok _ _ hb).mono ?_; rintro e w3 ⟨rfl, h3⟩))
  go_ret
  exact ⟨rfl, h3.drop⟩

end Go.Proofs.Ytpffofliemooiaa
