/- Arguments of the laws of buckets; BucketsOrder whatever they are. -/
import Derived.Test.YtpffofliemooiaaBuP
import Derived.Test.YtpffofliemooiaaArgs
open Go.ChangeShapes Go.WideShapes Go.ChangeAt Go.RowKit Go.Own
namespace Go.Proofs.Ytpffofliemooiaa

theorem is_i64s (xs : List Int) : is xs = i64s xs := rfl
theorem c3 : Try.prog.cellsOf 3 = 1 := by kernel_rfl
theorem b3 : Try.prog.bytesOf 3 = 8 := by kernel_rfl
theorem c23 : Try.prog.cellsOf 23 = 4 := by kernel_rfl
theorem c50 : Try.prog.cellsOf 50 = 3 := by kernel_rfl
theorem b50 : Try.prog.bytesOf 50 = 24 := by kernel_rfl

section
variable {H : Type} {enc0 : TypeId × Value → H} {W : World} {r : Reach} {b1 : Nat} {v : Value} {d : DataW H} {ps : List MemPlace}
theorem open_setup (hval : Value.okWide Try.prog W r b1 23 v) (hd : DataW.Trod enc0 Try.prog W 0 (fun _ => true) true 23 v d ps) :
    ∃ d lo hi cp : Int, v = .agg #[.int .i64 d, .int .i64 lo, .int .i64 hi, .int .i64 cp] ∧ I64 d ∧ I64 lo ∧ I64 hi ∧ I64 cp := by
  obtain ⟨zs, rfl, h1, h2⟩ := open_ints Try.underlying23 Try.underlying3 c3 c23 (fun i hi => by
    rcases (by omega : i = 0 ∨ i = 1 ∨ i = 2 ∨ i = 3) with rfl | rfl | rfl | rfl
    · exact ⟨_, List.mem_of_getElem? (i := 0) rfl, rfl, rfl⟩
    · exact ⟨_, List.mem_of_getElem? (i := 1) rfl, rfl, rfl⟩
    · exact ⟨_, List.mem_of_getElem? (i := 2) rfl, rfl, rfl⟩
    · exact ⟨_, List.mem_of_getElem? (i := 3) rfl, rfl, rfl⟩) (by
      simp only [Value.okWide, Try.underlying23, Try.underlying22] at hval
      obtain ⟨cs, rfl, _, _⟩ := hval
      exact ⟨cs, rfl⟩) hd
  match zs, h1, h2 with
  | [a, b, c, d], _, h2 => exact ⟨a, b, c, d, rfl, h2 a (by simp), h2 b (by simp), h2 c (by simp), h2 d (by simp)⟩
theorem open_ms (hval : Value.okWide Try.prog W r b1 24 v) (hd : DataW.Trod enc0 Try.prog W 0 (fun _ => true) true 24 v d ps) (hlt : ∀ p ∈ ps, p.block < W.heap.size) (hw : ∀ q ∈ d.weights Try.prog 24, q ≤ reachBytes) :
    ∃ ao n cap ms, v = .slice ao n cap ∧ Reads (oldA W) 1 (.slice ao n cap) n (is ms) ∧ (∀ m ∈ ms, I64 m) ∧ n * 8 ≤ 140737488351232 := by
  obtain ⟨ao, n, cap, zs, e, h1, h2, h3, h4⟩ := open_irow Try.underlying24 c3 b3 Try.underlying3 hval hd hlt hw
  exact ⟨ao, n, cap, zs, e, h1, h3, h4⟩
theorem open_ops (hval : Value.okWide Try.prog W r b1 45 v) (hd : DataW.Trod enc0 Try.prog W 0 (fun _ => true) true 45 v d ps) (hlt : ∀ p ∈ ps, p.block < W.heap.size) (hw : ∀ q ∈ d.weights Try.prog 45, q ≤ reachBytes) :
    ∃ ao n cap zs, v = .slice ao n cap ∧ Reads (oldA W) 3 (.slice ao n cap) n (is zs) ∧ zs.length = n * 3 ∧ (∀ z ∈ zs, I64 z) ∧ n * 24 ≤ 140737488351232 := by
  obtain ⟨ao, n, cap, zs, e, h1, h2, h3, h4⟩ := open_irows Try.underlying45 c50 b50 (by omega) (fun fuel cs x hx => trod_ints Try.underlying50 Try.underlying3 c3 c50 (fun i hi => by
    rcases (by omega : i = 0 ∨ i = 1 ∨ i = 2) with rfl | rfl | rfl
    · exact ⟨_, List.mem_of_getElem? (i := 0) rfl, rfl, rfl⟩
    · exact ⟨_, List.mem_of_getElem? (i := 1) rfl, rfl, rfl⟩
    · exact ⟨_, List.mem_of_getElem? (i := 2) rfl, rfl, rfl⟩) hx) hval hd hlt hw
  exact ⟨ao, n, cap, zs, e, h1, h2, h3, h4⟩
end

theorem order_walk (d lo hi cp : Int) (hlo : I64 lo) (hhi : I64 hi) (ms : List Int) (hms : ∀ m ∈ ms, I64 m) (C : Asn) (ao : Option Addr) (n cap : Nat) (hR : Reads C 1 (.slice ao n cap) n (is ms)) (hn9 : n ≤ 140737488351232) (w : World) (L : List Asn) (h : Hold w (C :: L)) :
    Calls Try.prog 3 #[.agg #[.int .i64 d, .int .i64 lo, .int .i64 hi, .int .i64 cp], .slice ao n cap] w fun e w' => e = .returned (.bool true) ∧ Hold w' (C :: L) := by
  by_cases hbad : (d < 1 ∨ 65536 < d) ∨ (hi < lo ∨ cp < 1 ∨ 65536 < cp) ∨ 65536 ≤ hi / d - lo / d
  · exact order_bad d lo hi cp hlo hhi hbad _ w _ h
  · exact order_good d lo hi cp (by omega) (by omega) hlo hhi (by omega) (by omega) (by omega) (by omega) ms hms C ao n cap hR hn9 w L h

end Go.Proofs.Ytpffofliemooiaa
