/-
  No cell of these rows narrows 'for every input' (looked for: loops, veiled, ifaces, maps, wideKeys, modest, calm, conditions, laid).
  DERIVED. THE GIVEN ROWS OF THIS SEAT. 9 by the template 'for every input the law returns true; each argument reads behind the call as it read before'; 0 by the template 'total and deterministic' (their statements: YtklokbmpapjjiaaTotals.lean).
  GIVEN WITH THE SEED: the statements are not yours to turn. If you find one false, say at which input.
  Laid BY PROGRAM, IN A SANDBOX (cutbox-rows.mjs): the forced cells as the released guide's own fill.sh prints them over the translation 649df0fd88a0e7d6… (all of the seat's roots in one cut). By AI agents, Wed Nov 11 2026. No macro, syntax, notation, axiom, sorry.
-/
import Derived.Test.YtklokbmpapjjiaaChecked
import GoSem.Claim
import GoSem.ClaimJoined
import GoSem.ClaimMapViews
import Derived.JoinedTies
import Derived.KernelRfl
namespace Go.Proofs.Ytklokbmpapjjiaa
/- THE CELL 'sum', in the pinned program and in every row, IS THE sha256 OF THE DUMP (.gsa) THAT YtklokbmpapjjiaaProg.lean LOADS. Nothing in Lean hashes anything: it is a label: what it is worth is what the hold of that sum in a sandbox is worth. -/
noncomputable def Try.pinned : Pinned := { name := "ytklokbmpapjjiaa", sum := "649df0fd88a0e7d64103b0b19bd0cb441f81075741244f9482db8d094e04f2b2", checked := Try.checked }
namespace Rows
def none {H : Type} : Left H := { results := [], args := [] }

/-- 'outpostlaw09.StatsLooks': WHATEVER THE INPUT: true; the input reads as it did. -/
def statsLooksSpec : ChangeSpec := { name := "statsLooks", fn := fun _ => fun
  | [d] => { results := [.lit (.bool true)], args := [d] }
  | _ => none }
def statsLooksRow : OpenClaim := { program := "ytklokbmpapjjiaa", sum := "649df0fd88a0e7d64103b0b19bd0cb441f81075741244f9482db8d094e04f2b2", func := "outpost/outpostlaw09.StatsLooks", spec := "statsLooks", apart := false }
def StatsLooksSaid : Prop := statsLooksRow.holds Try.pinned (OpenSpec.ofChange statsLooksSpec)

/-- ITS FALSE NEIGHBOUR: 'it returns false'. Refute it at one input. -/
def statsLooksWrong : ChangeSpec := { name := "statsLooks", fn := fun _ => fun
  | [d] => { results := [.lit (.bool false)], args := [d] }
  | _ => none }
def StatsLooksWrongFalsely : Prop := statsLooksRow.holds Try.pinned (OpenSpec.ofChange statsLooksWrong)

/-- 'outpostlaw09.StatsMakes': WHATEVER THE INPUT: true; the input reads as it did. -/
def statsMakesSpec : ChangeSpec := { name := "statsMakes", fn := fun _ => fun
  | [d1, d2, d3, d4] => { results := [.lit (.bool true)], args := [d1, d2, d3, d4] }
  | _ => none }
def statsMakesRow : OpenClaim := { program := "ytklokbmpapjjiaa", sum := "649df0fd88a0e7d64103b0b19bd0cb441f81075741244f9482db8d094e04f2b2", func := "outpost/outpostlaw09.StatsMakes", spec := "statsMakes", apart := false }
def StatsMakesSaid : Prop := statsMakesRow.holds Try.pinned (OpenSpec.ofChange statsMakesSpec)

/-- ITS FALSE NEIGHBOUR: 'it returns false'. Refute it at one input. -/
def statsMakesWrong : ChangeSpec := { name := "statsMakes", fn := fun _ => fun
  | [d1, d2, d3, d4] => { results := [.lit (.bool false)], args := [d1, d2, d3, d4] }
  | _ => none }
def StatsMakesWrongFalsely : Prop := statsMakesRow.holds Try.pinned (OpenSpec.ofChange statsMakesWrong)

/-- 'outpostlaw09.StatsSums': WHATEVER THE INPUT: true; the input reads as it did. -/
def statsSumsSpec : ChangeSpec := { name := "statsSums", fn := fun _ => fun
  | [d1, d2] => { results := [.lit (.bool true)], args := [d1, d2] }
  | _ => none }
def statsSumsRow : OpenClaim := { program := "ytklokbmpapjjiaa", sum := "649df0fd88a0e7d64103b0b19bd0cb441f81075741244f9482db8d094e04f2b2", func := "outpost/outpostlaw09.StatsSums", spec := "statsSums", apart := false }
def StatsSumsSaid : Prop := statsSumsRow.holds Try.pinned (OpenSpec.ofChange statsSumsSpec)

/-- ITS FALSE NEIGHBOUR: 'it returns false'. Refute it at one input. -/
def statsSumsWrong : ChangeSpec := { name := "statsSums", fn := fun _ => fun
  | [d1, d2] => { results := [.lit (.bool false)], args := [d1, d2] }
  | _ => none }
def StatsSumsWrongFalsely : Prop := statsSumsRow.holds Try.pinned (OpenSpec.ofChange statsSumsWrong)

/-- 'outpostlaw09.StatsCounted': WHATEVER THE INPUT: true; the input reads as it did. -/
def statsCountedSpec : ChangeSpec := { name := "statsCounted", fn := fun _ => fun
  | [d1, d2] => { results := [.lit (.bool true)], args := [d1, d2] }
  | _ => none }
def statsCountedRow : OpenClaim := { program := "ytklokbmpapjjiaa", sum := "649df0fd88a0e7d64103b0b19bd0cb441f81075741244f9482db8d094e04f2b2", func := "outpost/outpostlaw09.StatsCounted", spec := "statsCounted", apart := false }
def StatsCountedSaid : Prop := statsCountedRow.holds Try.pinned (OpenSpec.ofChange statsCountedSpec)

/-- ITS FALSE NEIGHBOUR: 'it returns false'. Refute it at one input. -/
def statsCountedWrong : ChangeSpec := { name := "statsCounted", fn := fun _ => fun
  | [d1, d2] => { results := [.lit (.bool false)], args := [d1, d2] }
  | _ => none }
def StatsCountedWrongFalsely : Prop := statsCountedRow.holds Try.pinned (OpenSpec.ofChange statsCountedWrong)

/-- 'outpostlaw09.StatsMirror': WHATEVER THE INPUT: true; the input reads as it did. -/
def statsMirrorSpec : ChangeSpec := { name := "statsMirror", fn := fun _ => fun
  | [d] => { results := [.lit (.bool true)], args := [d] }
  | _ => none }
def statsMirrorRow : OpenClaim := { program := "ytklokbmpapjjiaa", sum := "649df0fd88a0e7d64103b0b19bd0cb441f81075741244f9482db8d094e04f2b2", func := "outpost/outpostlaw09.StatsMirror", spec := "statsMirror", apart := false }
def StatsMirrorSaid : Prop := statsMirrorRow.holds Try.pinned (OpenSpec.ofChange statsMirrorSpec)

/-- ITS FALSE NEIGHBOUR: 'it returns false'. Refute it at one input. -/
def statsMirrorWrong : ChangeSpec := { name := "statsMirror", fn := fun _ => fun
  | [d] => { results := [.lit (.bool false)], args := [d] }
  | _ => none }
def StatsMirrorWrongFalsely : Prop := statsMirrorRow.holds Try.pinned (OpenSpec.ofChange statsMirrorWrong)

/-- 'outpostlaw09.StatsRises': WHATEVER THE INPUT: true; the input reads as it did. -/
def statsRisesSpec : ChangeSpec := { name := "statsRises", fn := fun _ => fun
  | [d1, d2, d3] => { results := [.lit (.bool true)], args := [d1, d2, d3] }
  | _ => none }
def statsRisesRow : OpenClaim := { program := "ytklokbmpapjjiaa", sum := "649df0fd88a0e7d64103b0b19bd0cb441f81075741244f9482db8d094e04f2b2", func := "outpost/outpostlaw09.StatsRises", spec := "statsRises", unfollowed := true, recurses := true, apart := false }
def StatsRisesSaid : Prop := statsRisesRow.holds Try.pinned (OpenSpec.ofChange statsRisesSpec)

/-- ITS FALSE NEIGHBOUR: 'it returns false'. Refute it at one input. -/
def statsRisesWrong : ChangeSpec := { name := "statsRises", fn := fun _ => fun
  | [d1, d2, d3] => { results := [.lit (.bool false)], args := [d1, d2, d3] }
  | _ => none }
def StatsRisesWrongFalsely : Prop := statsRisesRow.holds Try.pinned (OpenSpec.ofChange statsRisesWrong)

/-- 'outpostlaw09.StatsCounts': WHATEVER THE INPUT: true; the input reads as it did. -/
def statsCountsSpec : ChangeSpec := { name := "statsCounts", fn := fun _ => fun
  | [d1, d2, d3] => { results := [.lit (.bool true)], args := [d1, d2, d3] }
  | _ => none }
def statsCountsRow : OpenClaim := { program := "ytklokbmpapjjiaa", sum := "649df0fd88a0e7d64103b0b19bd0cb441f81075741244f9482db8d094e04f2b2", func := "outpost/outpostlaw09.StatsCounts", spec := "statsCounts", apart := false }
def StatsCountsSaid : Prop := statsCountsRow.holds Try.pinned (OpenSpec.ofChange statsCountsSpec)

/-- ITS FALSE NEIGHBOUR: 'it returns false'. Refute it at one input. -/
def statsCountsWrong : ChangeSpec := { name := "statsCounts", fn := fun _ => fun
  | [d1, d2, d3] => { results := [.lit (.bool false)], args := [d1, d2, d3] }
  | _ => none }
def StatsCountsWrongFalsely : Prop := statsCountsRow.holds Try.pinned (OpenSpec.ofChange statsCountsWrong)

/-- 'outpostlaw09.StatsSteps': WHATEVER THE INPUT: true; the input reads as it did. -/
def statsStepsSpec : ChangeSpec := { name := "statsSteps", fn := fun _ => fun
  | [d1, d2] => { results := [.lit (.bool true)], args := [d1, d2] }
  | _ => none }
def statsStepsRow : OpenClaim := { program := "ytklokbmpapjjiaa", sum := "649df0fd88a0e7d64103b0b19bd0cb441f81075741244f9482db8d094e04f2b2", func := "outpost/outpostlaw09.StatsSteps", spec := "statsSteps", unfollowed := true, recurses := true, apart := false }
def StatsStepsSaid : Prop := statsStepsRow.holds Try.pinned (OpenSpec.ofChange statsStepsSpec)

/-- ITS FALSE NEIGHBOUR: 'it returns false'. Refute it at one input. -/
def statsStepsWrong : ChangeSpec := { name := "statsSteps", fn := fun _ => fun
  | [d1, d2] => { results := [.lit (.bool false)], args := [d1, d2] }
  | _ => none }
def StatsStepsWrongFalsely : Prop := statsStepsRow.holds Try.pinned (OpenSpec.ofChange statsStepsWrong)

/-- 'outpostlaw09.StatsNil': WHATEVER THE INPUT: true; the input reads as it did. -/
def statsNilSpec : ChangeSpec := { name := "statsNil", fn := fun _ => fun
  | [d1, d2] => { results := [.lit (.bool true)], args := [d1, d2] }
  | _ => none }
def statsNilRow : OpenClaim := { program := "ytklokbmpapjjiaa", sum := "649df0fd88a0e7d64103b0b19bd0cb441f81075741244f9482db8d094e04f2b2", func := "outpost/outpostlaw09.StatsNil", spec := "statsNil", unfollowed := true, recurses := true, apart := false }
def StatsNilSaid : Prop := statsNilRow.holds Try.pinned (OpenSpec.ofChange statsNilSpec)

/-- ITS FALSE NEIGHBOUR: 'it returns false'. Refute it at one input. -/
def statsNilWrong : ChangeSpec := { name := "statsNil", fn := fun _ => fun
  | [d1, d2] => { results := [.lit (.bool false)], args := [d1, d2] }
  | _ => none }
def StatsNilWrongFalsely : Prop := statsNilRow.holds Try.pinned (OpenSpec.ofChange statsNilWrong)

/- THE SECOND FORM. 'bulk': how many values and letters a reading holds, each counted each time it is reached (what is shared counts as often as it is met; a slice's spare places count too). A statement '..UptoSaid' is the law's where the arguments, and the package variables that the reading takes, are together of bulk at most 1048576: NARROWER than '..Said'. Prove '..Said' where nothing that the law and all that it calls make is longer than what came in: it says more and counts as full. Else prove '..UptoSaid'. A law counts once. -/
mutual
def uptoBulk {H : Type} : DataW H → Nat
  | .lit (.string bytes) => bytes.length + 1
  | .lit _ => 1
  | .nil => 1
  | .ptr d => uptoBulk d + 1
  | .slice elems spare => uptoBulkAll elems + uptoBulkAll spare + 1
  | .agg parts => uptoBulkAll parts + 1
  | .iface _ d => uptoBulk d + 1
  | .map entries => uptoBulkEntries entries + 1
  | .held _ => 1
def uptoBulkAll {H : Type} : List (DataW H) → Nat
  | [] => 0
  | d :: r => uptoBulk d + uptoBulkAll r
def uptoBulkEntries {H : Type} : List (Lit × DataW H) → Nat
  | [] => 0
  | x :: r => uptoBulkEntry x + uptoBulkEntries r
def uptoBulkEntry {H : Type} : Lit × DataW H → Nat
  | (.string bytes, d) => bytes.length + uptoBulk d + 1
  | (_, d) => uptoBulk d + 1
 end
def uptoSmall : (H : Type) → List (DataW H) → Bool := fun _ ds => decide (uptoBulkAll ds ≤ 1048576)
def OpenSpec.upto (s : _root_.Go.ChangeSpec) : _root_.Go.OpenSpec := { _root_.Go.OpenSpec.ofChange s with cond := some uptoSmall }

/-- 'outpostlaw09.StatsLooks', WHERE WHAT IT READS IS OF BULK AT MOST 1048576: true; the input reads as it did. -/
def statsLooksUptoRow : OpenClaim := { program := "ytklokbmpapjjiaa", sum := "649df0fd88a0e7d64103b0b19bd0cb441f81075741244f9482db8d094e04f2b2", func := "outpost/outpostlaw09.StatsLooks", spec := "statsLooks", apart := false, narrowed := true }
def StatsLooksUptoSaid : Prop := statsLooksUptoRow.holds Try.pinned (OpenSpec.upto statsLooksSpec)

/-- 'outpostlaw09.StatsMakes', WHERE WHAT IT READS IS OF BULK AT MOST 1048576: true; the input reads as it did. -/
def statsMakesUptoRow : OpenClaim := { program := "ytklokbmpapjjiaa", sum := "649df0fd88a0e7d64103b0b19bd0cb441f81075741244f9482db8d094e04f2b2", func := "outpost/outpostlaw09.StatsMakes", spec := "statsMakes", apart := false, narrowed := true }
def StatsMakesUptoSaid : Prop := statsMakesUptoRow.holds Try.pinned (OpenSpec.upto statsMakesSpec)

/-- 'outpostlaw09.StatsSums', WHERE WHAT IT READS IS OF BULK AT MOST 1048576: true; the input reads as it did. -/
def statsSumsUptoRow : OpenClaim := { program := "ytklokbmpapjjiaa", sum := "649df0fd88a0e7d64103b0b19bd0cb441f81075741244f9482db8d094e04f2b2", func := "outpost/outpostlaw09.StatsSums", spec := "statsSums", apart := false, narrowed := true }
def StatsSumsUptoSaid : Prop := statsSumsUptoRow.holds Try.pinned (OpenSpec.upto statsSumsSpec)

/-- 'outpostlaw09.StatsCounted', WHERE WHAT IT READS IS OF BULK AT MOST 1048576: true; the input reads as it did. -/
def statsCountedUptoRow : OpenClaim := { program := "ytklokbmpapjjiaa", sum := "649df0fd88a0e7d64103b0b19bd0cb441f81075741244f9482db8d094e04f2b2", func := "outpost/outpostlaw09.StatsCounted", spec := "statsCounted", apart := false, narrowed := true }
def StatsCountedUptoSaid : Prop := statsCountedUptoRow.holds Try.pinned (OpenSpec.upto statsCountedSpec)

/-- 'outpostlaw09.StatsMirror', WHERE WHAT IT READS IS OF BULK AT MOST 1048576: true; the input reads as it did. -/
def statsMirrorUptoRow : OpenClaim := { program := "ytklokbmpapjjiaa", sum := "649df0fd88a0e7d64103b0b19bd0cb441f81075741244f9482db8d094e04f2b2", func := "outpost/outpostlaw09.StatsMirror", spec := "statsMirror", apart := false, narrowed := true }
def StatsMirrorUptoSaid : Prop := statsMirrorUptoRow.holds Try.pinned (OpenSpec.upto statsMirrorSpec)

/-- 'outpostlaw09.StatsRises', WHERE WHAT IT READS IS OF BULK AT MOST 1048576: true; the input reads as it did. -/
def statsRisesUptoRow : OpenClaim := { program := "ytklokbmpapjjiaa", sum := "649df0fd88a0e7d64103b0b19bd0cb441f81075741244f9482db8d094e04f2b2", func := "outpost/outpostlaw09.StatsRises", spec := "statsRises", unfollowed := true, recurses := true, apart := false, narrowed := true }
def StatsRisesUptoSaid : Prop := statsRisesUptoRow.holds Try.pinned (OpenSpec.upto statsRisesSpec)

/-- 'outpostlaw09.StatsCounts', WHERE WHAT IT READS IS OF BULK AT MOST 1048576: true; the input reads as it did. -/
def statsCountsUptoRow : OpenClaim := { program := "ytklokbmpapjjiaa", sum := "649df0fd88a0e7d64103b0b19bd0cb441f81075741244f9482db8d094e04f2b2", func := "outpost/outpostlaw09.StatsCounts", spec := "statsCounts", apart := false, narrowed := true }
def StatsCountsUptoSaid : Prop := statsCountsUptoRow.holds Try.pinned (OpenSpec.upto statsCountsSpec)

/-- 'outpostlaw09.StatsSteps', WHERE WHAT IT READS IS OF BULK AT MOST 1048576: true; the input reads as it did. -/
def statsStepsUptoRow : OpenClaim := { program := "ytklokbmpapjjiaa", sum := "649df0fd88a0e7d64103b0b19bd0cb441f81075741244f9482db8d094e04f2b2", func := "outpost/outpostlaw09.StatsSteps", spec := "statsSteps", unfollowed := true, recurses := true, apart := false, narrowed := true }
def StatsStepsUptoSaid : Prop := statsStepsUptoRow.holds Try.pinned (OpenSpec.upto statsStepsSpec)

/-- 'outpostlaw09.StatsNil', WHERE WHAT IT READS IS OF BULK AT MOST 1048576: true; the input reads as it did. -/
def statsNilUptoRow : OpenClaim := { program := "ytklokbmpapjjiaa", sum := "649df0fd88a0e7d64103b0b19bd0cb441f81075741244f9482db8d094e04f2b2", func := "outpost/outpostlaw09.StatsNil", spec := "statsNil", unfollowed := true, recurses := true, apart := false, narrowed := true }
def StatsNilUptoSaid : Prop := statsNilUptoRow.holds Try.pinned (OpenSpec.upto statsNilSpec)

end Rows
end Go.Proofs.Ytklokbmpapjjiaa
