/-
  No cell of these rows narrows 'for every input' (looked for: loops, veiled, ifaces, maps, wideKeys, modest, calm, conditions, laid).
  DERIVED. THE GIVEN ROWS OF THIS SEAT. 8 by the template 'for every input the law returns true; each argument reads behind the call as it read before'; 0 by the template 'total and deterministic' (their statements: YtibmokkalloabaaTotals.lean).
  GIVEN WITH THE SEED: the statements are not yours to turn. If you find one false, say at which input.
  Laid BY PROGRAM, IN A SANDBOX (cutbox-rows.mjs): the forced cells as the released guide's own fill.sh prints them over the translation 00bd4b724686eaed… (all of the seat's roots in one cut). By AI agents, Wed Nov 11 2026. No macro, syntax, notation, axiom, sorry.
-/
import Derived.Test.YtibmokkalloabaaChecked
import GoSem.Claim
import GoSem.ClaimJoined
import GoSem.ClaimMapViews
import Derived.JoinedTies
import Derived.KernelRfl
namespace Go.Proofs.Ytibmokkalloabaa
/- THE CELL 'sum', in the pinned program and in every row, IS THE sha256 OF THE DUMP (.gsa) THAT YtibmokkalloabaaProg.lean LOADS. Nothing in Lean hashes anything: it is a label: what it is worth is what the hold of that sum in a sandbox is worth. -/
noncomputable def Try.pinned : Pinned := { name := "ytibmokkalloabaa", sum := "00bd4b724686eaed509621358b4813ea02c364d256b1cb21f16339b15e953221", checked := Try.checked }
namespace Rows
def none {H : Type} : Left H := { results := [], args := [] }

/-- 'outpostlaw22.MarkerNamed': WHATEVER THE INPUT: true; the input reads as it did. -/
def markerNamedSpec : ChangeSpec := { name := "markerNamed", fn := fun _ => fun
  | [d] => { results := [.lit (.bool true)], args := [d] }
  | _ => none }
def markerNamedRow : OpenClaim := { program := "ytibmokkalloabaa", sum := "00bd4b724686eaed509621358b4813ea02c364d256b1cb21f16339b15e953221", func := "outpost/outpostlaw22.MarkerNamed", spec := "markerNamed", unfollowed := true, recurses := true, apart := false }
def MarkerNamedSaid : Prop := markerNamedRow.holds Try.pinned (OpenSpec.ofChange markerNamedSpec)

/-- ITS FALSE NEIGHBOUR: 'it returns false'. Refute it at one input. -/
def markerNamedWrong : ChangeSpec := { name := "markerNamed", fn := fun _ => fun
  | [d] => { results := [.lit (.bool false)], args := [d] }
  | _ => none }
def MarkerNamedWrongFalsely : Prop := markerNamedRow.holds Try.pinned (OpenSpec.ofChange markerNamedWrong)

/-- 'outpostlaw22.MarkerWorths': WHATEVER THE INPUT: true; the input reads as it did. -/
def markerWorthsSpec : ChangeSpec := { name := "markerWorths", fn := fun _ => fun
  | [d1, d2, d3] => { results := [.lit (.bool true)], args := [d1, d2, d3] }
  | _ => none }
def markerWorthsRow : OpenClaim := { program := "ytibmokkalloabaa", sum := "00bd4b724686eaed509621358b4813ea02c364d256b1cb21f16339b15e953221", func := "outpost/outpostlaw22.MarkerWorths", spec := "markerWorths", unfollowed := true, recurses := true, apart := false }
def MarkerWorthsSaid : Prop := markerWorthsRow.holds Try.pinned (OpenSpec.ofChange markerWorthsSpec)

/-- ITS FALSE NEIGHBOUR: 'it returns false'. Refute it at one input. -/
def markerWorthsWrong : ChangeSpec := { name := "markerWorths", fn := fun _ => fun
  | [d1, d2, d3] => { results := [.lit (.bool false)], args := [d1, d2, d3] }
  | _ => none }
def MarkerWorthsWrongFalsely : Prop := markerWorthsRow.holds Try.pinned (OpenSpec.ofChange markerWorthsWrong)

/-- 'outpostlaw22.MarkerClear': WHATEVER THE INPUT: true; the input reads as it did. -/
def markerClearSpec : ChangeSpec := { name := "markerClear", fn := fun _ => fun
  | [d1, d2, d3] => { results := [.lit (.bool true)], args := [d1, d2, d3] }
  | _ => none }
def markerClearRow : OpenClaim := { program := "ytibmokkalloabaa", sum := "00bd4b724686eaed509621358b4813ea02c364d256b1cb21f16339b15e953221", func := "outpost/outpostlaw22.MarkerClear", spec := "markerClear", unfollowed := true, recurses := true, apart := false }
def MarkerClearSaid : Prop := markerClearRow.holds Try.pinned (OpenSpec.ofChange markerClearSpec)

/-- ITS FALSE NEIGHBOUR: 'it returns false'. Refute it at one input. -/
def markerClearWrong : ChangeSpec := { name := "markerClear", fn := fun _ => fun
  | [d1, d2, d3] => { results := [.lit (.bool false)], args := [d1, d2, d3] }
  | _ => none }
def MarkerClearWrongFalsely : Prop := markerClearRow.holds Try.pinned (OpenSpec.ofChange markerClearWrong)

/-- 'outpostlaw22.MarkerOne': WHATEVER THE INPUT: true; the input reads as it did. -/
def markerOneSpec : ChangeSpec := { name := "markerOne", fn := fun _ => fun
  | [d1, d2, d3] => { results := [.lit (.bool true)], args := [d1, d2, d3] }
  | _ => none }
def markerOneRow : OpenClaim := { program := "ytibmokkalloabaa", sum := "00bd4b724686eaed509621358b4813ea02c364d256b1cb21f16339b15e953221", func := "outpost/outpostlaw22.MarkerOne", spec := "markerOne", unfollowed := true, recurses := true, apart := false }
def MarkerOneSaid : Prop := markerOneRow.holds Try.pinned (OpenSpec.ofChange markerOneSpec)

/-- ITS FALSE NEIGHBOUR: 'it returns false'. Refute it at one input. -/
def markerOneWrong : ChangeSpec := { name := "markerOne", fn := fun _ => fun
  | [d1, d2, d3] => { results := [.lit (.bool false)], args := [d1, d2, d3] }
  | _ => none }
def MarkerOneWrongFalsely : Prop := markerOneRow.holds Try.pinned (OpenSpec.ofChange markerOneWrong)

/-- 'outpostlaw22.MarkerTells': WHATEVER THE INPUT: true; the input reads as it did. -/
def markerTellsSpec : ChangeSpec := { name := "markerTells", fn := fun _ => fun
  | [d] => { results := [.lit (.bool true)], args := [d] }
  | _ => none }
def markerTellsRow : OpenClaim := { program := "ytibmokkalloabaa", sum := "00bd4b724686eaed509621358b4813ea02c364d256b1cb21f16339b15e953221", func := "outpost/outpostlaw22.MarkerTells", spec := "markerTells", unfollowed := true, recurses := true, apart := false }
def MarkerTellsSaid : Prop := markerTellsRow.holds Try.pinned (OpenSpec.ofChange markerTellsSpec)

/-- ITS FALSE NEIGHBOUR: 'it returns false'. Refute it at one input. -/
def markerTellsWrong : ChangeSpec := { name := "markerTells", fn := fun _ => fun
  | [d] => { results := [.lit (.bool false)], args := [d] }
  | _ => none }
def MarkerTellsWrongFalsely : Prop := markerTellsRow.holds Try.pinned (OpenSpec.ofChange markerTellsWrong)

/-- 'outpostlaw22.MarkerFinds': WHATEVER THE INPUT: true; the input reads as it did. -/
def markerFindsSpec : ChangeSpec := { name := "markerFinds", fn := fun _ => fun
  | [d] => { results := [.lit (.bool true)], args := [d] }
  | _ => none }
def markerFindsRow : OpenClaim := { program := "ytibmokkalloabaa", sum := "00bd4b724686eaed509621358b4813ea02c364d256b1cb21f16339b15e953221", func := "outpost/outpostlaw22.MarkerFinds", spec := "markerFinds", unfollowed := true, recurses := true, apart := false }
def MarkerFindsSaid : Prop := markerFindsRow.holds Try.pinned (OpenSpec.ofChange markerFindsSpec)

/-- ITS FALSE NEIGHBOUR: 'it returns false'. Refute it at one input. -/
def markerFindsWrong : ChangeSpec := { name := "markerFinds", fn := fun _ => fun
  | [d] => { results := [.lit (.bool false)], args := [d] }
  | _ => none }
def MarkerFindsWrongFalsely : Prop := markerFindsRow.holds Try.pinned (OpenSpec.ofChange markerFindsWrong)

/-- 'outpostlaw22.MarkerBest': WHATEVER THE INPUT: true; the input reads as it did. -/
def markerBestSpec : ChangeSpec := { name := "markerBest", fn := fun _ => fun
  | [d1, d2] => { results := [.lit (.bool true)], args := [d1, d2] }
  | _ => none }
def markerBestRow : OpenClaim := { program := "ytibmokkalloabaa", sum := "00bd4b724686eaed509621358b4813ea02c364d256b1cb21f16339b15e953221", func := "outpost/outpostlaw22.MarkerBest", spec := "markerBest", unfollowed := true, recurses := true, apart := false }
def MarkerBestSaid : Prop := markerBestRow.holds Try.pinned (OpenSpec.ofChange markerBestSpec)

/-- ITS FALSE NEIGHBOUR: 'it returns false'. Refute it at one input. -/
def markerBestWrong : ChangeSpec := { name := "markerBest", fn := fun _ => fun
  | [d1, d2] => { results := [.lit (.bool false)], args := [d1, d2] }
  | _ => none }
def MarkerBestWrongFalsely : Prop := markerBestRow.holds Try.pinned (OpenSpec.ofChange markerBestWrong)

/-- 'outpostlaw22.MarkerBarker': WHATEVER THE INPUT: true; the input reads as it did. -/
def markerBarkerSpec : ChangeSpec := { name := "markerBarker", fn := fun _ => fun
  | [] => { results := [.lit (.bool true)], args := [] }
  | _ => none }
def markerBarkerRow : OpenClaim := { program := "ytibmokkalloabaa", sum := "00bd4b724686eaed509621358b4813ea02c364d256b1cb21f16339b15e953221", func := "outpost/outpostlaw22.MarkerBarker", spec := "markerBarker", unfollowed := true, recurses := true, apart := false }
def MarkerBarkerSaid : Prop := markerBarkerRow.holds Try.pinned (OpenSpec.ofChange markerBarkerSpec)

/-- ITS FALSE NEIGHBOUR: 'it returns false'. Refute it at one input. -/
def markerBarkerWrong : ChangeSpec := { name := "markerBarker", fn := fun _ => fun
  | [] => { results := [.lit (.bool false)], args := [] }
  | _ => none }
def MarkerBarkerWrongFalsely : Prop := markerBarkerRow.holds Try.pinned (OpenSpec.ofChange markerBarkerWrong)

/- THE SECOND FORM. 'bulk': how many values and letters a reading holds, each counted each time it is reached (what is shared counts as often as it is met; a slice's spare places count too). A statement '..UptoSaid' is the law's where the arguments, and the package variables that the reading takes, are together of bulk at most 1048576: NARROWER than '..Said'. Prove '..Said' where nothing that the law and all that it calls make is longer than what came in: it says more and counts as full. Else prove '..UptoSaid'. A law counts once. -/
mutual
def uptoBulk {H : Type} : DataW H → Nat
  | .lit (.string bytes) => bytes.length + 1
  | .lit _ => 1
  | .nil => 1
  | .ptr d => uptoBulk d + 1
  | .slice elems spare => uptoBulkAll elems + uptoBulkAll spare + 1
  | .agg parts => uptoBulkAll parts + 1
  | .iface _ d => uptoBulk d + 1
  | .map entries => uptoBulkEntries entries + 1
  | .held _ => 1
def uptoBulkAll {H : Type} : List (DataW H) → Nat
  | [] => 0
  | d :: r => uptoBulk d + uptoBulkAll r
def uptoBulkEntries {H : Type} : List (Lit × DataW H) → Nat
  | [] => 0
  | x :: r => uptoBulkEntry x + uptoBulkEntries r
def uptoBulkEntry {H : Type} : Lit × DataW H → Nat
  | (.string bytes, d) => bytes.length + uptoBulk d + 1
  | (_, d) => uptoBulk d + 1
 end
def uptoSmall : (H : Type) → List (DataW H) → Bool := fun _ ds => decide (uptoBulkAll ds ≤ 1048576)
def OpenSpec.upto (s : _root_.Go.ChangeSpec) : _root_.Go.OpenSpec := { _root_.Go.OpenSpec.ofChange s with cond := some uptoSmall }

/-- 'outpostlaw22.MarkerNamed', WHERE WHAT IT READS IS OF BULK AT MOST 1048576: true; the input reads as it did. -/
def markerNamedUptoRow : OpenClaim := { program := "ytibmokkalloabaa", sum := "00bd4b724686eaed509621358b4813ea02c364d256b1cb21f16339b15e953221", func := "outpost/outpostlaw22.MarkerNamed", spec := "markerNamed", unfollowed := true, recurses := true, apart := false, narrowed := true }
def MarkerNamedUptoSaid : Prop := markerNamedUptoRow.holds Try.pinned (OpenSpec.upto markerNamedSpec)

/-- 'outpostlaw22.MarkerWorths', WHERE WHAT IT READS IS OF BULK AT MOST 1048576: true; the input reads as it did. -/
def markerWorthsUptoRow : OpenClaim := { program := "ytibmokkalloabaa", sum := "00bd4b724686eaed509621358b4813ea02c364d256b1cb21f16339b15e953221", func := "outpost/outpostlaw22.MarkerWorths", spec := "markerWorths", unfollowed := true, recurses := true, apart := false, narrowed := true }
def MarkerWorthsUptoSaid : Prop := markerWorthsUptoRow.holds Try.pinned (OpenSpec.upto markerWorthsSpec)

/-- 'outpostlaw22.MarkerClear', WHERE WHAT IT READS IS OF BULK AT MOST 1048576: true; the input reads as it did. -/
def markerClearUptoRow : OpenClaim := { program := "ytibmokkalloabaa", sum := "00bd4b724686eaed509621358b4813ea02c364d256b1cb21f16339b15e953221", func := "outpost/outpostlaw22.MarkerClear", spec := "markerClear", unfollowed := true, recurses := true, apart := false, narrowed := true }
def MarkerClearUptoSaid : Prop := markerClearUptoRow.holds Try.pinned (OpenSpec.upto markerClearSpec)

/-- 'outpostlaw22.MarkerOne', WHERE WHAT IT READS IS OF BULK AT MOST 1048576: true; the input reads as it did. -/
def markerOneUptoRow : OpenClaim := { program := "ytibmokkalloabaa", sum := "00bd4b724686eaed509621358b4813ea02c364d256b1cb21f16339b15e953221", func := "outpost/outpostlaw22.MarkerOne", spec := "markerOne", unfollowed := true, recurses := true, apart := false, narrowed := true }
def MarkerOneUptoSaid : Prop := markerOneUptoRow.holds Try.pinned (OpenSpec.upto markerOneSpec)

/-- 'outpostlaw22.MarkerTells', WHERE WHAT IT READS IS OF BULK AT MOST 1048576: true; the input reads as it did. -/
def markerTellsUptoRow : OpenClaim := { program := "ytibmokkalloabaa", sum := "00bd4b724686eaed509621358b4813ea02c364d256b1cb21f16339b15e953221", func := "outpost/outpostlaw22.MarkerTells", spec := "markerTells", unfollowed := true, recurses := true, apart := false, narrowed := true }
def MarkerTellsUptoSaid : Prop := markerTellsUptoRow.holds Try.pinned (OpenSpec.upto markerTellsSpec)

/-- 'outpostlaw22.MarkerFinds', WHERE WHAT IT READS IS OF BULK AT MOST 1048576: true; the input reads as it did. -/
def markerFindsUptoRow : OpenClaim := { program := "ytibmokkalloabaa", sum := "00bd4b724686eaed509621358b4813ea02c364d256b1cb21f16339b15e953221", func := "outpost/outpostlaw22.MarkerFinds", spec := "markerFinds", unfollowed := true, recurses := true, apart := false, narrowed := true }
def MarkerFindsUptoSaid : Prop := markerFindsUptoRow.holds Try.pinned (OpenSpec.upto markerFindsSpec)

/-- 'outpostlaw22.MarkerBest', WHERE WHAT IT READS IS OF BULK AT MOST 1048576: true; the input reads as it did. -/
def markerBestUptoRow : OpenClaim := { program := "ytibmokkalloabaa", sum := "00bd4b724686eaed509621358b4813ea02c364d256b1cb21f16339b15e953221", func := "outpost/outpostlaw22.MarkerBest", spec := "markerBest", unfollowed := true, recurses := true, apart := false, narrowed := true }
def MarkerBestUptoSaid : Prop := markerBestUptoRow.holds Try.pinned (OpenSpec.upto markerBestSpec)

/-- 'outpostlaw22.MarkerBarker', WHERE WHAT IT READS IS OF BULK AT MOST 1048576: true; the input reads as it did. -/
def markerBarkerUptoRow : OpenClaim := { program := "ytibmokkalloabaa", sum := "00bd4b724686eaed509621358b4813ea02c364d256b1cb21f16339b15e953221", func := "outpost/outpostlaw22.MarkerBarker", spec := "markerBarker", unfollowed := true, recurses := true, apart := false, narrowed := true }
def MarkerBarkerUptoSaid : Prop := markerBarkerUptoRow.holds Try.pinned (OpenSpec.upto markerBarkerSpec)

end Rows
end Go.Proofs.Ytibmokkalloabaa
