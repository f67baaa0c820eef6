/-
  No cell of these rows narrows 'for every input' (looked for: loops, veiled, ifaces, maps, wideKeys, modest, calm, conditions, laid).
  DERIVED. THE GIVEN ROWS OF THIS SEAT. 6 by the template 'for every input the law returns true; each argument reads behind the call as it read before'; 0 by the template 'total and deterministic' (their statements: YtpffofliemooiaaTotals.lean).
  GIVEN WITH THE SEED: the statements are not yours to turn. If you find one false, say at which input.
  Laid BY PROGRAM, IN A SANDBOX (cutbox-rows.mjs): the forced cells as the released guide's own fill.sh prints them over the translation ef10b10e95312235… (all of the seat's roots in one cut). By AI agents, Wed Nov 11 2026. No macro, syntax, notation, axiom, sorry.
-/
import Derived.Test.YtpffofliemooiaaChecked
import GoSem.Claim
import GoSem.ClaimJoined
import GoSem.ClaimMapViews
import Derived.JoinedTies
import Derived.KernelRfl
namespace Go.Proofs.Ytpffofliemooiaa
/- THE CELL 'sum', in the pinned program and in every row, IS THE sha256 OF THE DUMP (.gsa) THAT YtpffofliemooiaaProg.lean LOADS. Nothing in Lean hashes anything: it is a label: what it is worth is what the hold of that sum in a sandbox is worth. -/
noncomputable def Try.pinned : Pinned := { name := "ytpffofliemooiaa", sum := "ef10b10e953122355f1205c856179637cc09e43b99cfb0b0dd02a8749b4b46b9", checked := Try.checked }
namespace Rows
def none {H : Type} : Left H := { results := [], args := [] }

/-- 'outpostlaw14.BucketsOrder': WHATEVER THE INPUT: true; the input reads as it did. -/
def bucketsOrderSpec : ChangeSpec := { name := "bucketsOrder", fn := fun _ => fun
  | [d1, d2] => { results := [.lit (.bool true)], args := [d1, d2] }
  | _ => none }
def bucketsOrderRow : OpenClaim := { program := "ytpffofliemooiaa", sum := "ef10b10e953122355f1205c856179637cc09e43b99cfb0b0dd02a8749b4b46b9", func := "outpost/outpostlaw14.BucketsOrder", spec := "bucketsOrder", apart := false }
def BucketsOrderSaid : Prop := bucketsOrderRow.holds Try.pinned (OpenSpec.ofChange bucketsOrderSpec)

/-- ITS FALSE NEIGHBOUR: 'it returns false'. Refute it at one input. -/
def bucketsOrderWrong : ChangeSpec := { name := "bucketsOrder", fn := fun _ => fun
  | [d1, d2] => { results := [.lit (.bool false)], args := [d1, d2] }
  | _ => none }
def BucketsOrderWrongFalsely : Prop := bucketsOrderRow.holds Try.pinned (OpenSpec.ofChange bucketsOrderWrong)

/-- 'outpostlaw14.BucketsIndexes': WHATEVER THE INPUT: true; the input reads as it did. -/
def bucketsIndexesSpec : ChangeSpec := { name := "bucketsIndexes", fn := fun _ => fun
  | [d1, d2] => { results := [.lit (.bool true)], args := [d1, d2] }
  | _ => none }
def bucketsIndexesRow : OpenClaim := { program := "ytpffofliemooiaa", sum := "ef10b10e953122355f1205c856179637cc09e43b99cfb0b0dd02a8749b4b46b9", func := "outpost/outpostlaw14.BucketsIndexes", spec := "bucketsIndexes", apart := false }
def BucketsIndexesSaid : Prop := bucketsIndexesRow.holds Try.pinned (OpenSpec.ofChange bucketsIndexesSpec)

/-- ITS FALSE NEIGHBOUR: 'it returns false'. Refute it at one input. -/
def bucketsIndexesWrong : ChangeSpec := { name := "bucketsIndexes", fn := fun _ => fun
  | [d1, d2] => { results := [.lit (.bool false)], args := [d1, d2] }
  | _ => none }
def BucketsIndexesWrongFalsely : Prop := bucketsIndexesRow.holds Try.pinned (OpenSpec.ofChange bucketsIndexesWrong)

/-- 'outpostlaw14.BucketsFloors': WHATEVER THE INPUT: true; the input reads as it did. -/
def bucketsFloorsSpec : ChangeSpec := { name := "bucketsFloors", fn := fun _ => fun
  | [d1, d2, d3] => { results := [.lit (.bool true)], args := [d1, d2, d3] }
  | _ => none }
def bucketsFloorsRow : OpenClaim := { program := "ytpffofliemooiaa", sum := "ef10b10e953122355f1205c856179637cc09e43b99cfb0b0dd02a8749b4b46b9", func := "outpost/outpostlaw14.BucketsFloors", spec := "bucketsFloors", apart := false }
def BucketsFloorsSaid : Prop := bucketsFloorsRow.holds Try.pinned (OpenSpec.ofChange bucketsFloorsSpec)

/-- ITS FALSE NEIGHBOUR: 'it returns false'. Refute it at one input. -/
def bucketsFloorsWrong : ChangeSpec := { name := "bucketsFloors", fn := fun _ => fun
  | [d1, d2, d3] => { results := [.lit (.bool false)], args := [d1, d2, d3] }
  | _ => none }
def BucketsFloorsWrongFalsely : Prop := bucketsFloorsRow.holds Try.pinned (OpenSpec.ofChange bucketsFloorsWrong)

/-- 'outpostlaw14.BucketsLeft': WHATEVER THE INPUT: true; the input reads as it did. -/
def bucketsLeftSpec : ChangeSpec := { name := "bucketsLeft", fn := fun _ => fun
  | [d1, d2, d3] => { results := [.lit (.bool true)], args := [d1, d2, d3] }
  | _ => none }
def bucketsLeftRow : OpenClaim := { program := "ytpffofliemooiaa", sum := "ef10b10e953122355f1205c856179637cc09e43b99cfb0b0dd02a8749b4b46b9", func := "outpost/outpostlaw14.BucketsLeft", spec := "bucketsLeft", unfollowed := true, recurses := true, apart := false }
def BucketsLeftSaid : Prop := bucketsLeftRow.holds Try.pinned (OpenSpec.ofChange bucketsLeftSpec)

/-- ITS FALSE NEIGHBOUR: 'it returns false'. Refute it at one input. -/
def bucketsLeftWrong : ChangeSpec := { name := "bucketsLeft", fn := fun _ => fun
  | [d1, d2, d3] => { results := [.lit (.bool false)], args := [d1, d2, d3] }
  | _ => none }
def BucketsLeftWrongFalsely : Prop := bucketsLeftRow.holds Try.pinned (OpenSpec.ofChange bucketsLeftWrong)

/-- 'outpostlaw14.BucketsPlays': WHATEVER THE INPUT: true; the input reads as it did. -/
def bucketsPlaysSpec : ChangeSpec := { name := "bucketsPlays", fn := fun _ => fun
  | [d1, d2] => { results := [.lit (.bool true)], args := [d1, d2] }
  | _ => none }
def bucketsPlaysRow : OpenClaim := { program := "ytpffofliemooiaa", sum := "ef10b10e953122355f1205c856179637cc09e43b99cfb0b0dd02a8749b4b46b9", func := "outpost/outpostlaw14.BucketsPlays", spec := "bucketsPlays", unfollowed := true, recurses := true, apart := false }
def BucketsPlaysSaid : Prop := bucketsPlaysRow.holds Try.pinned (OpenSpec.ofChange bucketsPlaysSpec)

/-- ITS FALSE NEIGHBOUR: 'it returns false'. Refute it at one input. -/
def bucketsPlaysWrong : ChangeSpec := { name := "bucketsPlays", fn := fun _ => fun
  | [d1, d2] => { results := [.lit (.bool false)], args := [d1, d2] }
  | _ => none }
def BucketsPlaysWrongFalsely : Prop := bucketsPlaysRow.holds Try.pinned (OpenSpec.ofChange bucketsPlaysWrong)

/-- 'outpostlaw14.BucketsNil': WHATEVER THE INPUT: true; the input reads as it did. -/
def bucketsNilSpec : ChangeSpec := { name := "bucketsNil", fn := fun _ => fun
  | [] => { results := [.lit (.bool true)], args := [] }
  | _ => none }
def bucketsNilRow : OpenClaim := { program := "ytpffofliemooiaa", sum := "ef10b10e953122355f1205c856179637cc09e43b99cfb0b0dd02a8749b4b46b9", func := "outpost/outpostlaw14.BucketsNil", spec := "bucketsNil", unfollowed := true, recurses := true, apart := false }
def BucketsNilSaid : Prop := bucketsNilRow.holds Try.pinned (OpenSpec.ofChange bucketsNilSpec)

/-- ITS FALSE NEIGHBOUR: 'it returns false'. Refute it at one input. -/
def bucketsNilWrong : ChangeSpec := { name := "bucketsNil", fn := fun _ => fun
  | [] => { results := [.lit (.bool false)], args := [] }
  | _ => none }
def BucketsNilWrongFalsely : Prop := bucketsNilRow.holds Try.pinned (OpenSpec.ofChange bucketsNilWrong)

/- THE SECOND FORM. 'bulk': how many values and letters a reading holds, each counted each time it is reached (what is shared counts as often as it is met; a slice's spare places count too). A statement '..UptoSaid' is the law's where the arguments, and the package variables that the reading takes, are together of bulk at most 1048576: NARROWER than '..Said'. Prove '..Said' where nothing that the law and all that it calls make is longer than what came in: it says more and counts as full. Else prove '..UptoSaid'. A law counts once. -/
mutual
def uptoBulk {H : Type} : DataW H → Nat
  | .lit (.string bytes) => bytes.length + 1
  | .lit _ => 1
  | .nil => 1
  | .ptr d => uptoBulk d + 1
  | .slice elems spare => uptoBulkAll elems + uptoBulkAll spare + 1
  | .agg parts => uptoBulkAll parts + 1
  | .iface _ d => uptoBulk d + 1
  | .map entries => uptoBulkEntries entries + 1
  | .held _ => 1
def uptoBulkAll {H : Type} : List (DataW H) → Nat
  | [] => 0
  | d :: r => uptoBulk d + uptoBulkAll r
def uptoBulkEntries {H : Type} : List (Lit × DataW H) → Nat
  | [] => 0
  | x :: r => uptoBulkEntry x + uptoBulkEntries r
def uptoBulkEntry {H : Type} : Lit × DataW H → Nat
  | (.string bytes, d) => bytes.length + uptoBulk d + 1
  | (_, d) => uptoBulk d + 1
 end
def uptoSmall : (H : Type) → List (DataW H) → Bool := fun _ ds => decide (uptoBulkAll ds ≤ 1048576)
def OpenSpec.upto (s : _root_.Go.ChangeSpec) : _root_.Go.OpenSpec := { _root_.Go.OpenSpec.ofChange s with cond := some uptoSmall }

/-- 'outpostlaw14.BucketsOrder', WHERE WHAT IT READS IS OF BULK AT MOST 1048576: true; the input reads as it did. -/
def bucketsOrderUptoRow : OpenClaim := { program := "ytpffofliemooiaa", sum := "ef10b10e953122355f1205c856179637cc09e43b99cfb0b0dd02a8749b4b46b9", func := "outpost/outpostlaw14.BucketsOrder", spec := "bucketsOrder", apart := false, narrowed := true }
def BucketsOrderUptoSaid : Prop := bucketsOrderUptoRow.holds Try.pinned (OpenSpec.upto bucketsOrderSpec)

/-- 'outpostlaw14.BucketsIndexes', WHERE WHAT IT READS IS OF BULK AT MOST 1048576: true; the input reads as it did. -/
def bucketsIndexesUptoRow : OpenClaim := { program := "ytpffofliemooiaa", sum := "ef10b10e953122355f1205c856179637cc09e43b99cfb0b0dd02a8749b4b46b9", func := "outpost/outpostlaw14.BucketsIndexes", spec := "bucketsIndexes", apart := false, narrowed := true }
def BucketsIndexesUptoSaid : Prop := bucketsIndexesUptoRow.holds Try.pinned (OpenSpec.upto bucketsIndexesSpec)

/-- 'outpostlaw14.BucketsFloors', WHERE WHAT IT READS IS OF BULK AT MOST 1048576: true; the input reads as it did. -/
def bucketsFloorsUptoRow : OpenClaim := { program := "ytpffofliemooiaa", sum := "ef10b10e953122355f1205c856179637cc09e43b99cfb0b0dd02a8749b4b46b9", func := "outpost/outpostlaw14.BucketsFloors", spec := "bucketsFloors", apart := false, narrowed := true }
def BucketsFloorsUptoSaid : Prop := bucketsFloorsUptoRow.holds Try.pinned (OpenSpec.upto bucketsFloorsSpec)

/-- 'outpostlaw14.BucketsLeft', WHERE WHAT IT READS IS OF BULK AT MOST 1048576: true; the input reads as it did. -/
def bucketsLeftUptoRow : OpenClaim := { program := "ytpffofliemooiaa", sum := "ef10b10e953122355f1205c856179637cc09e43b99cfb0b0dd02a8749b4b46b9", func := "outpost/outpostlaw14.BucketsLeft", spec := "bucketsLeft", unfollowed := true, recurses := true, apart := false, narrowed := true }
def BucketsLeftUptoSaid : Prop := bucketsLeftUptoRow.holds Try.pinned (OpenSpec.upto bucketsLeftSpec)

/-- 'outpostlaw14.BucketsPlays', WHERE WHAT IT READS IS OF BULK AT MOST 1048576: true; the input reads as it did. -/
def bucketsPlaysUptoRow : OpenClaim := { program := "ytpffofliemooiaa", sum := "ef10b10e953122355f1205c856179637cc09e43b99cfb0b0dd02a8749b4b46b9", func := "outpost/outpostlaw14.BucketsPlays", spec := "bucketsPlays", unfollowed := true, recurses := true, apart := false, narrowed := true }
def BucketsPlaysUptoSaid : Prop := bucketsPlaysUptoRow.holds Try.pinned (OpenSpec.upto bucketsPlaysSpec)

/-- 'outpostlaw14.BucketsNil', WHERE WHAT IT READS IS OF BULK AT MOST 1048576: true; the input reads as it did. -/
def bucketsNilUptoRow : OpenClaim := { program := "ytpffofliemooiaa", sum := "ef10b10e953122355f1205c856179637cc09e43b99cfb0b0dd02a8749b4b46b9", func := "outpost/outpostlaw14.BucketsNil", spec := "bucketsNil", unfollowed := true, recurses := true, apart := false, narrowed := true }
def BucketsNilUptoSaid : Prop := bucketsNilUptoRow.holds Try.pinned (OpenSpec.upto bucketsNilSpec)

end Rows
end Go.Proofs.Ytpffofliemooiaa
