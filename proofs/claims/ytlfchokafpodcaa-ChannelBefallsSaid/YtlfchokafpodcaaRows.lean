/-
  No cell of these rows narrows 'for every input' (looked for: loops, veiled, ifaces, maps, wideKeys, modest, calm, conditions, laid).
  DERIVED. THE GIVEN ROWS OF THIS SEAT. 6 by the template 'for every input the law returns true; each argument reads behind the call as it read before'; 0 by the template 'total and deterministic' (their statements: YtlfchokafpodcaaTotals.lean).
  GIVEN WITH THE SEED: the statements are not yours to turn. If you find one false, say at which input.
  Laid BY PROGRAM, IN A SANDBOX (cutbox-rows.mjs): the forced cells as the released guide's own fill.sh prints them over the translation 6ab2b15d727bb43e… (all of the seat's roots in one cut). By AI agents, Wed Nov 11 2026. No macro, syntax, notation, axiom, sorry.
-/
import Derived.Test.YtlfchokafpodcaaChecked
import GoSem.Claim
import GoSem.ClaimJoined
import GoSem.ClaimMapViews
import Derived.JoinedTies
import Derived.KernelRfl
namespace Go.Proofs.Ytlfchokafpodcaa
/- THE CELL 'sum', in the pinned program and in every row, IS THE sha256 OF THE DUMP (.gsa) THAT YtlfchokafpodcaaProg.lean LOADS. Nothing in Lean hashes anything: it is a label: what it is worth is what the hold of that sum in a sandbox is worth. -/
noncomputable def Try.pinned : Pinned := { name := "ytlfchokafpodcaa", sum := "6ab2b15d727bb43e11c4b3ccd98f87fe2e00b51ea921f585a1b25c922467ef86", checked := Try.checked }
namespace Rows
def none {H : Type} : Left H := { results := [], args := [] }

/-- 'outpostlaw29.ChannelOwn': WHATEVER THE INPUT: true; the input reads as it did. -/
def channelOwnSpec : ChangeSpec := { name := "channelOwn", fn := fun _ => fun
  | [d1, d2] => { results := [.lit (.bool true)], args := [d1, d2] }
  | _ => none }
def channelOwnRow : OpenClaim := { program := "ytlfchokafpodcaa", sum := "6ab2b15d727bb43e11c4b3ccd98f87fe2e00b51ea921f585a1b25c922467ef86", func := "outpost/outpostlaw29.ChannelOwn", spec := "channelOwn", apart := false }
def ChannelOwnSaid : Prop := channelOwnRow.holds Try.pinned (OpenSpec.ofChange channelOwnSpec)

/-- ITS FALSE NEIGHBOUR: 'it returns false'. Refute it at one input. -/
def channelOwnWrong : ChangeSpec := { name := "channelOwn", fn := fun _ => fun
  | [d1, d2] => { results := [.lit (.bool false)], args := [d1, d2] }
  | _ => none }
def ChannelOwnWrongFalsely : Prop := channelOwnRow.holds Try.pinned (OpenSpec.ofChange channelOwnWrong)

/-- 'outpostlaw29.ChannelOrder': WHATEVER THE INPUT: true; the input reads as it did. -/
def channelOrderSpec : ChangeSpec := { name := "channelOrder", fn := fun _ => fun
  | [d1, d2, d3] => { results := [.lit (.bool true)], args := [d1, d2, d3] }
  | _ => none }
def channelOrderRow : OpenClaim := { program := "ytlfchokafpodcaa", sum := "6ab2b15d727bb43e11c4b3ccd98f87fe2e00b51ea921f585a1b25c922467ef86", func := "outpost/outpostlaw29.ChannelOrder", spec := "channelOrder", apart := false }
def ChannelOrderSaid : Prop := channelOrderRow.holds Try.pinned (OpenSpec.ofChange channelOrderSpec)

/-- ITS FALSE NEIGHBOUR: 'it returns false'. Refute it at one input. -/
def channelOrderWrong : ChangeSpec := { name := "channelOrder", fn := fun _ => fun
  | [d1, d2, d3] => { results := [.lit (.bool false)], args := [d1, d2, d3] }
  | _ => none }
def ChannelOrderWrongFalsely : Prop := channelOrderRow.holds Try.pinned (OpenSpec.ofChange channelOrderWrong)

/-- 'outpostlaw29.ChannelBefalls': WHATEVER THE INPUT: true; the input reads as it did. -/
def channelBefallsSpec : ChangeSpec := { name := "channelBefalls", fn := fun _ => fun
  | [d1, d2] => { results := [.lit (.bool true)], args := [d1, d2] }
  | _ => none }
def channelBefallsRow : OpenClaim := { program := "ytlfchokafpodcaa", sum := "6ab2b15d727bb43e11c4b3ccd98f87fe2e00b51ea921f585a1b25c922467ef86", func := "outpost/outpostlaw29.ChannelBefalls", spec := "channelBefalls", apart := false }
def ChannelBefallsSaid : Prop := channelBefallsRow.holds Try.pinned (OpenSpec.ofChange channelBefallsSpec)

/-- ITS FALSE NEIGHBOUR: 'it returns false'. Refute it at one input. -/
def channelBefallsWrong : ChangeSpec := { name := "channelBefalls", fn := fun _ => fun
  | [d1, d2] => { results := [.lit (.bool false)], args := [d1, d2] }
  | _ => none }
def ChannelBefallsWrongFalsely : Prop := channelBefallsRow.holds Try.pinned (OpenSpec.ofChange channelBefallsWrong)

/-- 'outpostlaw29.ChannelPlays': WHATEVER THE INPUT: true; the input reads as it did. -/
def channelPlaysSpec : ChangeSpec := { name := "channelPlays", fn := fun _ => fun
  | [d1, d2, d3] => { results := [.lit (.bool true)], args := [d1, d2, d3] }
  | _ => none }
def channelPlaysRow : OpenClaim := { program := "ytlfchokafpodcaa", sum := "6ab2b15d727bb43e11c4b3ccd98f87fe2e00b51ea921f585a1b25c922467ef86", func := "outpost/outpostlaw29.ChannelPlays", spec := "channelPlays", apart := false }
def ChannelPlaysSaid : Prop := channelPlaysRow.holds Try.pinned (OpenSpec.ofChange channelPlaysSpec)

/-- ITS FALSE NEIGHBOUR: 'it returns false'. Refute it at one input. -/
def channelPlaysWrong : ChangeSpec := { name := "channelPlays", fn := fun _ => fun
  | [d1, d2, d3] => { results := [.lit (.bool false)], args := [d1, d2, d3] }
  | _ => none }
def ChannelPlaysWrongFalsely : Prop := channelPlaysRow.holds Try.pinned (OpenSpec.ofChange channelPlaysWrong)

/-- 'outpostlaw29.ChannelTwo': WHATEVER THE INPUT: true; the input reads as it did. -/
def channelTwoSpec : ChangeSpec := { name := "channelTwo", fn := fun _ => fun
  | [d1, d2, d3, d4] => { results := [.lit (.bool true)], args := [d1, d2, d3, d4] }
  | _ => none }
def channelTwoRow : OpenClaim := { program := "ytlfchokafpodcaa", sum := "6ab2b15d727bb43e11c4b3ccd98f87fe2e00b51ea921f585a1b25c922467ef86", func := "outpost/outpostlaw29.ChannelTwo", spec := "channelTwo", apart := false }
def ChannelTwoSaid : Prop := channelTwoRow.holds Try.pinned (OpenSpec.ofChange channelTwoSpec)

/-- ITS FALSE NEIGHBOUR: 'it returns false'. Refute it at one input. -/
def channelTwoWrong : ChangeSpec := { name := "channelTwo", fn := fun _ => fun
  | [d1, d2, d3, d4] => { results := [.lit (.bool false)], args := [d1, d2, d3, d4] }
  | _ => none }
def ChannelTwoWrongFalsely : Prop := channelTwoRow.holds Try.pinned (OpenSpec.ofChange channelTwoWrong)

/-- 'outpostlaw29.ChannelNil': WHATEVER THE INPUT: true; the input reads as it did. -/
def channelNilSpec : ChangeSpec := { name := "channelNil", fn := fun _ => fun
  | [d] => { results := [.lit (.bool true)], args := [d] }
  | _ => none }
def channelNilRow : OpenClaim := { program := "ytlfchokafpodcaa", sum := "6ab2b15d727bb43e11c4b3ccd98f87fe2e00b51ea921f585a1b25c922467ef86", func := "outpost/outpostlaw29.ChannelNil", spec := "channelNil", apart := false }
def ChannelNilSaid : Prop := channelNilRow.holds Try.pinned (OpenSpec.ofChange channelNilSpec)

/-- ITS FALSE NEIGHBOUR: 'it returns false'. Refute it at one input. -/
def channelNilWrong : ChangeSpec := { name := "channelNil", fn := fun _ => fun
  | [d] => { results := [.lit (.bool false)], args := [d] }
  | _ => none }
def ChannelNilWrongFalsely : Prop := channelNilRow.holds Try.pinned (OpenSpec.ofChange channelNilWrong)

/- THE SECOND FORM. 'bulk': how many values and letters a reading holds, each counted each time it is reached (what is shared counts as often as it is met; a slice's spare places count too). A statement '..UptoSaid' is the law's where the arguments, and the package variables that the reading takes, are together of bulk at most 1048576: NARROWER than '..Said'. Prove '..Said' where nothing that the law and all that it calls make is longer than what came in: it says more and counts as full. Else prove '..UptoSaid'. A law counts once. -/
mutual
def uptoBulk {H : Type} : DataW H → Nat
  | .lit (.string bytes) => bytes.length + 1
  | .lit _ => 1
  | .nil => 1
  | .ptr d => uptoBulk d + 1
  | .slice elems spare => uptoBulkAll elems + uptoBulkAll spare + 1
  | .agg parts => uptoBulkAll parts + 1
  | .iface _ d => uptoBulk d + 1
  | .map entries => uptoBulkEntries entries + 1
  | .held _ => 1
def uptoBulkAll {H : Type} : List (DataW H) → Nat
  | [] => 0
  | d :: r => uptoBulk d + uptoBulkAll r
def uptoBulkEntries {H : Type} : List (Lit × DataW H) → Nat
  | [] => 0
  | x :: r => uptoBulkEntry x + uptoBulkEntries r
def uptoBulkEntry {H : Type} : Lit × DataW H → Nat
  | (.string bytes, d) => bytes.length + uptoBulk d + 1
  | (_, d) => uptoBulk d + 1
 end
def uptoSmall : (H : Type) → List (DataW H) → Bool := fun _ ds => decide (uptoBulkAll ds ≤ 1048576)
def OpenSpec.upto (s : _root_.Go.ChangeSpec) : _root_.Go.OpenSpec := { _root_.Go.OpenSpec.ofChange s with cond := some uptoSmall }

/-- 'outpostlaw29.ChannelOwn', WHERE WHAT IT READS IS OF BULK AT MOST 1048576: true; the input reads as it did. -/
def channelOwnUptoRow : OpenClaim := { program := "ytlfchokafpodcaa", sum := "6ab2b15d727bb43e11c4b3ccd98f87fe2e00b51ea921f585a1b25c922467ef86", func := "outpost/outpostlaw29.ChannelOwn", spec := "channelOwn", apart := false, narrowed := true }
def ChannelOwnUptoSaid : Prop := channelOwnUptoRow.holds Try.pinned (OpenSpec.upto channelOwnSpec)

/-- 'outpostlaw29.ChannelOrder', WHERE WHAT IT READS IS OF BULK AT MOST 1048576: true; the input reads as it did. -/
def channelOrderUptoRow : OpenClaim := { program := "ytlfchokafpodcaa", sum := "6ab2b15d727bb43e11c4b3ccd98f87fe2e00b51ea921f585a1b25c922467ef86", func := "outpost/outpostlaw29.ChannelOrder", spec := "channelOrder", apart := false, narrowed := true }
def ChannelOrderUptoSaid : Prop := channelOrderUptoRow.holds Try.pinned (OpenSpec.upto channelOrderSpec)

/-- 'outpostlaw29.ChannelBefalls', WHERE WHAT IT READS IS OF BULK AT MOST 1048576: true; the input reads as it did. -/
def channelBefallsUptoRow : OpenClaim := { program := "ytlfchokafpodcaa", sum := "6ab2b15d727bb43e11c4b3ccd98f87fe2e00b51ea921f585a1b25c922467ef86", func := "outpost/outpostlaw29.ChannelBefalls", spec := "channelBefalls", apart := false, narrowed := true }
def ChannelBefallsUptoSaid : Prop := channelBefallsUptoRow.holds Try.pinned (OpenSpec.upto channelBefallsSpec)

/-- 'outpostlaw29.ChannelPlays', WHERE WHAT IT READS IS OF BULK AT MOST 1048576: true; the input reads as it did. -/
def channelPlaysUptoRow : OpenClaim := { program := "ytlfchokafpodcaa", sum := "6ab2b15d727bb43e11c4b3ccd98f87fe2e00b51ea921f585a1b25c922467ef86", func := "outpost/outpostlaw29.ChannelPlays", spec := "channelPlays", apart := false, narrowed := true }
def ChannelPlaysUptoSaid : Prop := channelPlaysUptoRow.holds Try.pinned (OpenSpec.upto channelPlaysSpec)

/-- 'outpostlaw29.ChannelTwo', WHERE WHAT IT READS IS OF BULK AT MOST 1048576: true; the input reads as it did. -/
def channelTwoUptoRow : OpenClaim := { program := "ytlfchokafpodcaa", sum := "6ab2b15d727bb43e11c4b3ccd98f87fe2e00b51ea921f585a1b25c922467ef86", func := "outpost/outpostlaw29.ChannelTwo", spec := "channelTwo", apart := false, narrowed := true }
def ChannelTwoUptoSaid : Prop := channelTwoUptoRow.holds Try.pinned (OpenSpec.upto channelTwoSpec)

/-- 'outpostlaw29.ChannelNil', WHERE WHAT IT READS IS OF BULK AT MOST 1048576: true; the input reads as it did. -/
def channelNilUptoRow : OpenClaim := { program := "ytlfchokafpodcaa", sum := "6ab2b15d727bb43e11c4b3ccd98f87fe2e00b51ea921f585a1b25c922467ef86", func := "outpost/outpostlaw29.ChannelNil", spec := "channelNil", apart := false, narrowed := true }
def ChannelNilUptoSaid : Prop := channelNilUptoRow.holds Try.pinned (OpenSpec.upto channelNilSpec)

end Rows
end Go.Proofs.Ytlfchokafpodcaa
