/-
  No cell of these rows narrows 'for every input' (looked for: loops, veiled, ifaces, maps, wideKeys, modest, calm, conditions, laid).
  DERIVED. THE GIVEN ROWS OF THIS SEAT. 4 by the template 'for every input the law returns true; each argument reads behind the call as it read before'; 0 by the template 'total and deterministic' (their statements: YtjnjbmkkfkdhcaaTotals.lean).
  GIVEN WITH THE SEED: the statements are not yours to turn. If you find one false, say at which input.
  Laid BY PROGRAM, IN A SANDBOX (cutbox-rows.mjs): the forced cells as the released guide's own fill.sh prints them over the translation 307e105a5d4d7bb8… (all of the seat's roots in one cut). By AI agents, Wed Nov 11 2026. No macro, syntax, notation, axiom, sorry.
-/
import Derived.Test.YtjnjbmkkfkdhcaaChecked
import GoSem.Claim
import GoSem.ClaimJoined
import GoSem.ClaimMapViews
import Derived.JoinedTies
import Derived.KernelRfl
namespace Go.Proofs.Ytjnjbmkkfkdhcaa
/- THE CELL 'sum', in the pinned program and in every row, IS THE sha256 OF THE DUMP (.gsa) THAT YtjnjbmkkfkdhcaaProg.lean LOADS. Nothing in Lean hashes anything: it is a label: what it is worth is what the hold of that sum in a sandbox is worth. -/
noncomputable def Try.pinned : Pinned := { name := "ytjnjbmkkfkdhcaa", sum := "307e105a5d4d7bb86c58fcfd70648e36ece2ffa8e0fc34ad5393916f960016af", checked := Try.checked }
namespace Rows
def none {H : Type} : Left H := { results := [], args := [] }

/-- 'outpostlaw26.SenderRound': WHATEVER THE INPUT: true; the input reads as it did. -/
def senderRoundSpec : ChangeSpec := { name := "senderRound", fn := fun _ => fun
  | [d1, d2] => { results := [.lit (.bool true)], args := [d1, d2] }
  | _ => none }
def senderRoundRow : OpenClaim := { program := "ytjnjbmkkfkdhcaa", sum := "307e105a5d4d7bb86c58fcfd70648e36ece2ffa8e0fc34ad5393916f960016af", func := "outpost/outpostlaw26.SenderRound", spec := "senderRound", apart := false }
def SenderRoundSaid : Prop := senderRoundRow.holds Try.pinned (OpenSpec.ofChange senderRoundSpec)

/-- ITS FALSE NEIGHBOUR: 'it returns false'. Refute it at one input. -/
def senderRoundWrong : ChangeSpec := { name := "senderRound", fn := fun _ => fun
  | [d1, d2] => { results := [.lit (.bool false)], args := [d1, d2] }
  | _ => none }
def SenderRoundWrongFalsely : Prop := senderRoundRow.holds Try.pinned (OpenSpec.ofChange senderRoundWrong)

/-- 'outpostlaw26.SenderKeeps': WHATEVER THE INPUT: true; the input reads as it did. -/
def senderKeepsSpec : ChangeSpec := { name := "senderKeeps", fn := fun _ => fun
  | [d1, d2] => { results := [.lit (.bool true)], args := [d1, d2] }
  | _ => none }
def senderKeepsRow : OpenClaim := { program := "ytjnjbmkkfkdhcaa", sum := "307e105a5d4d7bb86c58fcfd70648e36ece2ffa8e0fc34ad5393916f960016af", func := "outpost/outpostlaw26.SenderKeeps", spec := "senderKeeps", apart := false }
def SenderKeepsSaid : Prop := senderKeepsRow.holds Try.pinned (OpenSpec.ofChange senderKeepsSpec)

/-- ITS FALSE NEIGHBOUR: 'it returns false'. Refute it at one input. -/
def senderKeepsWrong : ChangeSpec := { name := "senderKeeps", fn := fun _ => fun
  | [d1, d2] => { results := [.lit (.bool false)], args := [d1, d2] }
  | _ => none }
def SenderKeepsWrongFalsely : Prop := senderKeepsRow.holds Try.pinned (OpenSpec.ofChange senderKeepsWrong)

/-- 'outpostlaw26.SenderPlays': WHATEVER THE INPUT: true; the input reads as it did. -/
def senderPlaysSpec : ChangeSpec := { name := "senderPlays", fn := fun _ => fun
  | [d1, d2] => { results := [.lit (.bool true)], args := [d1, d2] }
  | _ => none }
def senderPlaysRow : OpenClaim := { program := "ytjnjbmkkfkdhcaa", sum := "307e105a5d4d7bb86c58fcfd70648e36ece2ffa8e0fc34ad5393916f960016af", func := "outpost/outpostlaw26.SenderPlays", spec := "senderPlays", apart := false }
def SenderPlaysSaid : Prop := senderPlaysRow.holds Try.pinned (OpenSpec.ofChange senderPlaysSpec)

/-- ITS FALSE NEIGHBOUR: 'it returns false'. Refute it at one input. -/
def senderPlaysWrong : ChangeSpec := { name := "senderPlays", fn := fun _ => fun
  | [d1, d2] => { results := [.lit (.bool false)], args := [d1, d2] }
  | _ => none }
def SenderPlaysWrongFalsely : Prop := senderPlaysRow.holds Try.pinned (OpenSpec.ofChange senderPlaysWrong)

/-- 'outpostlaw26.SenderNil': WHATEVER THE INPUT: true; the input reads as it did. -/
def senderNilSpec : ChangeSpec := { name := "senderNil", fn := fun _ => fun
  | [] => { results := [.lit (.bool true)], args := [] }
  | _ => none }
def senderNilRow : OpenClaim := { program := "ytjnjbmkkfkdhcaa", sum := "307e105a5d4d7bb86c58fcfd70648e36ece2ffa8e0fc34ad5393916f960016af", func := "outpost/outpostlaw26.SenderNil", spec := "senderNil", apart := false }
def SenderNilSaid : Prop := senderNilRow.holds Try.pinned (OpenSpec.ofChange senderNilSpec)

/-- ITS FALSE NEIGHBOUR: 'it returns false'. Refute it at one input. -/
def senderNilWrong : ChangeSpec := { name := "senderNil", fn := fun _ => fun
  | [] => { results := [.lit (.bool false)], args := [] }
  | _ => none }
def SenderNilWrongFalsely : Prop := senderNilRow.holds Try.pinned (OpenSpec.ofChange senderNilWrong)

/- THE SECOND FORM. 'bulk': how many values and letters a reading holds, each counted each time it is reached (what is shared counts as often as it is met; a slice's spare places count too). A statement '..UptoSaid' is the law's where the arguments, and the package variables that the reading takes, are together of bulk at most 1048576: NARROWER than '..Said'. Prove '..Said' where nothing that the law and all that it calls make is longer than what came in: it says more and counts as full. Else prove '..UptoSaid'. A law counts once. -/
mutual
def uptoBulk {H : Type} : DataW H → Nat
  | .lit (.string bytes) => bytes.length + 1
  | .lit _ => 1
  | .nil => 1
  | .ptr d => uptoBulk d + 1
  | .slice elems spare => uptoBulkAll elems + uptoBulkAll spare + 1
  | .agg parts => uptoBulkAll parts + 1
  | .iface _ d => uptoBulk d + 1
  | .map entries => uptoBulkEntries entries + 1
  | .held _ => 1
def uptoBulkAll {H : Type} : List (DataW H) → Nat
  | [] => 0
  | d :: r => uptoBulk d + uptoBulkAll r
def uptoBulkEntries {H : Type} : List (Lit × DataW H) → Nat
  | [] => 0
  | x :: r => uptoBulkEntry x + uptoBulkEntries r
def uptoBulkEntry {H : Type} : Lit × DataW H → Nat
  | (.string bytes, d) => bytes.length + uptoBulk d + 1
  | (_, d) => uptoBulk d + 1
 end
def uptoSmall : (H : Type) → List (DataW H) → Bool := fun _ ds => decide (uptoBulkAll ds ≤ 1048576)
def OpenSpec.upto (s : _root_.Go.ChangeSpec) : _root_.Go.OpenSpec := { _root_.Go.OpenSpec.ofChange s with cond := some uptoSmall }

/-- 'outpostlaw26.SenderRound', WHERE WHAT IT READS IS OF BULK AT MOST 1048576: true; the input reads as it did. -/
def senderRoundUptoRow : OpenClaim := { program := "ytjnjbmkkfkdhcaa", sum := "307e105a5d4d7bb86c58fcfd70648e36ece2ffa8e0fc34ad5393916f960016af", func := "outpost/outpostlaw26.SenderRound", spec := "senderRound", apart := false, narrowed := true }
def SenderRoundUptoSaid : Prop := senderRoundUptoRow.holds Try.pinned (OpenSpec.upto senderRoundSpec)

/-- 'outpostlaw26.SenderKeeps', WHERE WHAT IT READS IS OF BULK AT MOST 1048576: true; the input reads as it did. -/
def senderKeepsUptoRow : OpenClaim := { program := "ytjnjbmkkfkdhcaa", sum := "307e105a5d4d7bb86c58fcfd70648e36ece2ffa8e0fc34ad5393916f960016af", func := "outpost/outpostlaw26.SenderKeeps", spec := "senderKeeps", apart := false, narrowed := true }
def SenderKeepsUptoSaid : Prop := senderKeepsUptoRow.holds Try.pinned (OpenSpec.upto senderKeepsSpec)

/-- 'outpostlaw26.SenderPlays', WHERE WHAT IT READS IS OF BULK AT MOST 1048576: true; the input reads as it did. -/
def senderPlaysUptoRow : OpenClaim := { program := "ytjnjbmkkfkdhcaa", sum := "307e105a5d4d7bb86c58fcfd70648e36ece2ffa8e0fc34ad5393916f960016af", func := "outpost/outpostlaw26.SenderPlays", spec := "senderPlays", apart := false, narrowed := true }
def SenderPlaysUptoSaid : Prop := senderPlaysUptoRow.holds Try.pinned (OpenSpec.upto senderPlaysSpec)

/-- 'outpostlaw26.SenderNil', WHERE WHAT IT READS IS OF BULK AT MOST 1048576: true; the input reads as it did. -/
def senderNilUptoRow : OpenClaim := { program := "ytjnjbmkkfkdhcaa", sum := "307e105a5d4d7bb86c58fcfd70648e36ece2ffa8e0fc34ad5393916f960016af", func := "outpost/outpostlaw26.SenderNil", spec := "senderNil", apart := false, narrowed := true }
def SenderNilUptoSaid : Prop := senderNilUptoRow.holds Try.pinned (OpenSpec.upto senderNilSpec)

end Rows
end Go.Proofs.Ytjnjbmkkfkdhcaa
