/-
  No cell of these rows narrows 'for every input' (looked for: loops, veiled, ifaces, maps, wideKeys, modest, calm, conditions, laid).
  DERIVED. THE GIVEN ROWS OF THIS SEAT. 15 by the template 'for every input the law returns true; each argument reads behind the call as it read before'; 0 by the template 'total and deterministic' (their statements: YtfobnemocodomaaTotals.lean).
  GIVEN WITH THE SEED: the statements are not yours to turn. If you find one false, say at which input.
  Laid BY PROGRAM, IN A SANDBOX (cutbox-rows.mjs): the forced cells as the released guide's own fill.sh prints them over the translation 16bd58ba90f3369b… (all of the seat's roots in one cut). By AI agents, Wed Nov 11 2026. No macro, syntax, notation, axiom, sorry.
-/
import Derived.Test.YtfobnemocodomaaChecked
import GoSem.Claim
import GoSem.ClaimJoined
import GoSem.ClaimMapViews
import Derived.JoinedTies
import Derived.KernelRfl
namespace Go.Proofs.Ytfobnemocodomaa
/- THE CELL 'sum', in the pinned program and in every row, IS THE sha256 OF THE DUMP (.gsa) THAT YtfobnemocodomaaProg.lean LOADS. Nothing in Lean hashes anything: it is a label: what it is worth is what the hold of that sum in a sandbox is worth. -/
noncomputable def Try.pinned : Pinned := { name := "ytfobnemocodomaa", sum := "16bd58ba90f3369b0055ea229afe5e32da059f53f9f6db702e37c4bb47f07401", checked := Try.checked }
namespace Rows
def none {H : Type} : Left H := { results := [], args := [] }

/-- 'hearsaylaw11.RecordLeaves': WHATEVER THE INPUT: true; the input reads as it did. -/
def recordLeavesSpec : ChangeSpec := { name := "recordLeaves", fn := fun _ => fun
  | [d] => { results := [.lit (.bool true)], args := [d] }
  | _ => none }
def recordLeavesRow : OpenClaim := { program := "ytfobnemocodomaa", sum := "16bd58ba90f3369b0055ea229afe5e32da059f53f9f6db702e37c4bb47f07401", func := "hearsay/hearsaylaw11.RecordLeaves", spec := "recordLeaves", inPlace := ["internal/abi.NoEscape"], unfollowed := true, recurses := true, apart := false }
def RecordLeavesSaid : Prop := recordLeavesRow.holds Try.pinned (OpenSpec.ofChange recordLeavesSpec)

/-- ITS FALSE NEIGHBOUR: 'it returns false'. Refute it at one input. -/
def recordLeavesWrong : ChangeSpec := { name := "recordLeaves", fn := fun _ => fun
  | [d] => { results := [.lit (.bool false)], args := [d] }
  | _ => none }
def RecordLeavesWrongFalsely : Prop := recordLeavesRow.holds Try.pinned (OpenSpec.ofChange recordLeavesWrong)

/-- 'hearsaylaw14.NodeSeen': WHATEVER THE INPUT: true; the input reads as it did. -/
def nodeSeenSpec : ChangeSpec := { name := "nodeSeen", fn := fun _ => fun
  | [d1, d2] => { results := [.lit (.bool true)], args := [d1, d2] }
  | _ => none }
def nodeSeenRow : OpenClaim := { program := "ytfobnemocodomaa", sum := "16bd58ba90f3369b0055ea229afe5e32da059f53f9f6db702e37c4bb47f07401", func := "hearsay/hearsaylaw14.NodeSeen", spec := "nodeSeen", inPlace := ["internal/abi.NoEscape"], unfollowed := true, recurses := true, apart := false }
def NodeSeenSaid : Prop := nodeSeenRow.holds Try.pinned (OpenSpec.ofChange nodeSeenSpec)

/-- ITS FALSE NEIGHBOUR: 'it returns false'. Refute it at one input. -/
def nodeSeenWrong : ChangeSpec := { name := "nodeSeen", fn := fun _ => fun
  | [d1, d2] => { results := [.lit (.bool false)], args := [d1, d2] }
  | _ => none }
def NodeSeenWrongFalsely : Prop := nodeSeenRow.holds Try.pinned (OpenSpec.ofChange nodeSeenWrong)

/-- 'hearsaylaw11.RecordReads': WHATEVER THE INPUT: true; the input reads as it did. -/
def recordReadsSpec : ChangeSpec := { name := "recordReads", fn := fun _ => fun
  | [d] => { results := [.lit (.bool true)], args := [d] }
  | _ => none }
def recordReadsRow : OpenClaim := { program := "ytfobnemocodomaa", sum := "16bd58ba90f3369b0055ea229afe5e32da059f53f9f6db702e37c4bb47f07401", func := "hearsay/hearsaylaw11.RecordReads", spec := "recordReads", inPlace := ["internal/abi.NoEscape"], unfollowed := true, recurses := true, apart := false }
def RecordReadsSaid : Prop := recordReadsRow.holds Try.pinned (OpenSpec.ofChange recordReadsSpec)

/-- ITS FALSE NEIGHBOUR: 'it returns false'. Refute it at one input. -/
def recordReadsWrong : ChangeSpec := { name := "recordReads", fn := fun _ => fun
  | [d] => { results := [.lit (.bool false)], args := [d] }
  | _ => none }
def RecordReadsWrongFalsely : Prop := recordReadsRow.holds Try.pinned (OpenSpec.ofChange recordReadsWrong)

/-- 'hearsaylaw11.RecordBack': WHATEVER THE INPUT: true; the input reads as it did. -/
def recordBackSpec : ChangeSpec := { name := "recordBack", fn := fun _ => fun
  | [d1, d2, d3] => { results := [.lit (.bool true)], args := [d1, d2, d3] }
  | _ => none }
def recordBackRow : OpenClaim := { program := "ytfobnemocodomaa", sum := "16bd58ba90f3369b0055ea229afe5e32da059f53f9f6db702e37c4bb47f07401", func := "hearsay/hearsaylaw11.RecordBack", spec := "recordBack", inPlace := ["internal/abi.NoEscape"], unfollowed := true, recurses := true, apart := false }
def RecordBackSaid : Prop := recordBackRow.holds Try.pinned (OpenSpec.ofChange recordBackSpec)

/-- ITS FALSE NEIGHBOUR: 'it returns false'. Refute it at one input. -/
def recordBackWrong : ChangeSpec := { name := "recordBack", fn := fun _ => fun
  | [d1, d2, d3] => { results := [.lit (.bool false)], args := [d1, d2, d3] }
  | _ => none }
def RecordBackWrongFalsely : Prop := recordBackRow.holds Try.pinned (OpenSpec.ofChange recordBackWrong)

/-- 'hearsaylaw07.SiblingChecks': WHATEVER THE INPUT: true; the input reads as it did. -/
def siblingChecksSpec : ChangeSpec := { name := "siblingChecks", fn := fun _ => fun
  | [d1, d2, d3] => { results := [.lit (.bool true)], args := [d1, d2, d3] }
  | _ => none }
def siblingChecksRow : OpenClaim := { program := "ytfobnemocodomaa", sum := "16bd58ba90f3369b0055ea229afe5e32da059f53f9f6db702e37c4bb47f07401", func := "hearsay/hearsaylaw07.SiblingChecks", spec := "siblingChecks", unfollowed := true, recurses := true, apart := false }
def SiblingChecksSaid : Prop := siblingChecksRow.holds Try.pinned (OpenSpec.ofChange siblingChecksSpec)

/-- ITS FALSE NEIGHBOUR: 'it returns false'. Refute it at one input. -/
def siblingChecksWrong : ChangeSpec := { name := "siblingChecks", fn := fun _ => fun
  | [d1, d2, d3] => { results := [.lit (.bool false)], args := [d1, d2, d3] }
  | _ => none }
def SiblingChecksWrongFalsely : Prop := siblingChecksRow.holds Try.pinned (OpenSpec.ofChange siblingChecksWrong)

/-- 'hearsaylaw07.SiblingWins': WHATEVER THE INPUT: true; the input reads as it did. -/
def siblingWinsSpec : ChangeSpec := { name := "siblingWins", fn := fun _ => fun
  | [d1, d2, d3] => { results := [.lit (.bool true)], args := [d1, d2, d3] }
  | _ => none }
def siblingWinsRow : OpenClaim := { program := "ytfobnemocodomaa", sum := "16bd58ba90f3369b0055ea229afe5e32da059f53f9f6db702e37c4bb47f07401", func := "hearsay/hearsaylaw07.SiblingWins", spec := "siblingWins", unfollowed := true, recurses := true, apart := false }
def SiblingWinsSaid : Prop := siblingWinsRow.holds Try.pinned (OpenSpec.ofChange siblingWinsSpec)

/-- ITS FALSE NEIGHBOUR: 'it returns false'. Refute it at one input. -/
def siblingWinsWrong : ChangeSpec := { name := "siblingWins", fn := fun _ => fun
  | [d1, d2, d3] => { results := [.lit (.bool false)], args := [d1, d2, d3] }
  | _ => none }
def SiblingWinsWrongFalsely : Prop := siblingWinsRow.holds Try.pinned (OpenSpec.ofChange siblingWinsWrong)

/-- 'hearsaylaw07.SiblingWrites': WHATEVER THE INPUT: true; the input reads as it did. -/
def siblingWritesSpec : ChangeSpec := { name := "siblingWrites", fn := fun _ => fun
  | [d1, d2, d3] => { results := [.lit (.bool true)], args := [d1, d2, d3] }
  | _ => none }
def siblingWritesRow : OpenClaim := { program := "ytfobnemocodomaa", sum := "16bd58ba90f3369b0055ea229afe5e32da059f53f9f6db702e37c4bb47f07401", func := "hearsay/hearsaylaw07.SiblingWrites", spec := "siblingWrites", unfollowed := true, recurses := true, apart := false }
def SiblingWritesSaid : Prop := siblingWritesRow.holds Try.pinned (OpenSpec.ofChange siblingWritesSpec)

/-- ITS FALSE NEIGHBOUR: 'it returns false'. Refute it at one input. -/
def siblingWritesWrong : ChangeSpec := { name := "siblingWrites", fn := fun _ => fun
  | [d1, d2, d3] => { results := [.lit (.bool false)], args := [d1, d2, d3] }
  | _ => none }
def SiblingWritesWrongFalsely : Prop := siblingWritesRow.holds Try.pinned (OpenSpec.ofChange siblingWritesWrong)

/-- 'hearsaylaw07.SiblingKept': WHATEVER THE INPUT: true; the input reads as it did. -/
def siblingKeptSpec : ChangeSpec := { name := "siblingKept", fn := fun _ => fun
  | [d] => { results := [.lit (.bool true)], args := [d] }
  | _ => none }
def siblingKeptRow : OpenClaim := { program := "ytfobnemocodomaa", sum := "16bd58ba90f3369b0055ea229afe5e32da059f53f9f6db702e37c4bb47f07401", func := "hearsay/hearsaylaw07.SiblingKept", spec := "siblingKept", unfollowed := true, recurses := true, apart := false }
def SiblingKeptSaid : Prop := siblingKeptRow.holds Try.pinned (OpenSpec.ofChange siblingKeptSpec)

/-- ITS FALSE NEIGHBOUR: 'it returns false'. Refute it at one input. -/
def siblingKeptWrong : ChangeSpec := { name := "siblingKept", fn := fun _ => fun
  | [d] => { results := [.lit (.bool false)], args := [d] }
  | _ => none }
def SiblingKeptWrongFalsely : Prop := siblingKeptRow.holds Try.pinned (OpenSpec.ofChange siblingKeptWrong)

/-- 'hearsaylaw07.SiblingSyncs': WHATEVER THE INPUT: true; the input reads as it did. -/
def siblingSyncsSpec : ChangeSpec := { name := "siblingSyncs", fn := fun _ => fun
  | [d1, d2] => { results := [.lit (.bool true)], args := [d1, d2] }
  | _ => none }
def siblingSyncsRow : OpenClaim := { program := "ytfobnemocodomaa", sum := "16bd58ba90f3369b0055ea229afe5e32da059f53f9f6db702e37c4bb47f07401", func := "hearsay/hearsaylaw07.SiblingSyncs", spec := "siblingSyncs", unfollowed := true, recurses := true, apart := false }
def SiblingSyncsSaid : Prop := siblingSyncsRow.holds Try.pinned (OpenSpec.ofChange siblingSyncsSpec)

/-- ITS FALSE NEIGHBOUR: 'it returns false'. Refute it at one input. -/
def siblingSyncsWrong : ChangeSpec := { name := "siblingSyncs", fn := fun _ => fun
  | [d1, d2] => { results := [.lit (.bool false)], args := [d1, d2] }
  | _ => none }
def SiblingSyncsWrongFalsely : Prop := siblingSyncsRow.holds Try.pinned (OpenSpec.ofChange siblingSyncsWrong)

/-- 'hearsaylaw07.SiblingOrder': WHATEVER THE INPUT: true; the input reads as it did. -/
def siblingOrderSpec : ChangeSpec := { name := "siblingOrder", fn := fun _ => fun
  | [d] => { results := [.lit (.bool true)], args := [d] }
  | _ => none }
def siblingOrderRow : OpenClaim := { program := "ytfobnemocodomaa", sum := "16bd58ba90f3369b0055ea229afe5e32da059f53f9f6db702e37c4bb47f07401", func := "hearsay/hearsaylaw07.SiblingOrder", spec := "siblingOrder", unfollowed := true, recurses := true, apart := false }
def SiblingOrderSaid : Prop := siblingOrderRow.holds Try.pinned (OpenSpec.ofChange siblingOrderSpec)

/-- ITS FALSE NEIGHBOUR: 'it returns false'. Refute it at one input. -/
def siblingOrderWrong : ChangeSpec := { name := "siblingOrder", fn := fun _ => fun
  | [d] => { results := [.lit (.bool false)], args := [d] }
  | _ => none }
def SiblingOrderWrongFalsely : Prop := siblingOrderRow.holds Try.pinned (OpenSpec.ofChange siblingOrderWrong)

/-- 'hearsaylaw14.NodeBack': WHATEVER THE INPUT: true; the input reads as it did. -/
def nodeBackSpec : ChangeSpec := { name := "nodeBack", fn := fun _ => fun
  | [d1, d2] => { results := [.lit (.bool true)], args := [d1, d2] }
  | _ => none }
def nodeBackRow : OpenClaim := { program := "ytfobnemocodomaa", sum := "16bd58ba90f3369b0055ea229afe5e32da059f53f9f6db702e37c4bb47f07401", func := "hearsay/hearsaylaw14.NodeBack", spec := "nodeBack", inPlace := ["internal/abi.NoEscape"], unfollowed := true, recurses := true, apart := false }
def NodeBackSaid : Prop := nodeBackRow.holds Try.pinned (OpenSpec.ofChange nodeBackSpec)

/-- ITS FALSE NEIGHBOUR: 'it returns false'. Refute it at one input. -/
def nodeBackWrong : ChangeSpec := { name := "nodeBack", fn := fun _ => fun
  | [d1, d2] => { results := [.lit (.bool false)], args := [d1, d2] }
  | _ => none }
def NodeBackWrongFalsely : Prop := nodeBackRow.holds Try.pinned (OpenSpec.ofChange nodeBackWrong)

/-- 'hearsaylaw12.MessageChecks': WHATEVER THE INPUT: true; the input reads as it did. -/
def messageChecksSpec : ChangeSpec := { name := "messageChecks", fn := fun _ => fun
  | [d] => { results := [.lit (.bool true)], args := [d] }
  | _ => none }
def messageChecksRow : OpenClaim := { program := "ytfobnemocodomaa", sum := "16bd58ba90f3369b0055ea229afe5e32da059f53f9f6db702e37c4bb47f07401", func := "hearsay/hearsaylaw12.MessageChecks", spec := "messageChecks", inPlace := ["internal/abi.NoEscape"], unfollowed := true, recurses := true, apart := false }
def MessageChecksSaid : Prop := messageChecksRow.holds Try.pinned (OpenSpec.ofChange messageChecksSpec)

/-- ITS FALSE NEIGHBOUR: 'it returns false'. Refute it at one input. -/
def messageChecksWrong : ChangeSpec := { name := "messageChecks", fn := fun _ => fun
  | [d] => { results := [.lit (.bool false)], args := [d] }
  | _ => none }
def MessageChecksWrongFalsely : Prop := messageChecksRow.holds Try.pinned (OpenSpec.ofChange messageChecksWrong)

/-- 'hearsaylaw12.MessageWrites': WHATEVER THE INPUT: true; the input reads as it did. -/
def messageWritesSpec : ChangeSpec := { name := "messageWrites", fn := fun _ => fun
  | [d] => { results := [.lit (.bool true)], args := [d] }
  | _ => none }
def messageWritesRow : OpenClaim := { program := "ytfobnemocodomaa", sum := "16bd58ba90f3369b0055ea229afe5e32da059f53f9f6db702e37c4bb47f07401", func := "hearsay/hearsaylaw12.MessageWrites", spec := "messageWrites", inPlace := ["internal/abi.NoEscape"], unfollowed := true, recurses := true, apart := false }
def MessageWritesSaid : Prop := messageWritesRow.holds Try.pinned (OpenSpec.ofChange messageWritesSpec)

/-- ITS FALSE NEIGHBOUR: 'it returns false'. Refute it at one input. -/
def messageWritesWrong : ChangeSpec := { name := "messageWrites", fn := fun _ => fun
  | [d] => { results := [.lit (.bool false)], args := [d] }
  | _ => none }
def MessageWritesWrongFalsely : Prop := messageWritesRow.holds Try.pinned (OpenSpec.ofChange messageWritesWrong)

/-- 'hearsaylaw12.MessageSame': WHATEVER THE INPUT: true; the input reads as it did. -/
def messageSameSpec : ChangeSpec := { name := "messageSame", fn := fun _ => fun
  | [d1, d2] => { results := [.lit (.bool true)], args := [d1, d2] }
  | _ => none }
def messageSameRow : OpenClaim := { program := "ytfobnemocodomaa", sum := "16bd58ba90f3369b0055ea229afe5e32da059f53f9f6db702e37c4bb47f07401", func := "hearsay/hearsaylaw12.MessageSame", spec := "messageSame", inPlace := ["internal/abi.NoEscape"], unfollowed := true, recurses := true, apart := false }
def MessageSameSaid : Prop := messageSameRow.holds Try.pinned (OpenSpec.ofChange messageSameSpec)

/-- ITS FALSE NEIGHBOUR: 'it returns false'. Refute it at one input. -/
def messageSameWrong : ChangeSpec := { name := "messageSame", fn := fun _ => fun
  | [d1, d2] => { results := [.lit (.bool false)], args := [d1, d2] }
  | _ => none }
def MessageSameWrongFalsely : Prop := messageSameRow.holds Try.pinned (OpenSpec.ofChange messageSameWrong)

/-- 'hearsaylaw13.FrameSeals': WHATEVER THE INPUT: true; the input reads as it did. -/
def frameSealsSpec : ChangeSpec := { name := "frameSeals", fn := fun _ => fun
  | [d] => { results := [.lit (.bool true)], args := [d] }
  | _ => none }
def frameSealsRow : OpenClaim := { program := "ytfobnemocodomaa", sum := "16bd58ba90f3369b0055ea229afe5e32da059f53f9f6db702e37c4bb47f07401", func := "hearsay/hearsaylaw13.FrameSeals", spec := "frameSeals", inPlace := ["internal/abi.NoEscape"], unfollowed := true, recurses := true, apart := false }
def FrameSealsSaid : Prop := frameSealsRow.holds Try.pinned (OpenSpec.ofChange frameSealsSpec)

/-- ITS FALSE NEIGHBOUR: 'it returns false'. Refute it at one input. -/
def frameSealsWrong : ChangeSpec := { name := "frameSeals", fn := fun _ => fun
  | [d] => { results := [.lit (.bool false)], args := [d] }
  | _ => none }
def FrameSealsWrongFalsely : Prop := frameSealsRow.holds Try.pinned (OpenSpec.ofChange frameSealsWrong)

/- THE SECOND FORM. 'bulk': how many values and letters a reading holds, each counted each time it is reached (what is shared counts as often as it is met; a slice's spare places count too). A statement '..UptoSaid' is the law's where the arguments, and the package variables that the reading takes, are together of bulk at most 1048576: NARROWER than '..Said'. Prove '..Said' where nothing that the law and all that it calls make is longer than what came in: it says more and counts as full. Else prove '..UptoSaid'. A law counts once. -/
mutual
def uptoBulk {H : Type} : DataW H → Nat
  | .lit (.string bytes) => bytes.length + 1
  | .lit _ => 1
  | .nil => 1
  | .ptr d => uptoBulk d + 1
  | .slice elems spare => uptoBulkAll elems + uptoBulkAll spare + 1
  | .agg parts => uptoBulkAll parts + 1
  | .iface _ d => uptoBulk d + 1
  | .map entries => uptoBulkEntries entries + 1
  | .held _ => 1
def uptoBulkAll {H : Type} : List (DataW H) → Nat
  | [] => 0
  | d :: r => uptoBulk d + uptoBulkAll r
def uptoBulkEntries {H : Type} : List (Lit × DataW H) → Nat
  | [] => 0
  | x :: r => uptoBulkEntry x + uptoBulkEntries r
def uptoBulkEntry {H : Type} : Lit × DataW H → Nat
  | (.string bytes, d) => bytes.length + uptoBulk d + 1
  | (_, d) => uptoBulk d + 1
 end
def uptoSmall : (H : Type) → List (DataW H) → Bool := fun _ ds => decide (uptoBulkAll ds ≤ 1048576)
def OpenSpec.upto (s : _root_.Go.ChangeSpec) : _root_.Go.OpenSpec := { _root_.Go.OpenSpec.ofChange s with cond := some uptoSmall }

/-- 'hearsaylaw11.RecordLeaves', WHERE WHAT IT READS IS OF BULK AT MOST 1048576: true; the input reads as it did. -/
def recordLeavesUptoRow : OpenClaim := { program := "ytfobnemocodomaa", sum := "16bd58ba90f3369b0055ea229afe5e32da059f53f9f6db702e37c4bb47f07401", func := "hearsay/hearsaylaw11.RecordLeaves", spec := "recordLeaves", inPlace := ["internal/abi.NoEscape"], unfollowed := true, recurses := true, apart := false, narrowed := true }
def RecordLeavesUptoSaid : Prop := recordLeavesUptoRow.holds Try.pinned (OpenSpec.upto recordLeavesSpec)

/-- 'hearsaylaw14.NodeSeen', WHERE WHAT IT READS IS OF BULK AT MOST 1048576: true; the input reads as it did. -/
def nodeSeenUptoRow : OpenClaim := { program := "ytfobnemocodomaa", sum := "16bd58ba90f3369b0055ea229afe5e32da059f53f9f6db702e37c4bb47f07401", func := "hearsay/hearsaylaw14.NodeSeen", spec := "nodeSeen", inPlace := ["internal/abi.NoEscape"], unfollowed := true, recurses := true, apart := false, narrowed := true }
def NodeSeenUptoSaid : Prop := nodeSeenUptoRow.holds Try.pinned (OpenSpec.upto nodeSeenSpec)

/-- 'hearsaylaw11.RecordReads', WHERE WHAT IT READS IS OF BULK AT MOST 1048576: true; the input reads as it did. -/
def recordReadsUptoRow : OpenClaim := { program := "ytfobnemocodomaa", sum := "16bd58ba90f3369b0055ea229afe5e32da059f53f9f6db702e37c4bb47f07401", func := "hearsay/hearsaylaw11.RecordReads", spec := "recordReads", inPlace := ["internal/abi.NoEscape"], unfollowed := true, recurses := true, apart := false, narrowed := true }
def RecordReadsUptoSaid : Prop := recordReadsUptoRow.holds Try.pinned (OpenSpec.upto recordReadsSpec)

/-- 'hearsaylaw11.RecordBack', WHERE WHAT IT READS IS OF BULK AT MOST 1048576: true; the input reads as it did. -/
def recordBackUptoRow : OpenClaim := { program := "ytfobnemocodomaa", sum := "16bd58ba90f3369b0055ea229afe5e32da059f53f9f6db702e37c4bb47f07401", func := "hearsay/hearsaylaw11.RecordBack", spec := "recordBack", inPlace := ["internal/abi.NoEscape"], unfollowed := true, recurses := true, apart := false, narrowed := true }
def RecordBackUptoSaid : Prop := recordBackUptoRow.holds Try.pinned (OpenSpec.upto recordBackSpec)

/-- 'hearsaylaw07.SiblingChecks', WHERE WHAT IT READS IS OF BULK AT MOST 1048576: true; the input reads as it did. -/
def siblingChecksUptoRow : OpenClaim := { program := "ytfobnemocodomaa", sum := "16bd58ba90f3369b0055ea229afe5e32da059f53f9f6db702e37c4bb47f07401", func := "hearsay/hearsaylaw07.SiblingChecks", spec := "siblingChecks", unfollowed := true, recurses := true, apart := false, narrowed := true }
def SiblingChecksUptoSaid : Prop := siblingChecksUptoRow.holds Try.pinned (OpenSpec.upto siblingChecksSpec)

/-- 'hearsaylaw07.SiblingWins', WHERE WHAT IT READS IS OF BULK AT MOST 1048576: true; the input reads as it did. -/
def siblingWinsUptoRow : OpenClaim := { program := "ytfobnemocodomaa", sum := "16bd58ba90f3369b0055ea229afe5e32da059f53f9f6db702e37c4bb47f07401", func := "hearsay/hearsaylaw07.SiblingWins", spec := "siblingWins", unfollowed := true, recurses := true, apart := false, narrowed := true }
def SiblingWinsUptoSaid : Prop := siblingWinsUptoRow.holds Try.pinned (OpenSpec.upto siblingWinsSpec)

/-- 'hearsaylaw07.SiblingWrites', WHERE WHAT IT READS IS OF BULK AT MOST 1048576: true; the input reads as it did. -/
def siblingWritesUptoRow : OpenClaim := { program := "ytfobnemocodomaa", sum := "16bd58ba90f3369b0055ea229afe5e32da059f53f9f6db702e37c4bb47f07401", func := "hearsay/hearsaylaw07.SiblingWrites", spec := "siblingWrites", unfollowed := true, recurses := true, apart := false, narrowed := true }
def SiblingWritesUptoSaid : Prop := siblingWritesUptoRow.holds Try.pinned (OpenSpec.upto siblingWritesSpec)

/-- 'hearsaylaw07.SiblingKept', WHERE WHAT IT READS IS OF BULK AT MOST 1048576: true; the input reads as it did. -/
def siblingKeptUptoRow : OpenClaim := { program := "ytfobnemocodomaa", sum := "16bd58ba90f3369b0055ea229afe5e32da059f53f9f6db702e37c4bb47f07401", func := "hearsay/hearsaylaw07.SiblingKept", spec := "siblingKept", unfollowed := true, recurses := true, apart := false, narrowed := true }
def SiblingKeptUptoSaid : Prop := siblingKeptUptoRow.holds Try.pinned (OpenSpec.upto siblingKeptSpec)

/-- 'hearsaylaw07.SiblingSyncs', WHERE WHAT IT READS IS OF BULK AT MOST 1048576: true; the input reads as it did. -/
def siblingSyncsUptoRow : OpenClaim := { program := "ytfobnemocodomaa", sum := "16bd58ba90f3369b0055ea229afe5e32da059f53f9f6db702e37c4bb47f07401", func := "hearsay/hearsaylaw07.SiblingSyncs", spec := "siblingSyncs", unfollowed := true, recurses := true, apart := false, narrowed := true }
def SiblingSyncsUptoSaid : Prop := siblingSyncsUptoRow.holds Try.pinned (OpenSpec.upto siblingSyncsSpec)

/-- 'hearsaylaw07.SiblingOrder', WHERE WHAT IT READS IS OF BULK AT MOST 1048576: true; the input reads as it did. -/
def siblingOrderUptoRow : OpenClaim := { program := "ytfobnemocodomaa", sum := "16bd58ba90f3369b0055ea229afe5e32da059f53f9f6db702e37c4bb47f07401", func := "hearsay/hearsaylaw07.SiblingOrder", spec := "siblingOrder", unfollowed := true, recurses := true, apart := false, narrowed := true }
def SiblingOrderUptoSaid : Prop := siblingOrderUptoRow.holds Try.pinned (OpenSpec.upto siblingOrderSpec)

/-- 'hearsaylaw14.NodeBack', WHERE WHAT IT READS IS OF BULK AT MOST 1048576: true; the input reads as it did. -/
def nodeBackUptoRow : OpenClaim := { program := "ytfobnemocodomaa", sum := "16bd58ba90f3369b0055ea229afe5e32da059f53f9f6db702e37c4bb47f07401", func := "hearsay/hearsaylaw14.NodeBack", spec := "nodeBack", inPlace := ["internal/abi.NoEscape"], unfollowed := true, recurses := true, apart := false, narrowed := true }
def NodeBackUptoSaid : Prop := nodeBackUptoRow.holds Try.pinned (OpenSpec.upto nodeBackSpec)

/-- 'hearsaylaw12.MessageChecks', WHERE WHAT IT READS IS OF BULK AT MOST 1048576: true; the input reads as it did. -/
def messageChecksUptoRow : OpenClaim := { program := "ytfobnemocodomaa", sum := "16bd58ba90f3369b0055ea229afe5e32da059f53f9f6db702e37c4bb47f07401", func := "hearsay/hearsaylaw12.MessageChecks", spec := "messageChecks", inPlace := ["internal/abi.NoEscape"], unfollowed := true, recurses := true, apart := false, narrowed := true }
def MessageChecksUptoSaid : Prop := messageChecksUptoRow.holds Try.pinned (OpenSpec.upto messageChecksSpec)

/-- 'hearsaylaw12.MessageWrites', WHERE WHAT IT READS IS OF BULK AT MOST 1048576: true; the input reads as it did. -/
def messageWritesUptoRow : OpenClaim := { program := "ytfobnemocodomaa", sum := "16bd58ba90f3369b0055ea229afe5e32da059f53f9f6db702e37c4bb47f07401", func := "hearsay/hearsaylaw12.MessageWrites", spec := "messageWrites", inPlace := ["internal/abi.NoEscape"], unfollowed := true, recurses := true, apart := false, narrowed := true }
def MessageWritesUptoSaid : Prop := messageWritesUptoRow.holds Try.pinned (OpenSpec.upto messageWritesSpec)

/-- 'hearsaylaw12.MessageSame', WHERE WHAT IT READS IS OF BULK AT MOST 1048576: true; the input reads as it did. -/
def messageSameUptoRow : OpenClaim := { program := "ytfobnemocodomaa", sum := "16bd58ba90f3369b0055ea229afe5e32da059f53f9f6db702e37c4bb47f07401", func := "hearsay/hearsaylaw12.MessageSame", spec := "messageSame", inPlace := ["internal/abi.NoEscape"], unfollowed := true, recurses := true, apart := false, narrowed := true }
def MessageSameUptoSaid : Prop := messageSameUptoRow.holds Try.pinned (OpenSpec.upto messageSameSpec)

/-- 'hearsaylaw13.FrameSeals', WHERE WHAT IT READS IS OF BULK AT MOST 1048576: true; the input reads as it did. -/
def frameSealsUptoRow : OpenClaim := { program := "ytfobnemocodomaa", sum := "16bd58ba90f3369b0055ea229afe5e32da059f53f9f6db702e37c4bb47f07401", func := "hearsay/hearsaylaw13.FrameSeals", spec := "frameSeals", inPlace := ["internal/abi.NoEscape"], unfollowed := true, recurses := true, apart := false, narrowed := true }
def FrameSealsUptoSaid : Prop := frameSealsUptoRow.holds Try.pinned (OpenSpec.upto frameSealsSpec)

end Rows
end Go.Proofs.Ytfobnemocodomaa
