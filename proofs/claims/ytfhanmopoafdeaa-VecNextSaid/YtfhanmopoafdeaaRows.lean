/-
  No cell of these rows narrows 'for every input' (looked for: loops, veiled, ifaces, maps, wideKeys, modest, calm, conditions, laid).
  DERIVED. THE GIVEN ROWS OF THIS SEAT. 6 by the template 'for every input the law returns true; each argument reads behind the call as it read before'; 0 by the template 'total and deterministic' (their statements: YtfhanmopoafdeaaTotals.lean).
  GIVEN WITH THE SEED: the statements are not yours to turn. If you find one false, say at which input.
  Laid BY PROGRAM, IN A SANDBOX (cutbox-rows.mjs): the forced cells as the released guide's own fill.sh prints them over the translation 5c079f83f0195826… (all of the seat's roots in one cut). By AI agents, Wed Nov 11 2026. No macro, syntax, notation, axiom, sorry.
-/
import Derived.Test.YtfhanmopoafdeaaChecked
import GoSem.Claim
import GoSem.ClaimJoined
import GoSem.ClaimMapViews
import Derived.JoinedTies
import Derived.KernelRfl
namespace Go.Proofs.Ytfhanmopoafdeaa
/- THE CELL 'sum', in the pinned program and in every row, IS THE sha256 OF THE DUMP (.gsa) THAT YtfhanmopoafdeaaProg.lean LOADS. Nothing in Lean hashes anything: it is a label: what it is worth is what the hold of that sum in a sandbox is worth. -/
noncomputable def Try.pinned : Pinned := { name := "ytfhanmopoafdeaa", sum := "5c079f83f0195826c8c944de1b5681a63425db28c62450dc3a72002727647305", checked := Try.checked }
namespace Rows
def none {H : Type} : Left H := { results := [], args := [] }

/-- 'hearsaylaw05.VecLeast': WHATEVER THE INPUT: true; the input reads as it did. -/
def vecLeastSpec : ChangeSpec := { name := "vecLeast", fn := fun _ => fun
  | [d1, d2, d3] => { results := [.lit (.bool true)], args := [d1, d2, d3] }
  | _ => none }
def vecLeastRow : OpenClaim := { program := "ytfhanmopoafdeaa", sum := "5c079f83f0195826c8c944de1b5681a63425db28c62450dc3a72002727647305", func := "hearsay/hearsaylaw05.VecLeast", spec := "vecLeast", unfollowed := true, recurses := true, apart := false }
def VecLeastSaid : Prop := vecLeastRow.holds Try.pinned (OpenSpec.ofChange vecLeastSpec)

/-- ITS FALSE NEIGHBOUR: 'it returns false'. Refute it at one input. -/
def vecLeastWrong : ChangeSpec := { name := "vecLeast", fn := fun _ => fun
  | [d1, d2, d3] => { results := [.lit (.bool false)], args := [d1, d2, d3] }
  | _ => none }
def VecLeastWrongFalsely : Prop := vecLeastRow.holds Try.pinned (OpenSpec.ofChange vecLeastWrong)

/-- 'hearsaylaw05.VecJoins': WHATEVER THE INPUT: true; the input reads as it did. -/
def vecJoinsSpec : ChangeSpec := { name := "vecJoins", fn := fun _ => fun
  | [d1, d2, d3] => { results := [.lit (.bool true)], args := [d1, d2, d3] }
  | _ => none }
def vecJoinsRow : OpenClaim := { program := "ytfhanmopoafdeaa", sum := "5c079f83f0195826c8c944de1b5681a63425db28c62450dc3a72002727647305", func := "hearsay/hearsaylaw05.VecJoins", spec := "vecJoins", unfollowed := true, recurses := true, apart := false }
def VecJoinsSaid : Prop := vecJoinsRow.holds Try.pinned (OpenSpec.ofChange vecJoinsSpec)

/-- ITS FALSE NEIGHBOUR: 'it returns false'. Refute it at one input. -/
def vecJoinsWrong : ChangeSpec := { name := "vecJoins", fn := fun _ => fun
  | [d1, d2, d3] => { results := [.lit (.bool false)], args := [d1, d2, d3] }
  | _ => none }
def VecJoinsWrongFalsely : Prop := vecJoinsRow.holds Try.pinned (OpenSpec.ofChange vecJoinsWrong)

/-- 'hearsaylaw05.VecRow': WHATEVER THE INPUT: true; the input reads as it did. -/
def vecRowSpec : ChangeSpec := { name := "vecRow", fn := fun _ => fun
  | [d1, d2, d3] => { results := [.lit (.bool true)], args := [d1, d2, d3] }
  | _ => none }
def vecRowRow : OpenClaim := { program := "ytfhanmopoafdeaa", sum := "5c079f83f0195826c8c944de1b5681a63425db28c62450dc3a72002727647305", func := "hearsay/hearsaylaw05.VecRow", spec := "vecRow", unfollowed := true, recurses := true, apart := false }
def VecRowSaid : Prop := vecRowRow.holds Try.pinned (OpenSpec.ofChange vecRowSpec)

/-- ITS FALSE NEIGHBOUR: 'it returns false'. Refute it at one input. -/
def vecRowWrong : ChangeSpec := { name := "vecRow", fn := fun _ => fun
  | [d1, d2, d3] => { results := [.lit (.bool false)], args := [d1, d2, d3] }
  | _ => none }
def VecRowWrongFalsely : Prop := vecRowRow.holds Try.pinned (OpenSpec.ofChange vecRowWrong)

/-- 'hearsaylaw05.VecStands': WHATEVER THE INPUT: true; the input reads as it did. -/
def vecStandsSpec : ChangeSpec := { name := "vecStands", fn := fun _ => fun
  | [d1, d2] => { results := [.lit (.bool true)], args := [d1, d2] }
  | _ => none }
def vecStandsRow : OpenClaim := { program := "ytfhanmopoafdeaa", sum := "5c079f83f0195826c8c944de1b5681a63425db28c62450dc3a72002727647305", func := "hearsay/hearsaylaw05.VecStands", spec := "vecStands", unfollowed := true, recurses := true, apart := false }
def VecStandsSaid : Prop := vecStandsRow.holds Try.pinned (OpenSpec.ofChange vecStandsSpec)

/-- ITS FALSE NEIGHBOUR: 'it returns false'. Refute it at one input. -/
def vecStandsWrong : ChangeSpec := { name := "vecStands", fn := fun _ => fun
  | [d1, d2] => { results := [.lit (.bool false)], args := [d1, d2] }
  | _ => none }
def VecStandsWrongFalsely : Prop := vecStandsRow.holds Try.pinned (OpenSpec.ofChange vecStandsWrong)

/-- 'hearsaylaw05.VecCheck': WHATEVER THE INPUT: true; the input reads as it did. -/
def vecCheckSpec : ChangeSpec := { name := "vecCheck", fn := fun _ => fun
  | [d1, d2] => { results := [.lit (.bool true)], args := [d1, d2] }
  | _ => none }
def vecCheckRow : OpenClaim := { program := "ytfhanmopoafdeaa", sum := "5c079f83f0195826c8c944de1b5681a63425db28c62450dc3a72002727647305", func := "hearsay/hearsaylaw05.VecCheck", spec := "vecCheck", unfollowed := true, recurses := true, apart := false }
def VecCheckSaid : Prop := vecCheckRow.holds Try.pinned (OpenSpec.ofChange vecCheckSpec)

/-- ITS FALSE NEIGHBOUR: 'it returns false'. Refute it at one input. -/
def vecCheckWrong : ChangeSpec := { name := "vecCheck", fn := fun _ => fun
  | [d1, d2] => { results := [.lit (.bool false)], args := [d1, d2] }
  | _ => none }
def VecCheckWrongFalsely : Prop := vecCheckRow.holds Try.pinned (OpenSpec.ofChange vecCheckWrong)

/-- 'hearsaylaw05.VecNext': WHATEVER THE INPUT: true; the input reads as it did. -/
def vecNextSpec : ChangeSpec := { name := "vecNext", fn := fun _ => fun
  | [d1, d2] => { results := [.lit (.bool true)], args := [d1, d2] }
  | _ => none }
def vecNextRow : OpenClaim := { program := "ytfhanmopoafdeaa", sum := "5c079f83f0195826c8c944de1b5681a63425db28c62450dc3a72002727647305", func := "hearsay/hearsaylaw05.VecNext", spec := "vecNext", unfollowed := true, recurses := true, apart := false }
def VecNextSaid : Prop := vecNextRow.holds Try.pinned (OpenSpec.ofChange vecNextSpec)

/-- ITS FALSE NEIGHBOUR: 'it returns false'. Refute it at one input. -/
def vecNextWrong : ChangeSpec := { name := "vecNext", fn := fun _ => fun
  | [d1, d2] => { results := [.lit (.bool false)], args := [d1, d2] }
  | _ => none }
def VecNextWrongFalsely : Prop := vecNextRow.holds Try.pinned (OpenSpec.ofChange vecNextWrong)

/- THE SECOND FORM. 'bulk': how many values and letters a reading holds, each counted each time it is reached (what is shared counts as often as it is met; a slice's spare places count too). A statement '..UptoSaid' is the law's where the arguments, and the package variables that the reading takes, are together of bulk at most 1048576: NARROWER than '..Said'. Prove '..Said' where nothing that the law and all that it calls make is longer than what came in: it says more and counts as full. Else prove '..UptoSaid'. A law counts once. -/
mutual
def uptoBulk {H : Type} : DataW H → Nat
  | .lit (.string bytes) => bytes.length + 1
  | .lit _ => 1
  | .nil => 1
  | .ptr d => uptoBulk d + 1
  | .slice elems spare => uptoBulkAll elems + uptoBulkAll spare + 1
  | .agg parts => uptoBulkAll parts + 1
  | .iface _ d => uptoBulk d + 1
  | .map entries => uptoBulkEntries entries + 1
  | .held _ => 1
def uptoBulkAll {H : Type} : List (DataW H) → Nat
  | [] => 0
  | d :: r => uptoBulk d + uptoBulkAll r
def uptoBulkEntries {H : Type} : List (Lit × DataW H) → Nat
  | [] => 0
  | x :: r => uptoBulkEntry x + uptoBulkEntries r
def uptoBulkEntry {H : Type} : Lit × DataW H → Nat
  | (.string bytes, d) => bytes.length + uptoBulk d + 1
  | (_, d) => uptoBulk d + 1
 end
def uptoSmall : (H : Type) → List (DataW H) → Bool := fun _ ds => decide (uptoBulkAll ds ≤ 1048576)
def OpenSpec.upto (s : _root_.Go.ChangeSpec) : _root_.Go.OpenSpec := { _root_.Go.OpenSpec.ofChange s with cond := some uptoSmall }

/-- 'hearsaylaw05.VecLeast', WHERE WHAT IT READS IS OF BULK AT MOST 1048576: true; the input reads as it did. -/
def vecLeastUptoRow : OpenClaim := { program := "ytfhanmopoafdeaa", sum := "5c079f83f0195826c8c944de1b5681a63425db28c62450dc3a72002727647305", func := "hearsay/hearsaylaw05.VecLeast", spec := "vecLeast", unfollowed := true, recurses := true, apart := false, narrowed := true }
def VecLeastUptoSaid : Prop := vecLeastUptoRow.holds Try.pinned (OpenSpec.upto vecLeastSpec)

/-- 'hearsaylaw05.VecJoins', WHERE WHAT IT READS IS OF BULK AT MOST 1048576: true; the input reads as it did. -/
def vecJoinsUptoRow : OpenClaim := { program := "ytfhanmopoafdeaa", sum := "5c079f83f0195826c8c944de1b5681a63425db28c62450dc3a72002727647305", func := "hearsay/hearsaylaw05.VecJoins", spec := "vecJoins", unfollowed := true, recurses := true, apart := false, narrowed := true }
def VecJoinsUptoSaid : Prop := vecJoinsUptoRow.holds Try.pinned (OpenSpec.upto vecJoinsSpec)

/-- 'hearsaylaw05.VecRow', WHERE WHAT IT READS IS OF BULK AT MOST 1048576: true; the input reads as it did. -/
def vecRowUptoRow : OpenClaim := { program := "ytfhanmopoafdeaa", sum := "5c079f83f0195826c8c944de1b5681a63425db28c62450dc3a72002727647305", func := "hearsay/hearsaylaw05.VecRow", spec := "vecRow", unfollowed := true, recurses := true, apart := false, narrowed := true }
def VecRowUptoSaid : Prop := vecRowUptoRow.holds Try.pinned (OpenSpec.upto vecRowSpec)

/-- 'hearsaylaw05.VecStands', WHERE WHAT IT READS IS OF BULK AT MOST 1048576: true; the input reads as it did. -/
def vecStandsUptoRow : OpenClaim := { program := "ytfhanmopoafdeaa", sum := "5c079f83f0195826c8c944de1b5681a63425db28c62450dc3a72002727647305", func := "hearsay/hearsaylaw05.VecStands", spec := "vecStands", unfollowed := true, recurses := true, apart := false, narrowed := true }
def VecStandsUptoSaid : Prop := vecStandsUptoRow.holds Try.pinned (OpenSpec.upto vecStandsSpec)

/-- 'hearsaylaw05.VecCheck', WHERE WHAT IT READS IS OF BULK AT MOST 1048576: true; the input reads as it did. -/
def vecCheckUptoRow : OpenClaim := { program := "ytfhanmopoafdeaa", sum := "5c079f83f0195826c8c944de1b5681a63425db28c62450dc3a72002727647305", func := "hearsay/hearsaylaw05.VecCheck", spec := "vecCheck", unfollowed := true, recurses := true, apart := false, narrowed := true }
def VecCheckUptoSaid : Prop := vecCheckUptoRow.holds Try.pinned (OpenSpec.upto vecCheckSpec)

/-- 'hearsaylaw05.VecNext', WHERE WHAT IT READS IS OF BULK AT MOST 1048576: true; the input reads as it did. -/
def vecNextUptoRow : OpenClaim := { program := "ytfhanmopoafdeaa", sum := "5c079f83f0195826c8c944de1b5681a63425db28c62450dc3a72002727647305", func := "hearsay/hearsaylaw05.VecNext", spec := "vecNext", unfollowed := true, recurses := true, apart := false, narrowed := true }
def VecNextUptoSaid : Prop := vecNextUptoRow.holds Try.pinned (OpenSpec.upto vecNextSpec)

end Rows
end Go.Proofs.Ytfhanmopoafdeaa
