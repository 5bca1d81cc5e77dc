/-
  No cell of these rows narrows 'for every input' (looked for: loops, veiled, ifaces, maps, wideKeys, modest, calm, conditions, laid).
  DERIVED. THE GIVEN ROWS OF THIS SEAT. 3 by the template 'for every input the law returns true; each argument reads behind the call as it read before'; 0 by the template 'total and deterministic' (their statements: YtpaogcighlfelaaTotals.lean).
  GIVEN WITH THE SEED: the statements are not yours to turn. If you find one false, say at which input.
  Laid BY PROGRAM, IN A SANDBOX (cutbox-rows.mjs): the forced cells as the released guide's own fill.sh prints them over the translation faee786dcce59cbf… (all of the seat's roots in one cut). By AI agents, Wed Nov 11 2026. No macro, syntax, notation, axiom, sorry.
-/
import Derived.Test.YtpaogcighlfelaaChecked
import GoSem.Claim
import GoSem.ClaimJoined
import GoSem.ClaimMapViews
import Derived.JoinedTies
import Derived.KernelRfl
namespace Go.Proofs.Ytpaogcighlfelaa
/- THE CELL 'sum', in the pinned program and in every row, IS THE sha256 OF THE DUMP (.gsa) THAT YtpaogcighlfelaaProg.lean LOADS. Nothing in Lean hashes anything: it is a label: what it is worth is what the hold of that sum in a sandbox is worth. -/
noncomputable def Try.pinned : Pinned := { name := "ytpaogcighlfelaa", sum := "faee786dcce59cbf9ca3386f5058de239b67690e4eefe610fdef714fdb4ac52e", checked := Try.checked }
namespace Rows
def none {H : Type} : Left H := { results := [], args := [] }

/-- 'hearsaylaw08.MatrixOrder': WHATEVER THE INPUT: true; the input reads as it did. -/
def matrixOrderSpec : ChangeSpec := { name := "matrixOrder", fn := fun _ => fun
  | [d1, d2] => { results := [.lit (.bool true)], args := [d1, d2] }
  | _ => none }
def matrixOrderRow : OpenClaim := { program := "ytpaogcighlfelaa", sum := "faee786dcce59cbf9ca3386f5058de239b67690e4eefe610fdef714fdb4ac52e", func := "hearsay/hearsaylaw08.MatrixOrder", spec := "matrixOrder", unfollowed := true, recurses := true, apart := false }
def MatrixOrderSaid : Prop := matrixOrderRow.holds Try.pinned (OpenSpec.ofChange matrixOrderSpec)

/-- ITS FALSE NEIGHBOUR: 'it returns false'. Refute it at one input. -/
def matrixOrderWrong : ChangeSpec := { name := "matrixOrder", fn := fun _ => fun
  | [d1, d2] => { results := [.lit (.bool false)], args := [d1, d2] }
  | _ => none }
def MatrixOrderWrongFalsely : Prop := matrixOrderRow.holds Try.pinned (OpenSpec.ofChange matrixOrderWrong)

/-- 'hearsaylaw08.MatrixLearns': WHATEVER THE INPUT: true; the input reads as it did. -/
def matrixLearnsSpec : ChangeSpec := { name := "matrixLearns", fn := fun _ => fun
  | [d1, d2, d3] => { results := [.lit (.bool true)], args := [d1, d2, d3] }
  | _ => none }
def matrixLearnsRow : OpenClaim := { program := "ytpaogcighlfelaa", sum := "faee786dcce59cbf9ca3386f5058de239b67690e4eefe610fdef714fdb4ac52e", func := "hearsay/hearsaylaw08.MatrixLearns", spec := "matrixLearns", unfollowed := true, recurses := true, apart := false }
def MatrixLearnsSaid : Prop := matrixLearnsRow.holds Try.pinned (OpenSpec.ofChange matrixLearnsSpec)

/-- ITS FALSE NEIGHBOUR: 'it returns false'. Refute it at one input. -/
def matrixLearnsWrong : ChangeSpec := { name := "matrixLearns", fn := fun _ => fun
  | [d1, d2, d3] => { results := [.lit (.bool false)], args := [d1, d2, d3] }
  | _ => none }
def MatrixLearnsWrongFalsely : Prop := matrixLearnsRow.holds Try.pinned (OpenSpec.ofChange matrixLearnsWrong)

/-- 'hearsaylaw08.MatrixNil': WHATEVER THE INPUT: true; the input reads as it did. -/
def matrixNilSpec : ChangeSpec := { name := "matrixNil", fn := fun _ => fun
  | [d1, d2] => { results := [.lit (.bool true)], args := [d1, d2] }
  | _ => none }
def matrixNilRow : OpenClaim := { program := "ytpaogcighlfelaa", sum := "faee786dcce59cbf9ca3386f5058de239b67690e4eefe610fdef714fdb4ac52e", func := "hearsay/hearsaylaw08.MatrixNil", spec := "matrixNil", unfollowed := true, recurses := true, apart := false }
def MatrixNilSaid : Prop := matrixNilRow.holds Try.pinned (OpenSpec.ofChange matrixNilSpec)

/-- ITS FALSE NEIGHBOUR: 'it returns false'. Refute it at one input. -/
def matrixNilWrong : ChangeSpec := { name := "matrixNil", fn := fun _ => fun
  | [d1, d2] => { results := [.lit (.bool false)], args := [d1, d2] }
  | _ => none }
def MatrixNilWrongFalsely : Prop := matrixNilRow.holds Try.pinned (OpenSpec.ofChange matrixNilWrong)

/- THE SECOND FORM. 'bulk': how many values and letters a reading holds, each counted each time it is reached (what is shared counts as often as it is met; a slice's spare places count too). A statement '..UptoSaid' is the law's where the arguments, and the package variables that the reading takes, are together of bulk at most 1048576: NARROWER than '..Said'. Prove '..Said' where nothing that the law and all that it calls make is longer than what came in: it says more and counts as full. Else prove '..UptoSaid'. A law counts once. -/
mutual
def uptoBulk {H : Type} : DataW H → Nat
  | .lit (.string bytes) => bytes.length + 1
  | .lit _ => 1
  | .nil => 1
  | .ptr d => uptoBulk d + 1
  | .slice elems spare => uptoBulkAll elems + uptoBulkAll spare + 1
  | .agg parts => uptoBulkAll parts + 1
  | .iface _ d => uptoBulk d + 1
  | .map entries => uptoBulkEntries entries + 1
  | .held _ => 1
def uptoBulkAll {H : Type} : List (DataW H) → Nat
  | [] => 0
  | d :: r => uptoBulk d + uptoBulkAll r
def uptoBulkEntries {H : Type} : List (Lit × DataW H) → Nat
  | [] => 0
  | x :: r => uptoBulkEntry x + uptoBulkEntries r
def uptoBulkEntry {H : Type} : Lit × DataW H → Nat
  | (.string bytes, d) => bytes.length + uptoBulk d + 1
  | (_, d) => uptoBulk d + 1
 end
def uptoSmall : (H : Type) → List (DataW H) → Bool := fun _ ds => decide (uptoBulkAll ds ≤ 1048576)
def OpenSpec.upto (s : _root_.Go.ChangeSpec) : _root_.Go.OpenSpec := { _root_.Go.OpenSpec.ofChange s with cond := some uptoSmall }

/-- 'hearsaylaw08.MatrixOrder', WHERE WHAT IT READS IS OF BULK AT MOST 1048576: true; the input reads as it did. -/
def matrixOrderUptoRow : OpenClaim := { program := "ytpaogcighlfelaa", sum := "faee786dcce59cbf9ca3386f5058de239b67690e4eefe610fdef714fdb4ac52e", func := "hearsay/hearsaylaw08.MatrixOrder", spec := "matrixOrder", unfollowed := true, recurses := true, apart := false, narrowed := true }
def MatrixOrderUptoSaid : Prop := matrixOrderUptoRow.holds Try.pinned (OpenSpec.upto matrixOrderSpec)

/-- 'hearsaylaw08.MatrixLearns', WHERE WHAT IT READS IS OF BULK AT MOST 1048576: true; the input reads as it did. -/
def matrixLearnsUptoRow : OpenClaim := { program := "ytpaogcighlfelaa", sum := "faee786dcce59cbf9ca3386f5058de239b67690e4eefe610fdef714fdb4ac52e", func := "hearsay/hearsaylaw08.MatrixLearns", spec := "matrixLearns", unfollowed := true, recurses := true, apart := false, narrowed := true }
def MatrixLearnsUptoSaid : Prop := matrixLearnsUptoRow.holds Try.pinned (OpenSpec.upto matrixLearnsSpec)

/-- 'hearsaylaw08.MatrixNil', WHERE WHAT IT READS IS OF BULK AT MOST 1048576: true; the input reads as it did. -/
def matrixNilUptoRow : OpenClaim := { program := "ytpaogcighlfelaa", sum := "faee786dcce59cbf9ca3386f5058de239b67690e4eefe610fdef714fdb4ac52e", func := "hearsay/hearsaylaw08.MatrixNil", spec := "matrixNil", unfollowed := true, recurses := true, apart := false, narrowed := true }
def MatrixNilUptoSaid : Prop := matrixNilUptoRow.holds Try.pinned (OpenSpec.upto matrixNilSpec)

end Rows
end Go.Proofs.Ytpaogcighlfelaa
