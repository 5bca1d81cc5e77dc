/-
  NARROWER THAN 'FOR EVERY INPUT', by the rows' own cells (each row's printed sentence says how): OpsChecks: laid · OpsWrites: laid · OpsReads: laid · OpsBack: laid.
  DERIVED. THE GIVEN ROWS OF THIS SEAT. 4 by the template 'for every input the law returns true; each argument reads behind the call as it read before'; 0 by the template 'total and deterministic' (their statements: YtjjdgmabgiembaaDoorTotals.lean).
  GIVEN WITH THE SEED: the statements are not yours to turn. If you find one false, say at which input.
  Laid BY PROGRAM, IN A SANDBOX (cutbox-rows.mjs): the forced cells as the released guide's own fill.sh prints them over the translation 79ed9cf605c37897… (all of the seat's roots in one cut). By AI agents, Wed Nov 11 2026. No macro, syntax, notation, axiom, sorry.
-/
import Derived.Test.YtjjdgmabgiembaaDoorChecked
import GoSem.Claim
import GoSem.ClaimJoined
import GoSem.ClaimMapViews
import Derived.JoinedTies
import Derived.KernelRfl
namespace Go.Proofs.YtjjdgmabgiembaaDoor
/- THE CELL 'sum', in the pinned program and in every row, IS THE sha256 OF THE DUMP (.gsa) THAT YtjjdgmabgiembaaDoorProg.lean LOADS. Nothing in Lean hashes anything: it is a label: what it is worth is what the hold of that sum in a sandbox is worth. -/
noncomputable def Tryd.pinned : Pinned := { name := "ytjjdgmabgiembaadoor", sum := "79ed9cf605c378975314dc844b6112b9753dc97ac80fad8b87615e04b7cdf6ce", checked := Tryd.checked }
namespace Rows
def none {H : Type} : Left H := { results := [], args := [] }

/- WHAT THE LISTED PACKAGE-LEVEL VARIABLES READ AS WHEN THE CALL BEGINS. Each datum BY PROGRAM (the guide's laid-datum.mjs) off the statement by which the dump's own 'gosem.cut.vars' lays the variable. In a bare row this is a premise. The card (YtjjdgmabgiembaaDoorCards.lean) ties it to the program's text. -/
def laid_hearsay_ops_fields {H : Type} : DataW H := .agg [.lit (.int .i64 48), .lit (.int .i64 16), .lit (.int .i64 2), .lit (.int .i64 2), .lit (.int .i64 3), .lit (.int .i64 3), .lit (.int .i64 3), .lit (.int .i64 15), .lit (.int .i64 2), .lit (.int .i64 6), .lit (.int .i64 0), .lit (.int .i64 0), .lit (.int .i64 0)]

/-- 'hearsaylaw34.OpsChecks': WHATEVER THE INPUT: true; the input reads as it did. -/
def opsChecksSpec : ChangeSpec := { name := "opsChecks", fn := fun _ => fun
  | [d] => { results := [.lit (.bool true)], args := [d] }
  | _ => none }
def opsChecksRow : OpenClaim := { program := "ytjjdgmabgiembaadoor", sum := "79ed9cf605c378975314dc844b6112b9753dc97ac80fad8b87615e04b7cdf6ce", func := "hearsay/hearsaylaw34.OpsChecks", spec := "opsChecks", inPlace := ["internal/abi.NoEscape"], unfollowed := true, recurses := true, named := ["hearsay/ops.fields"], apart := false, laid := [("hearsay/ops.fields", laid_hearsay_ops_fields)] }
def OpsChecksSaid : Prop := opsChecksRow.holds Tryd.pinned (OpenSpec.ofChange opsChecksSpec)

/-- ITS FALSE NEIGHBOUR: 'it returns false'. Refute it at one input. -/
def opsChecksWrong : ChangeSpec := { name := "opsChecks", fn := fun _ => fun
  | [d] => { results := [.lit (.bool false)], args := [d] }
  | _ => none }
def OpsChecksWrongFalsely : Prop := opsChecksRow.holds Tryd.pinned (OpenSpec.ofChange opsChecksWrong)

/-- 'hearsaylaw34.OpsWrites': WHATEVER THE INPUT: true; the input reads as it did. -/
def opsWritesSpec : ChangeSpec := { name := "opsWrites", fn := fun _ => fun
  | [d] => { results := [.lit (.bool true)], args := [d] }
  | _ => none }
def opsWritesRow : OpenClaim := { program := "ytjjdgmabgiembaadoor", sum := "79ed9cf605c378975314dc844b6112b9753dc97ac80fad8b87615e04b7cdf6ce", func := "hearsay/hearsaylaw34.OpsWrites", spec := "opsWrites", inPlace := ["internal/abi.NoEscape"], unfollowed := true, recurses := true, named := ["hearsay/ops.fields"], apart := false, laid := [("hearsay/ops.fields", laid_hearsay_ops_fields)] }
def OpsWritesSaid : Prop := opsWritesRow.holds Tryd.pinned (OpenSpec.ofChange opsWritesSpec)

/-- ITS FALSE NEIGHBOUR: 'it returns false'. Refute it at one input. -/
def opsWritesWrong : ChangeSpec := { name := "opsWrites", fn := fun _ => fun
  | [d] => { results := [.lit (.bool false)], args := [d] }
  | _ => none }
def OpsWritesWrongFalsely : Prop := opsWritesRow.holds Tryd.pinned (OpenSpec.ofChange opsWritesWrong)

/-- 'hearsaylaw34.OpsReads': WHATEVER THE INPUT: true; the input reads as it did. -/
def opsReadsSpec : ChangeSpec := { name := "opsReads", fn := fun _ => fun
  | [d] => { results := [.lit (.bool true)], args := [d] }
  | _ => none }
def opsReadsRow : OpenClaim := { program := "ytjjdgmabgiembaadoor", sum := "79ed9cf605c378975314dc844b6112b9753dc97ac80fad8b87615e04b7cdf6ce", func := "hearsay/hearsaylaw34.OpsReads", spec := "opsReads", inPlace := ["internal/abi.NoEscape"], unfollowed := true, recurses := true, named := ["hearsay/ops.fields"], apart := false, laid := [("hearsay/ops.fields", laid_hearsay_ops_fields)] }
def OpsReadsSaid : Prop := opsReadsRow.holds Tryd.pinned (OpenSpec.ofChange opsReadsSpec)

/-- ITS FALSE NEIGHBOUR: 'it returns false'. Refute it at one input. -/
def opsReadsWrong : ChangeSpec := { name := "opsReads", fn := fun _ => fun
  | [d] => { results := [.lit (.bool false)], args := [d] }
  | _ => none }
def OpsReadsWrongFalsely : Prop := opsReadsRow.holds Tryd.pinned (OpenSpec.ofChange opsReadsWrong)

/-- 'hearsaylaw34.OpsBack': WHATEVER THE INPUT: true; the input reads as it did. -/
def opsBackSpec : ChangeSpec := { name := "opsBack", fn := fun _ => fun
  | [d1, d2] => { results := [.lit (.bool true)], args := [d1, d2] }
  | _ => none }
def opsBackRow : OpenClaim := { program := "ytjjdgmabgiembaadoor", sum := "79ed9cf605c378975314dc844b6112b9753dc97ac80fad8b87615e04b7cdf6ce", func := "hearsay/hearsaylaw34.OpsBack", spec := "opsBack", inPlace := ["internal/abi.NoEscape"], unfollowed := true, recurses := true, named := ["hearsay/ops.fields"], apart := false, laid := [("hearsay/ops.fields", laid_hearsay_ops_fields)] }
def OpsBackSaid : Prop := opsBackRow.holds Tryd.pinned (OpenSpec.ofChange opsBackSpec)

/-- ITS FALSE NEIGHBOUR: 'it returns false'. Refute it at one input. -/
def opsBackWrong : ChangeSpec := { name := "opsBack", fn := fun _ => fun
  | [d1, d2] => { results := [.lit (.bool false)], args := [d1, d2] }
  | _ => none }
def OpsBackWrongFalsely : Prop := opsBackRow.holds Tryd.pinned (OpenSpec.ofChange opsBackWrong)

/- THE SECOND FORM. 'bulk': how many values and letters a reading holds, each counted each time it is reached (what is shared counts as often as it is met; a slice's spare places count too). A statement '..UptoSaid' is the law's where the arguments, and the package variables that the reading takes, are together of bulk at most 1048576: NARROWER than '..Said'. Prove '..Said' where nothing that the law and all that it calls make is longer than what came in: it says more and counts as full. Else prove '..UptoSaid'. A law counts once. -/
mutual
def uptoBulk {H : Type} : DataW H → Nat
  | .lit (.string bytes) => bytes.length + 1
  | .lit _ => 1
  | .nil => 1
  | .ptr d => uptoBulk d + 1
  | .slice elems spare => uptoBulkAll elems + uptoBulkAll spare + 1
  | .agg parts => uptoBulkAll parts + 1
  | .iface _ d => uptoBulk d + 1
  | .map entries => uptoBulkEntries entries + 1
  | .held _ => 1
def uptoBulkAll {H : Type} : List (DataW H) → Nat
  | [] => 0
  | d :: r => uptoBulk d + uptoBulkAll r
def uptoBulkEntries {H : Type} : List (Lit × DataW H) → Nat
  | [] => 0
  | x :: r => uptoBulkEntry x + uptoBulkEntries r
def uptoBulkEntry {H : Type} : Lit × DataW H → Nat
  | (.string bytes, d) => bytes.length + uptoBulk d + 1
  | (_, d) => uptoBulk d + 1
 end
def uptoSmall : (H : Type) → List (DataW H) → Bool := fun _ ds => decide (uptoBulkAll ds ≤ 1048576)
def OpenSpec.upto (s : _root_.Go.ChangeSpec) : _root_.Go.OpenSpec := { _root_.Go.OpenSpec.ofChange s with cond := some uptoSmall }

/-- 'hearsaylaw34.OpsChecks', WHERE WHAT IT READS IS OF BULK AT MOST 1048576: true; the input reads as it did. -/
def opsChecksUptoRow : OpenClaim := { program := "ytjjdgmabgiembaadoor", sum := "79ed9cf605c378975314dc844b6112b9753dc97ac80fad8b87615e04b7cdf6ce", func := "hearsay/hearsaylaw34.OpsChecks", spec := "opsChecks", inPlace := ["internal/abi.NoEscape"], unfollowed := true, recurses := true, named := ["hearsay/ops.fields"], apart := false, laid := [("hearsay/ops.fields", laid_hearsay_ops_fields)], narrowed := true }
def OpsChecksUptoSaid : Prop := opsChecksUptoRow.holds Tryd.pinned (OpenSpec.upto opsChecksSpec)

/-- 'hearsaylaw34.OpsWrites', WHERE WHAT IT READS IS OF BULK AT MOST 1048576: true; the input reads as it did. -/
def opsWritesUptoRow : OpenClaim := { program := "ytjjdgmabgiembaadoor", sum := "79ed9cf605c378975314dc844b6112b9753dc97ac80fad8b87615e04b7cdf6ce", func := "hearsay/hearsaylaw34.OpsWrites", spec := "opsWrites", inPlace := ["internal/abi.NoEscape"], unfollowed := true, recurses := true, named := ["hearsay/ops.fields"], apart := false, laid := [("hearsay/ops.fields", laid_hearsay_ops_fields)], narrowed := true }
def OpsWritesUptoSaid : Prop := opsWritesUptoRow.holds Tryd.pinned (OpenSpec.upto opsWritesSpec)

/-- 'hearsaylaw34.OpsReads', WHERE WHAT IT READS IS OF BULK AT MOST 1048576: true; the input reads as it did. -/
def opsReadsUptoRow : OpenClaim := { program := "ytjjdgmabgiembaadoor", sum := "79ed9cf605c378975314dc844b6112b9753dc97ac80fad8b87615e04b7cdf6ce", func := "hearsay/hearsaylaw34.OpsReads", spec := "opsReads", inPlace := ["internal/abi.NoEscape"], unfollowed := true, recurses := true, named := ["hearsay/ops.fields"], apart := false, laid := [("hearsay/ops.fields", laid_hearsay_ops_fields)], narrowed := true }
def OpsReadsUptoSaid : Prop := opsReadsUptoRow.holds Tryd.pinned (OpenSpec.upto opsReadsSpec)

/-- 'hearsaylaw34.OpsBack', WHERE WHAT IT READS IS OF BULK AT MOST 1048576: true; the input reads as it did. -/
def opsBackUptoRow : OpenClaim := { program := "ytjjdgmabgiembaadoor", sum := "79ed9cf605c378975314dc844b6112b9753dc97ac80fad8b87615e04b7cdf6ce", func := "hearsay/hearsaylaw34.OpsBack", spec := "opsBack", inPlace := ["internal/abi.NoEscape"], unfollowed := true, recurses := true, named := ["hearsay/ops.fields"], apart := false, laid := [("hearsay/ops.fields", laid_hearsay_ops_fields)], narrowed := true }
def OpsBackUptoSaid : Prop := opsBackUptoRow.holds Tryd.pinned (OpenSpec.upto opsBackSpec)

end Rows
end Go.Proofs.YtjjdgmabgiembaaDoor
