/- Closed facts of the whole program, that each row of this seat asks. -/
import Derived.Test.YtfobnemocodomaaGreatRows
import Derived.ProofKit
set_option linter.unusedVariables false
namespace Go.Proofs.YtfobnemocodomaaGreat
open Go.ChangeShapes Go.WideShapes Go.ChangeAt Go.RowKit
theorem jband {a b : Bool} (h : a = true) (k : b = true) : (a && b) = true := by rw [h, k]; rfl
theorem jP1 : laidOutB Tryz.pinned.checked.prog = true := by kernel_rfl
theorem jP2 : mapsRowed Tryz.pinned.checked.prog = true := by kernel_rfl
theorem jP22 : (Rows.nodeReadsRow.plainKeys == Tryz.pinned.checked.prog.plainKeys) = true := by kernel_rfl
theorem jP24 : Tryz.pinned.checked.prog.stopsHeard = true := by kernel_rfl
theorem jP25 : Tryz.pinned.checked.prog.mayEnter = true := by kernel_rfl
theorem jP26 : (Rows.nodeReadsRow.lifted == Tryz.pinned.checked.prog.liftsFinal) = true := by kernel_rfl
theorem jP27 : (Tryz.pinned.checked.prog.make == some Rows.nodeReadsRow.make) = true := by kernel_rfl
end Go.Proofs.YtfobnemocodomaaGreat
