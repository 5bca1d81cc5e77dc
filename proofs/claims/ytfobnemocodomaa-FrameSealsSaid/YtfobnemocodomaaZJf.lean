/- Closed facts of the whole program, that each row of this seat asks. -/
import Derived.Test.YtfobnemocodomaaRows
import Derived.ProofKit
set_option linter.unusedVariables false
namespace Go.Proofs.Ytfobnemocodomaa
open Go.ChangeShapes Go.WideShapes Go.ChangeAt Go.RowKit
theorem jband {a b : Bool} (h : a = true) (k : b = true) : (a && b) = true := by rw [h, k]; rfl
theorem jP1 : laidOutB Try.pinned.checked.prog = true := by kernel_rfl
theorem jP2 : mapsRowed Try.pinned.checked.prog = true := by kernel_rfl
theorem jP22 : (Rows.recordLeavesRow.plainKeys == Try.pinned.checked.prog.plainKeys) = true := by kernel_rfl
theorem jP24 : Try.pinned.checked.prog.stopsHeard = true := by kernel_rfl
theorem jP25 : Try.pinned.checked.prog.mayEnter = true := by kernel_rfl
theorem jP26 : (Rows.recordLeavesRow.lifted == Try.pinned.checked.prog.liftsFinal) = true := by kernel_rfl
theorem jP27 : (Try.pinned.checked.prog.make == some Rows.recordLeavesRow.make) = true := by kernel_rfl
end Go.Proofs.Ytfobnemocodomaa
