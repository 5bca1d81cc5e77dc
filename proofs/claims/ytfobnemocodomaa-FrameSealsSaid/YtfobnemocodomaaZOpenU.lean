/- What a world's shape says of internal/bytealg.MaxLen's cell. -/
import Derived.Test.YtfobnemocodomaaZOpenY
import Derived.Test.YtfobnemocodomaaZQthB
import Derived.HandedShaped
import Derived.Shelf.Vars
set_option linter.unusedVariables false
namespace Go.Proofs.Ytfobnemocodomaa
open Go.ChangeShapes Go.WideShapes Go.ChangeAt Go.RowKit Go.Deep Go.Joins

theorem pmx_of_shape {W : World} (h : W.ShapedOpen Try.prog) : Pt.Mx W :=
  cell_of_shapedOpen_int (P := Try.prog) (g := 0) (t := 3) (zero := #[.int .i64 0]) h (of_decide_eq_true (by kernel_rfl)) (by kernel_rfl) rfl (by kernel_rfl) (by kernel_rfl) Try.underlying3
end Go.Proofs.Ytfobnemocodomaa
