/- What a world's shape says of internal/bytealg.MaxLen's cell. -/
import Derived.Test.YtfobnemocodomaaGreatZOpenY
import Derived.Test.YtfobnemocodomaaGreatZQthB
import Derived.HandedShaped
import Derived.Shelf.Vars
set_option linter.unusedVariables false
namespace Go.Proofs.YtfobnemocodomaaGreat
open Go.ChangeShapes Go.WideShapes Go.ChangeAt Go.RowKit Go.Deep Go.Joins

theorem pmx_of_shape {W : World} (h : W.ShapedOpen Tryz.prog) : Pt.Mx W :=
  cell_of_shapedOpen_int (P := Tryz.prog) (g := 0) (t := 3) (zero := #[.int .i64 0]) h (of_decide_eq_true (by kernel_rfl)) (by kernel_rfl) rfl (by kernel_rfl) (by kernel_rfl) Tryz.underlying3
end Go.Proofs.YtfobnemocodomaaGreat
