/- hearsaylaw04: PathsRow, PathsTogether, as the row wants it. -/
import Derived.Test.YtehephlblnacgaaDoorPthH
set_option linter.unusedVariables false
namespace Go.Proofs.YtehephlblnacgaaDoor
open Go.RowKit
theorem pathsTogether_walk (a b c d : ByteArray) (w : World) (hm : Mx w) : Calls Tryd.prog 6 #[.agg #[.string a, .string b, .string c], .string d] w fun r w' => r = .returned (.bool true) ∧ Gr w w' := pathsTogether_bs a.data.toList b.data.toList c.data.toList d.data.toList w hm
end Go.Proofs.YtehephlblnacgaaDoor
