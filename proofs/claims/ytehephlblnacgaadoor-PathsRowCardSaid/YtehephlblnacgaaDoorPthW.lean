/- hearsaylaw04: PathsRow, as the row wants it. -/
import Derived.Test.YtehephlblnacgaaDoorPthF
set_option linter.unusedVariables false
namespace Go.Proofs.YtehephlblnacgaaDoor
open Go.RowKit
theorem pathsRow_walk (a b c : ByteArray) (w : World) (hm : Mx w) : Calls Tryd.prog 5 #[.string a, .string b, .string c] w fun r w' => r = .returned (.bool true) ∧ Gr w w' := pathsRow_bs a.data.toList b.data.toList c.data.toList w hm
end Go.Proofs.YtehephlblnacgaaDoor
