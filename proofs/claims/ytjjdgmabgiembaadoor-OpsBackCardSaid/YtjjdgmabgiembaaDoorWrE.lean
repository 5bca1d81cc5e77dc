/- A coder.Writer: Digest. -/
import Derived.Test.YtjjdgmabgiembaaDoorWrD
import Derived.Laws.IdiomStrings
set_option linter.unusedVariables false
set_option linter.unusedSimpArgs false
set_option maxHeartbeats 400000
namespace Go.Proofs.YtjjdgmabgiembaaDoor
open Go.RowKit Go.Shelf

def digC (D : List UInt8) : Array Value := (D.map fun x => Value.int .u8 x.toNat).toArray

theorem digC_at (D : List UInt8) (j : Nat) (hj : j < D.length) : (digC D)[j]? = some (.int .u8 D[j].toNat) := by simp [digC, List.getElem?_eq_getElem hj]
end Go.Proofs.YtjjdgmabgiembaaDoor
