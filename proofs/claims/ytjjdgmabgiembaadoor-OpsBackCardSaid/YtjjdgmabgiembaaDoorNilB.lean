/- A digest out of none; hearsaylaw10.CoderNil. -/
import Derived.Test.YtjjdgmabgiembaaDoorNilA
import Derived.Laws.CopyOwn
set_option linter.unusedVariables false
set_option linter.unusedSimpArgs false
set_option maxHeartbeats 400000
namespace Go.Proofs.YtjjdgmabgiembaaDoor
open Go.RowKit Go.Shelf Go.Great

theorem Gr.setRow {a b : World} (h : Gr a b) {g : Nat} (hg : a.heap.size ≤ g) (cs : Array Value) : Gr a (b.setRow g cs) := below_setRow h hg cs

end Go.Proofs.YtjjdgmabgiembaaDoor
