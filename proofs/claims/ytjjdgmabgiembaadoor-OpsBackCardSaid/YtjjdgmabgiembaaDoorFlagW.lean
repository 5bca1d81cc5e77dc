/- Flags put: a coder.Writer's, and the document's. -/
import Derived.Test.YtjjdgmabgiembaaDoorRwA
set_option linter.unusedVariables false
set_option linter.unusedSimpArgs false
set_option maxHeartbeats 400000
namespace Go.Proofs.YtjjdgmabgiembaaDoor
open Go.RowKit Go.Shelf

end Go.Proofs.YtjjdgmabgiembaaDoor
