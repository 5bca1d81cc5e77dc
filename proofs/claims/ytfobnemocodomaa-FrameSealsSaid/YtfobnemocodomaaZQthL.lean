/- hearsaylaw04: PathsOrder. -/
import Derived.Test.YtfobnemocodomaaZQthK
set_option linter.unusedVariables false
set_option linter.unusedSimpArgs false
set_option maxHeartbeats 4000000
namespace Go.Proofs.Ytfobnemocodomaa.Pt
open Go.RowKit

end Go.Proofs.Ytfobnemocodomaa.Pt
