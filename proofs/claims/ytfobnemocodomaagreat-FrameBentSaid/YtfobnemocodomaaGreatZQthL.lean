/- hearsaylaw04: PathsOrder. -/
import Derived.Test.YtfobnemocodomaaGreatZQthK
set_option linter.unusedVariables false
set_option linter.unusedSimpArgs false
set_option maxHeartbeats 4000000
namespace Go.Proofs.YtfobnemocodomaaGreat.Pt
open Go.RowKit

end Go.Proofs.YtfobnemocodomaaGreat.Pt
