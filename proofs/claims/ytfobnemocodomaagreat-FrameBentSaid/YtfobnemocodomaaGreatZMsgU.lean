/- hearsaylaw12.MessageWrites. -/
import Derived.Test.YtfobnemocodomaaGreatZMsgT
set_option linter.unusedVariables false
set_option linter.unusedSimpArgs false
set_option maxHeartbeats 4000000
namespace Go.Proofs.YtfobnemocodomaaGreat
open Go.RowKit Go.Shelf Go.Great

end Go.Proofs.YtfobnemocodomaaGreat
