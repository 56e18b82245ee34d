/- NetMoves, the reference's. -/
import Derived.Test.YtakbgfgbaegaeaaNetImpl
namespace Go.Proofs.Ytakbgfgbaegaeaa
open Go.RowKit
set_option linter.unusedVariables false
set_option linter.unusedSimpArgs false
set_option maxRecDepth 100000

end Go.Proofs.Ytakbgfgbaegaeaa
