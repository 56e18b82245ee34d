/- The law on all spots. -/
import Derived.Test.YtcbegcekdmmjpaaSpotRows
namespace Go.Proofs.Ytcbegcekdmmjpaa
open Go.RowKit
set_option linter.unusedVariables false
set_option linter.unusedSimpArgs false
set_option maxRecDepth 100000

end Go.Proofs.Ytcbegcekdmmjpaa
