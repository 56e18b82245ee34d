/- Holes copied out of a law's argument. -/
import Derived.Test.YtcbegcekdmmjpaaHolesBase
namespace Go.Proofs.Ytcbegcekdmmjpaa
open Go.RowKit
set_option linter.unusedVariables false
set_option linter.unusedSimpArgs false
set_option maxRecDepth 100000

end Go.Proofs.Ytcbegcekdmmjpaa
