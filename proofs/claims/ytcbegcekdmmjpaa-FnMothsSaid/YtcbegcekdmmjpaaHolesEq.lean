/- The laws' comparing of holes (only equal ones are needed), and the laws on weeks. -/
import Derived.Test.YtcbegcekdmmjpaaHolesLaws
import Derived.Test.YtcbegcekdmmjpaaHolesWeeks
namespace Go.Proofs.Ytcbegcekdmmjpaa
open Go.RowKit
set_option linter.unusedVariables false
set_option linter.unusedSimpArgs false
set_option maxRecDepth 100000


theorem tou_new {w w1 : World} {o : Obj} (ht : Tou w.heap.size (w.alloc o) w1) : Below w.heap.size w w1 := (below_alloc (Below.refl _ _) _).trans (ht.below (Nat.le_refl _))
end Go.Proofs.Ytcbegcekdmmjpaa
