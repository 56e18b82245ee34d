/- The laws on holes: counting, texts. -/
import Derived.Test.YtcbegcekdmmjpaaHolesTo
namespace Go.Proofs.Ytcbegcekdmmjpaa
open Go.RowKit
set_option linter.unusedVariables false
set_option linter.unusedSimpArgs false
set_option maxRecDepth 100000

theorem holes8 {hs : List Int} (l : hs.length = 8) (w : ∀ z ∈ hs, (Lit.int .u8 z).wf = true) : Holes8 hs := ⟨l, fun z hz => wf_u8 (w z hz)⟩
theorem arr8_info {hs : List Int} (h : Holes8 hs) : (Try.prog.info? 24).map (·.size) = some (nums .u8 hs).toArray.size := by
  have e : (Try.prog.info? 24).map (·.size) = some 8 := by kernel_rfl
  rw [e]; simp [nums, h.len]

end Go.Proofs.Ytcbegcekdmmjpaa
