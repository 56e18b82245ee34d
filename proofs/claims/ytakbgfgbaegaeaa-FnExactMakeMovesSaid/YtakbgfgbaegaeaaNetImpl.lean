/- NetMoves, the implementation's. -/
import Derived.Test.YtakbgfgbaegaeaaNetBase
namespace Go.Proofs.Ytakbgfgbaegaeaa
open Go.RowKit
set_option linter.unusedVariables false
set_option linter.unusedSimpArgs false
set_option maxRecDepth 100000

def netR (n : Nat) (s t g : Nat → Int) : List Int × Int := if (allB n (fun j => okMove (s j) (t j) (g j)) && decide (n ≤ 60)) = true then (netN s t g n, 0) else ([0, 0, 0, 0, 0], 1)
theorem netR_five (n : Nat) (s t g : Nat → Int) : (netR n s t g).1.length = 5 := by
  unfold netR
  split
  · rename_i h
    simp only [Bool.and_eq_true] at h
    exact (netN_five (allB_get h.1) n (Nat.le_refl _)).len
  · rfl

end Go.Proofs.Ytakbgfgbaegaeaa
