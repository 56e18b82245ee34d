/- Small functions over whole numbers: within bounds, degrees. -/
import Derived.Test.YtepdgbgolopejaaProg
import Derived.Test.YtepdgbgolopejaaFlat2
import Derived.Deep.QuietTactic
import Derived.BigQuiet
namespace Go.Proofs.Ytepdgbgolopejaa
open Go.RowKit
set_option linter.unusedVariables false
set_option linter.unusedSimpArgs false

def nine (n : Int) : Bool := decide (0 ≤ n) && decide (n ≤ 9)
def inB (n lo hi : Int) : Bool := decide (lo ≤ n) && decide (n ≤ hi)

theorem c_l00In (n lo hi : Int) (w : World) : Calls Try.prog 40 #[.int .i64 n, .int .i64 lo, .int .i64 hi] w fun e w' => e = .returned (.bool (inB n lo hi)) ∧ w = w' := by
  by_cases h1 : lo ≤ n
  · by_cases h2 : n ≤ hi
    · go_enter Try.func40, Try.ntmps40
      go_wp2
      go_ret
      simp [inB, h1, h2]
    · go_enter Try.func40, Try.ntmps40
      go_wp2
      go_ret
      simp [inB, h1, h2]
  · go_enter Try.func40, Try.ntmps40
    go_wp2
    go_ret
    simp [inB, h1] <;> omega

theorem c_within (n lo hi : Int) (w : World) : Calls Try.prog 32 #[.int .i64 n, .int .i64 lo, .int .i64 hi] w fun e w' => e = .returned (.bool (inB n lo hi)) ∧ w = w' := by
  by_cases h1 : lo ≤ n
  · by_cases h2 : n ≤ hi
    · go_enter Try.func32, Try.ntmps32
      go_wp2
      go_ret
      simp [inB, h1, h2]
    · go_enter Try.func32, Try.ntmps32
      go_wp2
      go_ret
      simp [inB, h1, h2]
  · go_enter Try.func32, Try.ntmps32
    go_wp2
    go_ret
    simp [inB, h1] <;> omega



end Go.Proofs.Ytepdgbgolopejaa
