/- Small functions over whole numbers: within bounds, degrees. -/
import Derived.Test.YtcjpfgloemoobaaProg
import Derived.Test.YtcjpfgloemoobaaFlat2
import Derived.Deep.QuietTactic
import Derived.BigQuiet
namespace Go.Proofs.Ytcjpfgloemoobaa
open Go.RowKit
set_option linter.unusedVariables false
set_option linter.unusedSimpArgs false

def nine (n : Int) : Bool := decide (0 ≤ n) && decide (n ≤ 9)
def inB (n lo hi : Int) : Bool := decide (lo ≤ n) && decide (n ≤ hi)

theorem c_l00In (n lo hi : Int) (w : World) : Calls Try.prog 72 #[.int .i64 n, .int .i64 lo, .int .i64 hi] w fun e w' => e = .returned (.bool (inB n lo hi)) ∧ w = w' := by
  by_cases h1 : lo ≤ n
  · by_cases h2 : n ≤ hi
    · go_enter Try.func72, Try.ntmps72
      go_wp2
      go_ret
      simp [inB, h1, h2]
    · go_enter Try.func72, Try.ntmps72
      go_wp2
      go_ret
      simp [inB, h1, h2]
  · go_enter Try.func72, Try.ntmps72
    go_wp2
    go_ret
    simp [inB, h1] <;> omega

theorem c_within (n lo hi : Int) (w : World) : Calls Try.prog 74 #[.int .i64 n, .int .i64 lo, .int .i64 hi] w fun e w' => e = .returned (.bool (inB n lo hi)) ∧ w = w' := by
  by_cases h1 : lo ≤ n
  · by_cases h2 : n ≤ hi
    · go_enter Try.func74, Try.ntmps74
      go_wp2
      go_ret
      simp [inB, h1, h2]
    · go_enter Try.func74, Try.ntmps74
      go_wp2
      go_ret
      simp [inB, h1, h2]
  · go_enter Try.func74, Try.ntmps74
    go_wp2
    go_ret
    simp [inB, h1] <;> omega

theorem c_l06Nine (n : Int) (w : World) : Calls Try.prog 93 #[.int .i8 n] w fun e w' => e = .returned (.bool (nine n)) ∧ w = w' := by
  by_cases h1 : 0 ≤ n
  · by_cases h2 : n ≤ 9
    · go_enter Try.func93, Try.ntmps93
      go_wp2
      go_ret
      simp [nine, h1, h2]
    · go_enter Try.func93, Try.ntmps93
      go_wp2
      go_ret
      simp [nine, h1, h2]
  · go_enter Try.func93, Try.ntmps93
    go_wp2
    go_ret
    simp [nine, h1] <;> omega

theorem c_isDegree (n : Int) (w : World) : Calls Try.prog 95 #[.int .i8 n] w fun e w' => e = .returned (.bool (nine n)) ∧ w = w' := by
  by_cases h1 : 0 ≤ n
  · by_cases h2 : n ≤ 9
    · go_enter Try.func95, Try.ntmps95
      go_wp2
      go_ret
      simp [nine, h1, h2]
    · go_enter Try.func95, Try.ntmps95
      go_wp2
      go_ret
      simp [nine, h1, h2]
  · go_enter Try.func95, Try.ntmps95
    go_wp2
    go_ret
    simp [nine, h1] <;> omega

end Go.Proofs.Ytcjpfgloemoobaa
