/- Small functions over whole numbers: within bounds, degrees. -/
import Derived.Test.YtdmcemhckalhkaaProg
import Derived.Test.YtdmcemhckalhkaaFlat2
import Derived.Deep.QuietTactic
import Derived.BigQuiet
namespace Go.Proofs.Ytdmcemhckalhkaa
open Go.RowKit
set_option linter.unusedVariables false
set_option linter.unusedSimpArgs false

def nine (n : Int) : Bool := decide (0 ≤ n) && decide (n ≤ 9)
def inB (n lo hi : Int) : Bool := decide (lo ≤ n) && decide (n ≤ hi)

theorem c_l00In (n lo hi : Int) (w : World) : Calls Try.prog 38 #[.int .i64 n, .int .i64 lo, .int .i64 hi] w fun e w' => e = .returned (.bool (inB n lo hi)) ∧ w = w' := by
  by_cases h1 : lo ≤ n
  · by_cases h2 : n ≤ hi
    · go_enter Try.func38, Try.ntmps38
      go_wp2
      go_ret
      simp [inB, h1, h2]
    · go_enter Try.func38, Try.ntmps38
      go_wp2
      go_ret
      simp [inB, h1, h2]
  · go_enter Try.func38, Try.ntmps38
    go_wp2
    go_ret
    simp [inB, h1] <;> omega

theorem c_within (n lo hi : Int) (w : World) : Calls Try.prog 34 #[.int .i64 n, .int .i64 lo, .int .i64 hi] w fun e w' => e = .returned (.bool (inB n lo hi)) ∧ w = w' := by
  by_cases h1 : lo ≤ n
  · by_cases h2 : n ≤ hi
    · go_enter Try.func34, Try.ntmps34
      go_wp2
      go_ret
      simp [inB, h1, h2]
    · go_enter Try.func34, Try.ntmps34
      go_wp2
      go_ret
      simp [inB, h1, h2]
  · go_enter Try.func34, Try.ntmps34
    go_wp2
    go_ret
    simp [inB, h1] <;> omega

theorem c_l06Nine (n : Int) (w : World) : Calls Try.prog 65 #[.int .i8 n] w fun e w' => e = .returned (.bool (nine n)) ∧ w = w' := by
  by_cases h1 : 0 ≤ n
  · by_cases h2 : n ≤ 9
    · go_enter Try.func65, Try.ntmps65
      go_wp2
      go_ret
      simp [nine, h1, h2]
    · go_enter Try.func65, Try.ntmps65
      go_wp2
      go_ret
      simp [nine, h1, h2]
  · go_enter Try.func65, Try.ntmps65
    go_wp2
    go_ret
    simp [nine, h1] <;> omega

theorem c_isDegree (n : Int) (w : World) : Calls Try.prog 52 #[.int .i8 n] w fun e w' => e = .returned (.bool (nine n)) ∧ w = w' := by
  by_cases h1 : 0 ≤ n
  · by_cases h2 : n ≤ 9
    · go_enter Try.func52, Try.ntmps52
      go_wp2
      go_ret
      simp [nine, h1, h2]
    · go_enter Try.func52, Try.ntmps52
      go_wp2
      go_ret
      simp [nine, h1, h2]
  · go_enter Try.func52, Try.ntmps52
    go_wp2
    go_ret
    simp [nine, h1] <;> omega

end Go.Proofs.Ytdmcemhckalhkaa
