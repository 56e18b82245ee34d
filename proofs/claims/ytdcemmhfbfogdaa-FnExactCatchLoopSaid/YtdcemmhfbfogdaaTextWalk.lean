/- Numbers in decimal: the reference's function, the program's. -/
import Derived.Test.YtdcemmhfbfogdaaFabLaw
import Derived.Test.YtdcemmhfbfogdaaShelf
import Derived.Lib.ItoaNum
import Derived.Deep.RegionWith
namespace Go.Proofs.Ytdcemmhfbfogdaa
open Go.RowKit
set_option linter.unusedVariables false
set_option linter.unusedSimpArgs false
set_option maxRecDepth 100000

theorem conv_one {w : World} {g : Nat} {c : UInt8} {z : Int} (hz : (c.toNat : Int) = z) (h : w.heap[g]? = some (.cells #[.int .u8 z] 5 (0, 0))) : (convert 52 9 (.slice (some ⟨g, 0, none⟩) 1 1)).run Try.prog w = .ok (.string (str [c])) w := by
  subst hz
  exact own_string (l := [c]) Try.underlying52 Try.underlying5 Try.underlying9 (own_of_row (base := 0) (n := 1) (size := 1) h rfl (Nat.zero_le _) (by omega))
def digC (n : Nat) : UInt8 := UInt8.ofNat (48 + n % 10)
theorem digC_nat (n : Nat) : ((digC n).toNat : Int) = 48 + (n : Int) % 10 := by
  have : (digC n).toNat = 48 + n % 10 := by
    show (48 + n % 10) % 256 = 48 + n % 10
    omega
  rw [this]
  omega
theorem dec_low {n : Nat} (h : n < 10) : Lib.decDigits n = [digC n] := by
  rw [Lib.decDigits, dif_pos h, digC, Nat.mod_eq_of_lt h]
theorem dec_high {n : Nat} (h : ¬ n < 10) : Lib.decDigits n = Lib.decDigits (n / 10) ++ [digC n] := by
  rw [Lib.decDigits, dif_neg h, digC]
theorem dec_len (k : Nat) : ∀ n : Nat, n < 10 ^ (k + 1) → (Lib.decDigits n).length ≤ k + 1 := by
  induction k with
  | zero => intro n h; rw [dec_low (by simpa using h)]; simp
  | succ k ih =>
    intro n h
    by_cases h10 : n < 10
    · rw [dec_low h10]; simp
    · rw [dec_high h10]
      have : n / 10 < 10 ^ (k + 1) := by rw [Nat.div_lt_iff_lt_mul (by omega)]; rw [Nat.pow_succ] at h; exact h
      have := ih _ this
      simp; omega
end Go.Proofs.Ytdcemmhfbfogdaa
