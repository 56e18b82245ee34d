/- What the laws of this kind call beside the program: lengths, one drawn number. -/
import Derived.Test.YtepdgbgolopejaaDrawBase
import Derived.BigQuiet
namespace Go.Proofs.Ytepdgbgolopejaa
open Go.RowKit
set_option linter.unusedVariables false
set_option linter.unusedSimpArgs false
set_option maxRecDepth 100000

theorem bytes_bd {xs : List Int} (h : ∀ z ∈ xs, (Lit.int .u8 z).wf = true) (j : Nat) : 0 ≤ gi xs j ∧ gi xs j ≤ 255 := by
  by_cases hj : j < xs.length
  · have : gi xs j = xs[j] := by simp [gi, List.getD_eq_getElem?_getD, hj]
    rw [this]
    exact wf_u8 (h _ (List.getElem_mem hj))
  · have : gi xs j = 0 := by simp [gi, List.getD_eq_getElem?_getD, List.getElem?_eq_none (Nat.le_of_not_lt hj)]
    rw [this]; decide
end Go.Proofs.Ytepdgbgolopejaa
