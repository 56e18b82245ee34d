/- Slices of 64-bit numbers: copied out of an argument, compared, marked, held. -/
import Derived.Test.YtepdgbgolopejaaMem4
import Derived.Test.YtepdgbgolopejaaScalars
import Derived.Laws.MakeOwn
import Derived.Deep.QuietTactic
import Derived.BigQuiet
namespace Go.Proofs.Ytepdgbgolopejaa
open Go.RowKit
set_option linter.unusedVariables false
set_option linter.unusedSimpArgs false
set_option maxRecDepth 100000

theorem own_rd {w : World} {base : Nat} {e : TypeId} {size : Nat} {A : Option Addr} {n c : Nat} {xs : List Value} (h : w.ownsRow base e size (.slice A n c) n xs) : RdRow w A xs := by
  intro j u hj
  rcases h.2 with ⟨h0, rfl⟩ | ⟨g, cap, cur, h0, _⟩
  · have := (List.getElem?_eq_some_iff.1 hj).1
    have h1 := h.1
    omega
  · cases h0
    refine ⟨_, rfl, ?_⟩
    have e : (Addr.add ⟨g, 0, none⟩ j) = ⟨g, j, none⟩ := by unfold Addr.add; split <;> simp_all
    rw [e]
    exact (own_get h hj).1
theorem nums_get {k : IntKind} {zs : List Int} {j : Nat} (h : j < zs.length) : (nums k zs)[j]? = some (.int k (gi zs j)) := nums_at j h
theorem marked_nums {zs : List Int} {n : Nat} (h : zs.length = n) (k : IntKind) : (List.range n).map (fun i => Value.int k (gi zs i)) = nums k zs := by
  subst h
  apply List.ext_getElem?
  intro j
  by_cases hj : j < zs.length
  · rw [nums_get hj]; simp [hj]
  · simp [nums, hj]
def f64 (k0 : Nat) (i : Nat) : Value := .int .i64 ((k0 : Int) + (i : Int))
theorem ints_len {zs : List Int} {n : Nat} {A : Option Addr} {w : World} {base c : Nat} (h : w.ownsRow base 2 1 (.slice A n c) n (nums .i64 zs)) : zs.length = n := by have := h.1; simp [nums] at this; omega
theorem gi_bd64 {zs : List Int} (h : ∀ z ∈ zs, (Lit.int .i64 z).wf = true) (j : Nat) : -9223372036854775808 ≤ gi zs j ∧ gi zs j ≤ 9223372036854775807 := by
  unfold gi
  by_cases hj : j < zs.length
  · have e : zs.getD j 0 = zs[j]'hj := by simp [List.getD, hj]
    rw [e]
    exact wf_i64 (h _ (List.getElem_mem hj))
  · have e : zs.getD j 0 = 0 := by simp [List.getD, List.getElem?_eq_none (show zs.length ≤ j by omega)]
    omega
end Go.Proofs.Ytepdgbgolopejaa
