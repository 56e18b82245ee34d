/- Slices of places: compared, marked, held. -/
import Derived.Test.YtakbgfgbaegaeaaLatSpec
import Derived.Test.YtakbgfgbaegaeaaInt64S
import Derived.Test.YtakbgfgbaegaeaaNetLaw
namespace Go.Proofs.Ytakbgfgbaegaeaa
open Go.RowKit
set_option linter.unusedVariables false
set_option linter.unusedSimpArgs false
set_option maxRecDepth 100000

def f32 (k0 : Nat) (i : Nat) : Value := .int .i32 ((k0 : Int) + (i : Int))
theorem rows5_get {P : Nat → List Int} {n k j : Nat} (hP : ∀ k, k < n → (P (k + 1)).length = 5) (hk : k < n) (hj : j < 5) : (rows5 P n)[k * 5 + j]? = some (.int .i32 (gi (P (k + 1)) j)) := by
  have h := flatten_get (sz := 5) (es := (List.range n).map fun j => nums .i32 (P (j + 1))) (by intro c hc; obtain ⟨z, hz, rfl⟩ := List.mem_map.1 hc; rw [nums_length]; exact hP z (List.mem_range.1 hz)) k (by simpa using hk) j hj
  rw [rows5, List.flatMap_def, h]
  simp only [List.getElem?_map, List.getElem?_range hk, Option.map_some, Option.getD_some]
  exact nums_get (by rw [hP k hk]; exact hj)
theorem rows5_get0 {P : Nat → List Int} {n k : Nat} (hP : ∀ k, k < n → (P (k + 1)).length = 5) (hk : k < n) : (rows5 P n)[k * 5]? = some (.int .i32 (gi (P (k + 1)) 0)) := rows5_get (j := 0) hP hk (by omega)
end Go.Proofs.Ytakbgfgbaegaeaa
