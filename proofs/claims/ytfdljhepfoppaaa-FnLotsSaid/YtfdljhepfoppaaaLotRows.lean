/- Slices of lots and orders: own copies as rows, marked. -/
import Derived.Test.YtfdljhepfoppaaaLotLaw
import Derived.Test.YtfdljhepfoppaaaOrderLaw
import Derived.Test.YtfdljhepfoppaaaInt64S
namespace Go.Proofs.Ytfdljhepfoppaaa
open Go.RowKit
set_option linter.unusedVariables false
set_option linter.unusedSimpArgs false
set_option maxRecDepth 100000

def fLot (k0 : Nat) (i : Nat) : Value := if i % 2 = 0 then .int .i8 (IntKind.i8.wrap ((k0 : Int) + (i : Int))) else .int .i16 (IntKind.i16.wrap ((k0 : Int) + (i : Int)))
theorem fLot_0 (k0 k : Nat) : fLot k0 (k * 2) = .int .i8 (IntKind.i8.wrap ((k0 : Int) + (k : Int) * 2)) := by
  rw [fLot, if_pos (show (k * 2) % 2 = 0 by omega)]; simp [Int.add_assoc]
theorem fLot_1 (k0 k : Nat) : fLot k0 (k * 2 + 1) = .int .i16 (IntKind.i16.wrap ((k0 : Int) + (k : Int) * 2 + 1)) := by
  rw [fLot, if_neg (show ¬ (k * 2 + 1) % 2 = 0 by omega)]; simp [Int.add_assoc]
def fOrder (k0 : Nat) (i : Nat) : Value := if i % 2 = 0 then .int .i8 (IntKind.i8.wrap ((k0 : Int) + (i : Int))) else .int .i16 (IntKind.i16.wrap ((k0 : Int) + (i : Int)))
theorem fOrder_0 (k0 k : Nat) : fOrder k0 (k * 2) = .int .i8 (IntKind.i8.wrap ((k0 : Int) + (k : Int) * 2)) := by
  rw [fOrder, if_pos (show (k * 2) % 2 = 0 by omega)]; simp [Int.add_assoc]
theorem fOrder_1 (k0 k : Nat) : fOrder k0 (k * 2 + 1) = .int .i16 (IntKind.i16.wrap ((k0 : Int) + (k : Int) * 2 + 1)) := by
  rw [fOrder, if_neg (show ¬ (k * 2 + 1) % 2 = 0 by omega)]; simp [Int.add_assoc]
theorem lots_open {W : World} {A : Option Addr} {es : List (List Value)} (w0 : ∀ c ∈ es, IntCells [.i8, .i16] c) (r0 : RdRow W A es.flatten) : ∃ s g : Nat → Int, LotsAt W A es.length s g ∧ ∀ j, j < es.length → -32768 ≤ g j ∧ g j ≤ 32767 := by
  obtain ⟨zs, rfl, hz⟩ := lots_of (W := W) (A := A) w0
  have hL := lotsAt_of r0
  refine ⟨_, _, by rw [List.length_map]; exact hL, fun j hj => ?_⟩
  rw [List.length_map] at hj
  have ed : zs.getD j (0, 0) = zs[j]'hj := by simp [List.getD, hj]
  rw [ed]; exact hz _ (List.getElem_mem hj)
end Go.Proofs.Ytfdljhepfoppaaa
