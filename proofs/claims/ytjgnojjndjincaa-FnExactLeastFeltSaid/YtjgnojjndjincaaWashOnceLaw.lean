/- The law on one wash. -/
import Derived.Test.YtjgnojjndjincaaWashOnce
import Derived.Deep.RegionHeld3
import Derived.Deep.WholeRow
import Derived.Deep.DeepCutAuto
namespace Go.Proofs.Ytjgnojjndjincaa
open Go.RowKit
set_option linter.unusedVariables false
set_option linter.unusedSimpArgs false
set_option maxRecDepth 100000

theorem c_eqCloth (a b c d e : Int) (w : World) :
    Calls Try.prog 14 #[.agg #[.int .i16 a, .int .i16 b, .int .i8 c, .int .i8 d, .int .i8 e], .agg #[.int .i16 a, .int .i16 b, .int .i8 c, .int .i8 d, .int .i8 e]] w fun u w' => u = .returned (.bool true) ∧ Below w.heap.size w w' := by
  go_enter Try.func14, Try.ntmps14
  go_wp2
  go_ret
  exact ⟨rfl, by (repeat (first | with_reducible exact Below.refl _ _ | with_reducible refine below_alloc ?_ _ | with_reducible refine below_drew ?_ | with_reducible refine below_drewN ?_ _ | with_reducible refine below_then ?_ (by assumption)))⟩
theorem frozen_past (w : World) (b o : Nat) (h : w.heap.size ≤ b) : w.frozen? ⟨b, o, none⟩ = false := by
  simp [World.frozen?, Array.getElem?_eq_none h]
theorem frozen_new (w : World) (o : Nat) : w.frozen? ⟨w.heap.size, o, none⟩ = false := frozen_past w _ o (Nat.le_refl _)
theorem washOnce_lit (a b c d e p q r : Int) : ∃ z0 z1 z2 z3 z4 k, washOnceF a b c d e p q r = (#[.int .i16 z0, .int .i16 z1, .int .i8 z2, .int .i8 z3, .int .i8 z4], k) := by
  unfold washOnceF
  split
  · exact ⟨_, _, _, _, _, _, rfl⟩
  · exact ⟨_, _, _, _, _, _, rfl⟩
end Go.Proofs.Ytjgnojjndjincaa
