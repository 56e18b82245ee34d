/- A slice literal of one part of several cells. -/
import Derived.Test.YtepdgbgolopejaaMem2
import Derived.Great.BuildSlice
import Derived.Great.FillDense
namespace Go.Proofs.Ytepdgbgolopejaa
open Go.RowKit
set_option linter.unusedVariables false
set_option linter.unusedSimpArgs false

theorem wpList_build1 {P : Program} {ops : Array Oper} {rest : List Oper} {o : Oper} {a : Act} {w : World} {Q : Exit → Act → World → Prop} (hg : o.guard = none) (t e : TypeId) (x : Operand) (ho : o.op = .buildSlice t 1 #[(0, x)])
    (cs : Array Value) (size : Nat) (z : Value) (hx : a.eval x = .agg cs) (hu : P.underlying t = some (.slice e)) (hinfo : (P.info? e).map (fun i => (i.zero, i.size)) = some (some z, size)) (hs : 0 < size) (hsm : size ≤ 1000) (hl : cs.size = size)
    (h : wpList P ops Q rest (a.put o.dst (.slice (some ⟨w.heap.size, 0, none⟩) 1 1)) (w.alloc (.cells cs e))) : wpList P ops Q (o :: rest) a w := by
  obtain ⟨ie, hi, hzz⟩ := Option.map_eq_some_iff.1 hinfo
  simp only [Prod.mk.injEq] at hzz
  obtain ⟨hz0, hz1⟩ := hzz
  refine wpList_buildSlice hg t e 1 _ ho cs ie z hu hi hz0 (by rw [hz1]; omega) (by rw [hz1]; omega) ?_ h
  have := Great.fill_whole hs [.agg cs] ((Array.range (1 * size)).map (z.cells[· % z.cells.size]!)) (by simp [Value.cells, hl]) (by simp)
  rw [hz1]
  simp [hx] at this ⊢
  rw [this]
  simp [Value.cells]
theorem nums_oneL (k : IntKind) (xs : List Int) : (nums k xs).all (·.oneCell') = true := by
  simp [nums, Value.oneCell']
end Go.Proofs.Ytepdgbgolopejaa
