/- Lots: the implementation's test, and the law. -/
import Derived.Test.YtepdgbgolopejaaLotBase
import Derived.Shelf.Abstract
namespace Go.Proofs.Ytepdgbgolopejaa
open Go.RowKit
set_option linter.unusedVariables false
set_option linter.unusedSimpArgs false
set_option maxRecDepth 100000

theorem allB_not (n : Nat) (q : Nat → Bool) : (allB n fun j => !(!q j)) = allB n q := by simp
def okLot (s g : Int) : Bool := shade s && inB g 0 5000
/-- Lots out of a law's argument. -/
theorem lots_of {W : World} {A : Option Addr} : ∀ {es : List (List Value)}, (∀ c ∈ es, IntCells [.i8, .i16] c) → ∃ zs : List (Int × Int), es = zs.map (fun z => [Value.int .i8 z.1, Value.int .i16 z.2]) ∧ ∀ z ∈ zs, -32768 ≤ z.2 ∧ z.2 ≤ 32767
  | [], _ => ⟨[], rfl, by simp⟩
  | c :: es, h => by
    obtain ⟨a0, a1, e, w0, w1⟩ := intCells2 (h c (by simp))
    obtain ⟨zs, h1, h2⟩ := lots_of (W := W) (A := A) (es := es) (fun c hc => h c (by simp [hc]))
    refine ⟨(a0, a1) :: zs, by rw [e, h1]; rfl, fun z hz => ?_⟩
    rcases List.mem_cons.1 hz with rfl | hz
    · exact wf_i16 w1
    · exact h2 z hz
theorem lotsAt_of {W : World} {A : Option Addr} {zs : List (Int × Int)} (h : RdRow W A (zs.map (fun z => [Value.int .i8 z.1, Value.int .i16 z.2])).flatten) : LotsAt W A zs.length (fun j => (zs.getD j (0, 0)).1) (fun j => (zs.getD j (0, 0)).2) := by
  refine ⟨fun j hj => ?_⟩
  have hf := flatten_get (sz := 2) (es := zs.map (fun z => [Value.int .i8 z.1, Value.int .i16 z.2])) (by intro c hc; obtain ⟨z, _, rfl⟩ := List.mem_map.1 hc; rfl) j (by simpa using hj)
  have g0 := hf 0 (by omega)
  have g1 := hf 1 (by omega)
  have ez : zs[j]? = some (zs[j]'hj) := by simp [hj]
  have ed : zs.getD j (0, 0) = zs[j]'hj := by simp [List.getD, ez]
  simp [ez] at g0 g1
  obtain ⟨ad, e, c0⟩ := h _ _ g0
  obtain ⟨ad', e', c1⟩ := h _ _ g1
  have hadd : ad' = ad := by rw [e] at e'; exact (Option.some.inj e').symm
  subst hadd
  have e1 : ad'.add (j * 2 + 1) = ⟨(ad'.add (j * 2)).block, (ad'.add (j * 2)).off + 1, none⟩ := by
    unfold Addr.add
    by_cases hj0 : j * 2 = 0
    · rw [if_pos hj0, if_neg (by omega), hj0]
    · rw [if_neg hj0, if_neg (by omega)]; rfl
  refine ⟨ad', e, by rw [ed]; exact c0, ?_⟩
  rw [ed, ← e1]
  exact c1
end Go.Proofs.Ytepdgbgolopejaa
