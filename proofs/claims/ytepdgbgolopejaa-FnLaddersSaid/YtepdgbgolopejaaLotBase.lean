/- Lots in a slice: the reference's test. -/
import Derived.Test.YtepdgbgolopejaaMem2
import Derived.Test.YtepdgbgolopejaaScalars
import Derived.StillTailTactics
import Derived.Laws.MakeOwn
namespace Go.Proofs.Ytepdgbgolopejaa
open Go.RowKit
set_option linter.unusedVariables false
set_option linter.unusedSimpArgs false
set_option maxRecDepth 100000

/-- n lots lie at A. -/
structure LotsAt (w : World) (A : Option Addr) (n : Nat) (s g : Nat → Int) : Prop where
  at_ : ∀ j, j < n → ∃ ad, A = some ad ∧ w.cell? (ad.add (j * 2)) = some (.int .i8 (s j)) ∧ w.cell? ⟨(ad.add (j * 2)).block, (ad.add (j * 2)).off + 1, none⟩ = some (.int .i16 (g j))
def shade (n : Int) : Bool := decide (0 ≤ n) && decide (n < 10)
def allB : Nat → (Nat → Bool) → Bool
  | 0, _ => true
  | n + 1, p => allB n p && p n
theorem allB_stop {p : Nat → Bool} {k : Nat} (h : p k = false) : ∀ {n : Nat}, k < n → allB n p = false
  | 0, hk => by omega
  | n + 1, hk => by
    by_cases e : k = n
    · subst e; simp [allB, h]
    · simp [allB, allB_stop h (show k < n by omega)]

theorem allB_get {p : Nat → Bool} : ∀ {n : Nat}, allB n p = true → ∀ j, j < n → p j = true
  | 0, _, j, hj => by omega
  | n + 1, h, j, hj => by
    simp [allB] at h
    by_cases e : j = n
    · subst e; exact h.2
    · exact allB_get h.1 j (by omega)
theorem LotsAt.below {w w1 : World} {A : Option Addr} {n : Nat} {s g : Nat → Int} (h : LotsAt w A n s g) (hb : Below w.heap.size w w1) : LotsAt w1 A n s g := by
  refine ⟨fun j hj => ?_⟩
  obtain ⟨ad, e, c0, c1⟩ := h.at_ j hj
  exact ⟨ad, e, (hb.cell (World.block_lt_of_cell? w _ c0)).trans c0, (hb.cell (World.block_lt_of_cell? w _ c1)).trans c1⟩
theorem LotsAt.of_row {w : World} {b : Nat} {n : Nat} {s g : Nat → Int} {arr : Array Value} {t : TypeId} {fr : Nat × Nat} (h : w.heap[b]? = some (.cells arr t fr)) (h0 : ∀ j, j < n → arr[j * 2]? = some (.int .i8 (s j)) ∧ arr[j * 2 + 1]? = some (.int .i16 (g j))) : LotsAt w (some ⟨b, 0, none⟩) n s g := by
  refine ⟨fun j hj => ⟨_, rfl, ?_, ?_⟩⟩
  · have e : (Addr.add ⟨b, 0, none⟩ (j * 2)) = ⟨b, j * 2, none⟩ := by unfold Addr.add; split <;> simp_all
    rw [e, cell_of_row w b _ _ _ _ h]; exact (h0 j hj).1
  · have e : (Addr.add ⟨b, 0, none⟩ (j * 2)) = ⟨b, j * 2, none⟩ := by unfold Addr.add; split <;> simp_all
    rw [e, cell_of_row w b _ _ _ _ h]; exact (h0 j hj).2
theorem rows2 {arr : Array Value} {n k : Nat} {s g : Nat → Int} (hs : arr.size = n * 2) (hk : k < n) (hC : ∀ j, j < k → arr[j * 2]? = some (.int .i8 (s j)) ∧ arr[j * 2 + 1]? = some (.int .i16 (g j))) :
    ((arr.setIfInBounds (k * 2) (.int .i8 (s k))).setIfInBounds (k * 2 + 1) (.int .i16 (g k))).size = n * 2 ∧ ∀ j, j < k + 1 → ((arr.setIfInBounds (k * 2) (.int .i8 (s k))).setIfInBounds (k * 2 + 1) (.int .i16 (g k)))[j * 2]? = some (.int .i8 (s j)) ∧ ((arr.setIfInBounds (k * 2) (.int .i8 (s k))).setIfInBounds (k * 2 + 1) (.int .i16 (g k)))[j * 2 + 1]? = some (.int .i16 (g j)) := by
  refine ⟨by simp [hs], fun j hj => ?_⟩
  by_cases e : j = k
  · subst e
    refine ⟨?_, ?_⟩
    · rw [Array.getElem?_setIfInBounds_ne (by omega), Array.getElem?_setIfInBounds_self_of_lt (by omega)]
    · rw [Array.getElem?_setIfInBounds_self_of_lt (by simp; omega)]
  · refine ⟨?_, ?_⟩
    · rw [Array.getElem?_setIfInBounds_ne (by omega), Array.getElem?_setIfInBounds_ne (by omega)]
      exact (hC j (by omega)).1
    · rw [Array.getElem?_setIfInBounds_ne (by omega), Array.getElem?_setIfInBounds_ne (by omega)]
      exact (hC j (by omega)).2
end Go.Proofs.Ytepdgbgolopejaa
