/- Rows of the call's own: read, written cell by cell, and held while others are written. -/
import Derived.Test.YtepdgbgolopejaaMem3
namespace Go.Proofs.Ytepdgbgolopejaa
open Go.RowKit
set_option linter.unusedVariables false
set_option linter.unusedSimpArgs false

theorem own_mono {w : World} {base base' : Nat} {e : TypeId} {size : Nat} {v : Value} {n : Nat} {xs : List Value} (h : w.ownsRow base e size v n xs) (hb : base' ≤ base) : w.ownsRow base' e size v n xs := by
  refine ⟨h.1, ?_⟩
  rcases h.2 with h2 | ⟨g, cap, cur, h1, h2, h3⟩
  · exact .inl h2
  · exact .inr ⟨g, cap, cur, h1, Nat.le_trans hb h2, h3⟩
theorem own_drew {w : World} {base : Nat} {e : TypeId} {size : Nat} {v : Value} {n : Nat} {xs : List Value} (h : w.ownsRow base e size v n xs) : w.drew.ownsRow base e size v n xs := h
/-- A row is a slice. -/
theorem own_form {w : World} {base : Nat} {e : TypeId} {size : Nat} {v : Value} {n : Nat} {xs : List Value} (h : w.ownsRow base e size v n xs) :
    ∃ A c, v = .slice A n c ∧ (0 < n → ∃ g, A = some ⟨g, 0, none⟩ ∧ base ≤ g) := by
  rcases h.2 with ⟨rfl, rfl⟩ | ⟨g, cap, cur, rfl, hb, _⟩
  · exact ⟨none, 0, rfl, fun h => by omega⟩
  · exact ⟨_, cap, rfl, fun _ => ⟨g, rfl, hb⟩⟩
theorem own_get {w : World} {base g c : Nat} {e : TypeId} {size n : Nat} {xs : List Value} (h : w.ownsRow base e size (.slice (some ⟨g, 0, none⟩) n c) n xs) {j : Nat} {u : Value} (hj : xs[j]? = some u) :
    w.cell? ⟨g, j, none⟩ = some u ∧ w.frozen? ⟨g, j, none⟩ = false := by
  rcases h.2 with ⟨h0, _⟩ | ⟨g', cap, cur, h0, hb, hblk, h1, h2, h3, h4⟩
  · cases h0
  · cases h0
    have hl := (List.getElem?_eq_some_iff.1 hj).1
    refine ⟨?_, blk_frozen hblk j⟩
    rw [blk_cell hblk, ← Array.getElem?_toList]
    rw [← h4, List.getElem?_take] at hj
    split at hj
    · exact hj
    · cases hj
theorem own_set {w : World} {base g c : Nat} {e : TypeId} {size n : Nat} {xs : List Value} (h : w.ownsRow base e size (.slice (some ⟨g, 0, none⟩) n c) n xs) (j : Nat) (hj : j < n * size) (u : Value) :
    (w.setCell ⟨g, j, none⟩ u).ownsRow base e size (.slice (some ⟨g, 0, none⟩) n c) n (xs.set j u) := by
  refine ⟨by rw [List.length_set]; exact h.1, ?_⟩
  rcases h.2 with ⟨h0, _⟩ | ⟨g', cap, cur, h0, hb, hblk, h1, h2, h3, h4⟩
  · cases h0
  · cases h0
    refine .inr ⟨g, _, cur.setIfInBounds j u, rfl, hb, blk_set hblk j u, h1, h2, by simp [h3], ?_⟩
    rw [← h4, Array.toList_setIfInBounds, ← List.take_set]
theorem own_of_row {w : World} {g base n size : Nat} {e : TypeId} {arr : Array Value} (h : w.heap[g]? = some (.cells arr e (0, 0))) (hs : arr.size = n * size) (hb : base ≤ g) (hn : n ≤ 1048576) : w.ownsRow base e size (.slice (some ⟨g, 0, none⟩) n n) n arr.toList :=
  ⟨by simp [hs], .inr ⟨g, n, arr, rfl, hb, h, Nat.le_refl _, by simp only [maxLen]; omega, hs, by rw [← hs, ← Array.length_toList, List.take_length]⟩⟩
theorem own_empty {w : World} {g base : Nat} {e : TypeId} {size : Nat} (h : w.heap[g]? = some (.cells #[] e (0, 0))) (hb : base ≤ g) : w.ownsRow base e size (.slice (some ⟨g, 0, none⟩) 0 0) 0 [] :=
  ⟨by simp, .inr ⟨g, 0, #[], rfl, hb, h, Nat.le_refl _, by decide, by simp, by simp⟩⟩
/-- Only the row of v has been written. -/
structure TouV (v : Value) (w w1 : World) : Prop where
  os : w1.os = w.os
  tape : w1.tape = w.tape
  output : w1.output = w.output
  size : w1.heap.size = w.heap.size
  block : ∀ k, v.ownBlock ≠ some k → w1.heap[k]? = w.heap[k]?
theorem TouV.refl (v : Value) (w : World) : TouV v w w := ⟨rfl, rfl, rfl, rfl, fun _ _ => rfl⟩
theorem TouV.setCell {v : Value} {w w1 : World} (h : TouV v w w1) {g : Nat} (hv : v.ownBlock = some g) (j : Nat) (u : Value) : TouV v w (w1.setCell ⟨g, j, none⟩ u) :=
  ⟨h.os, h.tape, h.output, by simp [h.size], fun k hk => (Below.heap_setCell w1 ⟨g, j, none⟩ u k (fun e => hk (by rw [hv, e]))).trans (h.block k hk)⟩
theorem TouV.below {v : Value} {w w1 : World} {B : Nat} (h : TouV v w w1) (hB : ∀ k, v.ownBlock = some k → B ≤ k) : Below B w w1 :=
  ⟨h.os, h.tape, h.output, by rw [h.size]; exact Nat.le_refl _, fun k hk => h.block k (fun e => by have := hB k e; omega)⟩
theorem TouV.drew {v : Value} {w w1 : World} (h : TouV v w w1) : TouV v w w1.drew := ⟨h.os, h.tape, h.output, h.size, h.block⟩
theorem blk_touV {k : Nat} {v : Value} {w w1 : World} {o : Obj} (h : w.heap[k]? = some o) (ht : TouV v w w1) (hk : v.ownBlock ≠ some k) : w1.heap[k]? = some o := (ht.block k hk).trans h
theorem own_touV {w w1 : World} {base : Nat} {e : TypeId} {size : Nat} {v u : Value} {n : Nat} {xs : List Value} (h : w.ownsRow base e size v n xs) (ht : TouV u w w1) (hne : v.ownBlock = none ∨ v.ownBlock ≠ u.ownBlock) : w1.ownsRow base e size v n xs :=
  h.kept (row := u.ownBlock) ⟨ht.os, ht.tape, ht.output, by rw [ht.size]; exact Nat.le_refl _, fun k _ hk => ht.block k (fun he => hk he.symm)⟩ hne
/-- The numbers f 0, f 1, .. in the first k cells, xs behind them. -/
def marked (f : Nat → Value) (k : Nat) (xs : List Value) : List Value := (List.range k).map f ++ xs.drop k
theorem marked_zero (f : Nat → Value) (xs : List Value) : marked f 0 xs = xs := by simp [marked]
theorem marked_all (f : Nat → Value) {k : Nat} {xs : List Value} (h : xs.length = k) : marked f k xs = (List.range k).map f := by
  simp [marked, List.drop_eq_nil_of_le (show xs.length ≤ k by omega)]
theorem marked_set (f : Nat → Value) {k : Nat} {xs : List Value} (h : k < xs.length) : (marked f k xs).set k (f k) = marked f (k + 1) xs := by
  apply List.ext_getElem?
  intro j
  simp only [marked, List.getElem?_set, List.getElem?_append, List.length_map, List.length_range, List.getElem?_drop, List.getElem?_map, List.getElem?_range, List.length_append, List.length_drop]
  by_cases h1 : k = j
  · subst h1
    simp [show k < k + (xs.length - k) by omega]
  · rw [if_neg h1]
    by_cases h2 : j < k
    · simp [h2, show j < k + 1 by omega]
    · rw [if_neg h2, if_neg (by omega)]
      rw [show k + (j - k) = j by omega, show k + 1 + (j - (k + 1)) = j by omega]
theorem marked_len (f : Nat → Value) {k : Nat} {xs : List Value} (h : k ≤ xs.length) : (marked f k xs).length = xs.length := by
  simp [marked]; omega
theorem marked_get (f : Nat → Value) {n i : Nat} (h : i < n) : ((List.range n).map f)[i]? = some (f i) := by
  simp [h]
/-- Rows that lie apart. -/
def apart (u v : Value) : Prop := ∀ k, u.ownBlock = some k → v.ownBlock ≠ some k
theorem apart_of {u v : Value} {B : Nat} (h : ∀ k, u.ownBlock = some k → k < B) (h' : ∀ k, v.ownBlock = some k → B ≤ k) : apart u v := fun k e1 e2 => by
  have := h k e1; have := h' k e2; omega
theorem apart.ne {u v : Value} (h : apart u v) : u.ownBlock = none ∨ u.ownBlock ≠ v.ownBlock := by
  cases e : u.ownBlock with
  | none => exact .inl rfl
  | some k => exact .inr (fun e2 => h k e e2.symm)
theorem apart.symm {u v : Value} (h : apart u v) : apart v u := fun k e1 e2 => h k e2 e1
theorem own_up {w : World} {base : Nat} {e : TypeId} {size : Nat} {v : Value} {n : Nat} {xs : List Value} (h : w.ownsRow base e size v n xs) : ∀ k, v.ownBlock = some k → base ≤ k := fun k hk => (h.lt k hk).1
theorem own_lo {w : World} {base : Nat} {e : TypeId} {size : Nat} {v : Value} {n : Nat} {xs : List Value} (h : w.ownsRow base e size v n xs) {N : Nat} (hN : w.heap.size ≤ N) : ∀ k, v.ownBlock = some k → k < N := fun k hk => Nat.lt_of_lt_of_le (h.lt k hk).2 hN
end Go.Proofs.Ytepdgbgolopejaa
