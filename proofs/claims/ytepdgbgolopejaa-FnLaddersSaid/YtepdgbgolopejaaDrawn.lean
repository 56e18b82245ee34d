/- The worlds of a drawing. -/
import Derived.Test.YtepdgbgolopejaaDrawBase
namespace Go.Proofs.Ytepdgbgolopejaa
open Go.RowKit
set_option linter.unusedVariables false
set_option linter.unusedSimpArgs false
set_option maxRecDepth 100000

theorem Tou.trans {g : Nat} {w w1 w2 : World} (h : Tou g w w1) (h' : Tou g w1 w2) : Tou g w w2 := ⟨h'.os.trans h.os, h'.tape.trans h.tape, h'.output.trans h.output, h'.size.trans h.size, fun k hk => (h'.block k hk).trans (h.block k hk)⟩
theorem Src.tou {g N b : Nat} {A : Option Addr} {cap : Nat} {xs : List Int} {w w1 : World} (h : Src g N A cap xs w) (ht : Tou b w w1) (hb : g ≠ b) (hA : ∀ ad, A = some ad → xs ≠ [] → ad.block ≠ b) : Src g N A cap xs w1 := by
  obtain ⟨⟨at_, sd, ha, hs, hk⟩, hB, hp⟩ := h
  exact ⟨⟨at_, sd, ha, hs, blk_tou hk ht hb⟩, hB.tou hA ht, hp⟩
theorem Src.below {g N : Nat} {A : Option Addr} {cap : Nat} {xs : List Int} {w w1 : World} (h : Src g N A cap xs w) (hb : Below w.heap.size w w1) : Src g N A cap xs w1 := by
  obtain ⟨⟨at_, sd, ha, hs, hk⟩, hB, hp⟩ := h
  exact ⟨⟨at_, sd, ha, hs, blk_below hk hb⟩, hB.below hb, hp⟩
/-- The worlds of a drawing: but for the source's block, what lay below lies. -/
structure Drawn (g k : Nat) (w w1 : World) : Prop where
  os : w1.os = w.os
  tape : w1.tape = w.tape
  output : w1.output = w.output
  size : w.heap.size ≤ w1.heap.size
  block : ∀ i, i < k → i ≠ g → w1.heap[i]? = w.heap[i]?
theorem Drawn.tou {g k : Nat} {w w1 w2 : World} (h : Drawn g k w w1) (ht : Tou g w1 w2) : Drawn g k w w2 := ⟨ht.os.trans h.os, ht.tape.trans h.tape, ht.output.trans h.output, by rw [ht.size]; exact h.size, fun i hi hg => (ht.block i hg).trans (h.block i hi hg)⟩
theorem Drawn.touB {g k b : Nat} {w w1 w2 : World} (h : Drawn g k w w1) (ht : Tou b w1 w2) (hb : k ≤ b) : Drawn g k w w2 := ⟨ht.os.trans h.os, ht.tape.trans h.tape, ht.output.trans h.output, by rw [ht.size]; exact h.size, fun i hi hg => (ht.block i (by omega)).trans (h.block i hi hg)⟩
theorem Drawn.alloc {g k : Nat} {w w1 : World} (h : Drawn g k w w1) (hk : k ≤ w1.heap.size) (o : Obj) : Drawn g k w (w1.alloc o) := ⟨h.os, h.tape, h.output, Nat.le_trans h.size (by simp), fun i hi hg => (Below.heap_alloc w1 o i (Nat.lt_of_lt_of_le hi hk)).trans (h.block i hi hg)⟩
end Go.Proofs.Ytepdgbgolopejaa
