/- The worlds of a drawing, below a bound. -/
import Derived.Test.YtepdgbgolopejaaDrawn
namespace Go.Proofs.Ytepdgbgolopejaa
open Go.RowKit
set_option linter.unusedVariables false

theorem Drawn.belowW {g k B : Nat} {w w1 : World} (h : Drawn g k w w1) (hg : B ≤ g) (hk : B ≤ k) : Below B w w1 := ⟨h.os, h.tape, h.output, h.size, fun i hi => h.block i (by omega) (by omega)⟩
theorem Drawn.thenW {g k : Nat} {w w1 w2 : World} (h : Drawn g k w w1) (hb : Below k w1 w2) : Drawn g k w w2 := ⟨hb.os.trans h.os, hb.tape.trans h.tape, hb.output.trans h.output, Nat.le_trans h.size hb.size, fun i hi hg => (hb.block i hi).trans (h.block i hi hg)⟩
theorem Drawn.drawnW {g k : Nat} {w w1 w2 : World} (h : Drawn g k w w1) (hb : Drawn g k w1 w2) : Drawn g k w w2 := ⟨hb.os.trans h.os, hb.tape.trans h.tape, hb.output.trans h.output, Nat.le_trans h.size hb.size, fun i hi hg => (hb.block i hi hg).trans (h.block i hi hg)⟩
theorem Src.belowW {g N B : Nat} {A : Option Addr} {cap : Nat} {xs : List Int} {w w1 : World} (h : Src g N A cap xs w) (hb : Below B w w1) (hg : g < B) (hA : ∀ ad, A = some ad → xs ≠ [] → ad.block < B) : Src g N A cap xs w1 := by
  obtain ⟨⟨at_, sd, ha, hs, hk⟩, hB, hp⟩ := h
  refine ⟨⟨at_, sd, ha, hs, (hb.block g hg).trans hk⟩, ⟨fun j u hj => ?_, hB.bd, hB.num⟩, hp⟩
  obtain ⟨ad, e, hc⟩ := hB.row j u hj
  have hne : xs ≠ [] := fun e2 => by rw [e2] at hj; simp [nums] at hj
  refine ⟨ad, e, (World.cell?_of_block ?_).trans hc⟩
  show w1.heap[(ad.add j).block]? = w.heap[(ad.add j).block]?
  have : (ad.add j).block = ad.block := by unfold Addr.add; split <;> rfl
  rw [this]
  exact hb.block _ (hA ad e hne)
theorem Src.up {g N N' : Nat} {A : Option Addr} {cap : Nat} {xs : List Int} {w : World} (h : Src g N A cap xs w) (hN : N ≤ N') : Src g N' A cap xs w := by
  obtain ⟨⟨at_, sd, ha, hs, hk⟩, hB, hp⟩ := h
  exact ⟨⟨at_, sd, Nat.le_trans ha hN, hs, hk⟩, hB, hp⟩
end Go.Proofs.Ytepdgbgolopejaa
