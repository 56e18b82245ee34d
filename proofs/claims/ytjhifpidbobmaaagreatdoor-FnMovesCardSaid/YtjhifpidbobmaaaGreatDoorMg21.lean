/- Texts laid together: Drawn, EvOps. -/
import Derived.Test.YtjhifpidbobmaaaGreatDoorMg20
import Derived.Test.YtjhifpidbobmaaaGreatDoorMg02
/- The worlds of a drawing. -/
namespace Go.Proofs.YtjhifpidbobmaaaGreatDoor
open Go.RowKit
set_option linter.unusedVariables false
set_option linter.unusedSimpArgs false
set_option maxRecDepth 100000

theorem Tou.trans {g : Nat} {w w1 w2 : World} (h : Tou g w w1) (h' : Tou g w1 w2) : Tou g w w2 := ⟨h'.os.trans h.os, h'.tape.trans h.tape, h'.output.trans h.output, h'.size.trans h.size, fun k hk => (h'.block k hk).trans (h.block k hk)⟩
theorem Src.tou {g N b : Nat} {A : Option Addr} {cap : Nat} {xs : List Int} {w w1 : World} (h : Src g N A cap xs w) (ht : Tou b w w1) (hb : g ≠ b) (hA : ∀ ad, A = some ad → xs ≠ [] → ad.block ≠ b) : Src g N A cap xs w1 := by
  obtain ⟨⟨at_, sd, ha, hs, hk⟩, hB, hp⟩ := h
  exact ⟨⟨at_, sd, ha, hs, blk_tou hk ht hb⟩, hB.tou hA ht, hp⟩
theorem Src.below {g N : Nat} {A : Option Addr} {cap : Nat} {xs : List Int} {w w1 : World} (h : Src g N A cap xs w) (hb : Below w.heap.size w w1) : Src g N A cap xs w1 := by
  obtain ⟨⟨at_, sd, ha, hs, hk⟩, hB, hp⟩ := h
  exact ⟨⟨at_, sd, ha, hs, blk_below hk hb⟩, hB.below hb, hp⟩
/-- The worlds of a drawing: but for the source's block, what lay below lies. -/
structure Drawn (g k : Nat) (w w1 : World) : Prop where
  os : w1.os = w.os
  tape : w1.tape = w.tape
  output : w1.output = w.output
  size : w.heap.size ≤ w1.heap.size
  block : ∀ i, i < k → i ≠ g → w1.heap[i]? = w.heap[i]?
theorem Drawn.tou {g k : Nat} {w w1 w2 : World} (h : Drawn g k w w1) (ht : Tou g w1 w2) : Drawn g k w w2 := ⟨ht.os.trans h.os, ht.tape.trans h.tape, ht.output.trans h.output, by rw [ht.size]; exact h.size, fun i hi hg => (ht.block i hg).trans (h.block i hi hg)⟩
theorem Drawn.touB {g k b : Nat} {w w1 w2 : World} (h : Drawn g k w w1) (ht : Tou b w1 w2) (hb : k ≤ b) : Drawn g k w w2 := ⟨ht.os.trans h.os, ht.tape.trans h.tape, ht.output.trans h.output, by rw [ht.size]; exact h.size, fun i hi hg => (ht.block i (by omega)).trans (h.block i hi hg)⟩
theorem Drawn.alloc {g k : Nat} {w w1 : World} (h : Drawn g k w w1) (hk : k ≤ w1.heap.size) (o : Obj) : Drawn g k w (w1.alloc o) := ⟨h.os, h.tape, h.output, Nat.le_trans h.size (by simp), fun i hi hg => (Below.heap_alloc w1 o i (Nat.lt_of_lt_of_le hi hk)).trans (h.block i hi hg)⟩
end Go.Proofs.YtjhifpidbobmaaaGreatDoor
/- Loads and stores of whole rows, as events that are met by their operation's own form. -/
namespace Go.Proofs.YtjhifpidbobmaaaGreatDoor
open Go.RowKit
set_option linter.unusedVariables false
section
variable {P : Program} {ops : Array Oper} {rest : List Oper} {a : Act} {Q : Exit → Act → World → Prop} {w : World} {dst : Option Tmp} {ty' : TypeId} {pos : String} {after : Array Edge}
/-- A whole store. -/
theorem ev_st (T : TypeId) (p x : Nat) (g : Nat) (cells : Array Value) (t : TypeId) (old : Array Value)
    (hx : a.eval (.tmp p) = .pointer (some ⟨g, 0, none⟩)) (hy : a.eval (.tmp x) = .agg cells)
    (hg : w.heap[g]? = some (.cells old t (0, 0))) (hi : (P.info? T).map (·.size) = some cells.size)
    (hold : old.size = cells.size) (h1 : cells.all (·.oneCell') = true)
    (h : ∀ w1, w1.heap[g]? = some (.cells cells t (0, 0)) → Tou g w w1 → wpList P ops Q rest (a.put dst undef) w1) :
    wpList P ops Q ({ dst := dst, op := .store T (.tmp p) (.tmp x), type := ty', pos := pos, after := after, guard := none } :: rest) a w :=
  ev_store_row rfl T (.tmp p) (.tmp x) rfl g cells hx hy t old hg hi hold h1 h
/-- A whole load. -/
theorem ev_ld (T : TypeId) (p : Nat) (g : Nat) (t : TypeId) (cs : Array Value) (fr : Nat × Nat) (d : TypeDesc)
    (hx : a.eval (.tmp p) = .pointer (some ⟨g, 0, none⟩)) (hg : w.heap[g]? = some (.cells cs t fr))
    (hu : P.underlying T = some d) (hd : (match d with | .struct _ | .array _ _ => true | _ => false) = true) (hi : (P.info? T).map (·.size) = some cs.size)
    (h : wpList P ops Q rest (a.put dst (.agg cs)) w) :
    wpList P ops Q ({ dst := dst, op := .load T (.tmp p), type := ty', pos := pos, after := after, guard := none } :: rest) a w :=
  wpList_load_row rfl T (.tmp p) rfl g hx t cs fr d hg hu hd hi h
end
end Go.Proofs.YtjhifpidbobmaaaGreatDoor
