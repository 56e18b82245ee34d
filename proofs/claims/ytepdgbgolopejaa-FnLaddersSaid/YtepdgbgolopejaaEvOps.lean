/- Loads and stores of whole rows, as events that are met by their operation's own form. -/
import Derived.Test.YtepdgbgolopejaaMem2
namespace Go.Proofs.Ytepdgbgolopejaa
open Go.RowKit
set_option linter.unusedVariables false
section
variable {P : Program} {ops : Array Oper} {rest : List Oper} {a : Act} {Q : Exit → Act → World → Prop} {w : World} {dst : Option Tmp} {ty' : TypeId} {pos : String} {after : Array Edge}
/-- A whole store. -/
theorem ev_st (T : TypeId) (p x : Nat) (g : Nat) (cells : Array Value) (t : TypeId) (old : Array Value)
    (hx : a.eval (.tmp p) = .pointer (some ⟨g, 0, none⟩)) (hy : a.eval (.tmp x) = .agg cells)
    (hg : w.heap[g]? = some (.cells old t (0, 0))) (hi : (P.info? T).map (·.size) = some cells.size)
    (hold : old.size = cells.size) (h1 : cells.all (·.oneCell') = true)
    (h : ∀ w1, w1.heap[g]? = some (.cells cells t (0, 0)) → Tou g w w1 → wpList P ops Q rest (a.put dst undef) w1) :
    wpList P ops Q ({ dst := dst, op := .store T (.tmp p) (.tmp x), type := ty', pos := pos, after := after, guard := none } :: rest) a w :=
  ev_store_row rfl T (.tmp p) (.tmp x) rfl g cells hx hy t old hg hi hold h1 h
/-- A whole load. -/
theorem ev_ld (T : TypeId) (p : Nat) (g : Nat) (t : TypeId) (cs : Array Value) (fr : Nat × Nat) (d : TypeDesc)
    (hx : a.eval (.tmp p) = .pointer (some ⟨g, 0, none⟩)) (hg : w.heap[g]? = some (.cells cs t fr))
    (hu : P.underlying T = some d) (hd : (match d with | .struct _ | .array _ _ => true | _ => false) = true) (hi : (P.info? T).map (·.size) = some cs.size)
    (h : wpList P ops Q rest (a.put dst (.agg cs)) w) :
    wpList P ops Q ({ dst := dst, op := .load T (.tmp p), type := ty', pos := pos, after := after, guard := none } :: rest) a w :=
  wpList_load_row rfl T (.tmp p) rfl g hx t cs fr d hg hu hd hi h
end
end Go.Proofs.Ytepdgbgolopejaa
