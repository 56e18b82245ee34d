/- The first wrong move, and the places at each move: the program's and the reference's answers. -/
import Derived.Test.YtakbgfgbaegaeaaLatRows
namespace Go.Proofs.Ytakbgfgbaegaeaa
open Go.RowKit
set_option linter.unusedVariables false
set_option linter.unusedSimpArgs false
set_option maxRecDepth 100000

def okAll (p0 : List Int) (n : Nat) (s t g : Nat → Int) : Bool := okFive p0 && (allB n (fun j => okMove (s j) (t j) (g j)) && decide (n ≤ 60))
def firstF (p0 : List Int) (n : Nat) (s t g : Nat → Int) : Int × Int :=
  if okAll p0 n s t g = true then (if goodN p0 s t g n = n then (0, 6) else ((goodN p0 s t g n : Nat), 0)) else (0, 1)
/-- How many places PlacesAt hands back, and its code. -/
def placesF (p0 : List Int) (n : Nat) (s t g : Nat → Int) : Nat × Int :=
  if okAll p0 n s t g = true then (if goodN p0 s t g n = n then (n, 0) else (0, 4)) else (0, 1)
theorem placesF_le (p0 : List Int) (n : Nat) (s t g : Nat → Int) : (placesF p0 n s t g).1 ≤ n := by
  unfold placesF
  split
  · split <;> simp
  · simp
theorem atN_len {p0 : List Int} (h : p0.length = 5) (s t g : Nat → Int) : ∀ k, (atN p0 s t g k).length = 5
  | 0 => h
  | k + 1 => by simp [atN, stepP, addAtP, atN_len h s t g k]
section
variable (p0 : List Int) (A : Option Addr) (n c : Nat) (s t g : Nat → Int) (w : World)
end
end Go.Proofs.Ytakbgfgbaegaeaa
