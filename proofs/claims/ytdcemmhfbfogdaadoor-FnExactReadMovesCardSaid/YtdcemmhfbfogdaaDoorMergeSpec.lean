/- Moves taken together: the plain part, and the reference's walk. -/
import Derived.Test.YtdcemmhfbfogdaaDoorMoveRows
import Derived.Test.YtdcemmhfbfogdaaDoorMem3
namespace Go.Proofs.YtdcemmhfbfogdaaDoor
open Go.RowKit
set_option linter.unusedVariables false
set_option linter.unusedSimpArgs false
set_option maxRecDepth 100000

/-- The cells of moves, side by side. -/
def mvRow (L : List (Int × Int × Int)) : List Value := (L.map fun z => [Value.int .i8 z.1, Value.int .i8 z.2.1, Value.int .i16 z.2.2]).flatten
theorem mvRow_snoc (L : List (Int × Int × Int)) (a b x : Int) : mvRow (L ++ [(a, b, x)]) = mvRow L ++ [.int .i8 a, .int .i8 b, .int .i16 x] := by
  simp [mvRow]
theorem mvRow_len (L : List (Int × Int × Int)) : (mvRow L).length = L.length * 3 := by
  induction L with
  | nil => rfl
  | cons z L ih => simp only [mvRow, List.map_cons, List.flatten_cons, List.length_append, List.length_cons, List.length_nil] at ih ⊢; omega
/-- Two rows with the same moves. -/
theorem c_eqOwnMove (v v' : Value) (base base' : Nat) (L : List (Int × Int × Int)) (w : World) (h : w.ownsRow base 62 3 v L.length (mvRow L)) (h' : w.ownsRow base' 62 3 v' L.length (mvRow L)) (hn : L.length ≤ 1048576) :
    Calls Tryd.prog 20 #[v, v'] w fun e w' => e = .returned (.bool true) ∧ Below w.heap.size w w' := by
  obtain ⟨A, c, rfl, _⟩ := own_form h
  obtain ⟨B, c', rfl, _⟩ := own_form h'
  exact c_eqMoveS A B L.length c c' _ _ _ w (movesAt_of (own_rd h)) (movesAt_of (own_rd h')) hn
def sumAB (s t g : Nat → Int) (a b : Int) : Nat → Int
  | 0 => 0
  | k + 1 => if s k = a ∧ t k = b then sumAB s t g a b k + g k else sumAB s t g a b k
theorem sumAB_bd {s t g : Nat → Int} {n : Nat} (h : ∀ j, j < n → 1 ≤ g j ∧ g j ≤ 5000) (a b : Int) : ∀ k, k ≤ n → 0 ≤ sumAB s t g a b k ∧ sumAB s t g a b k ≤ 5000 * k
  | 0, _ => by simp [sumAB]
  | k + 1, hk => by
    have ih := sumAB_bd (s := s) (t := t) h a b k (by omega)
    have := h k (by omega)
    unfold sumAB
    split <;> constructor <;> omega
/-- The moves of the first p pairs of places. -/
def mrgL (s t g : Nat → Int) (n : Nat) : Nat → List (Int × Int × Int)
  | 0 => []
  | p + 1 => if 0 < sumAB s t g ((p / 5 : Nat) : Int) ((p % 5 : Nat) : Int) n then mrgL s t g n p ++ [(((p / 5 : Nat) : Int), ((p % 5 : Nat) : Int), sumAB s t g ((p / 5 : Nat) : Int) ((p % 5 : Nat) : Int) n)] else mrgL s t g n p
theorem mrgL_len (s t g : Nat → Int) (n : Nat) : ∀ p, (mrgL s t g n p).length ≤ p
  | 0 => Nat.le_refl _
  | p + 1 => by
    have := mrgL_len s t g n p
    unfold mrgL
    split
    · rw [List.length_append, List.length_singleton]; omega
    · omega
def mrgOk (s t g : Nat → Int) (n p : Nat) : Bool := allB p fun q => decide (sumAB s t g ((q / 5 : Nat) : Int) ((q % 5 : Nat) : Int) n ≤ 5000)
def mergeF (n : Nat) (s t g : Nat → Int) : List (Int × Int × Int) × Int :=
  if (allB n (fun j => okMove (s j) (t j) (g j)) && decide (n ≤ 60)) = true then (if mrgOk s t g n 25 = true then (mrgL s t g n 25, 0) else ([], 3)) else ([], 1)
theorem mergeF_le (n : Nat) (s t g : Nat → Int) : (mergeF n s t g).1.length ≤ 1048576 := by
  unfold mergeF
  split
  · split
    · have := mrgL_len s t g n 25; show (mrgL s t g n 25).length ≤ _; omega
    · simp
  · simp
theorem okMove_all' {s t g : Int} (h : okMove s t g = true) : (0 ≤ s ∧ s < 5) ∧ (0 ≤ t ∧ t < 5) ∧ 1 ≤ g ∧ g ≤ 5000 := by
  simp [okMove, mayMove, inB] at h
  omega

end Go.Proofs.YtdcemmhfbfogdaaDoor
