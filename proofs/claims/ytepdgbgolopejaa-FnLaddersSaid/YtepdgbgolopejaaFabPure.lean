/- Rows of stitches: plain lists. -/
import Derived.Test.YtepdgbgolopejaaSplitWalk
namespace Go.Proofs.Ytepdgbgolopejaa
open Go.RowKit
set_option linter.unusedVariables false
set_option linter.unusedSimpArgs false

/-- What a stitch takes, makes and needs. -/
def stT (c : UInt8) : Option (Int × Int × Int) := if c = 107 then some (1, 1, 3) else if c = 100 then some (2, 1, 4) else if c = 105 then some (1, 2, 6) else if c = 111 then some (0, 1, 4) else if c = 98 then some (1, 0, 5) else none
def stAdd (o : Option (Int × Int × Int)) (c : UInt8) : Option (Int × Int × Int) := match o, stT c with
  | some a, some s => some (a.1 + s.1, a.2.1 + s.2.1, a.2.2 + s.2.2)
  | _, _ => none
def rowS (l : List UInt8) : Option (Int × Int × Int) := l.foldl stAdd (some (0, 0, 0))
theorem rowS_snoc (l : List UInt8) (c : UInt8) : rowS (l ++ [c]) = stAdd (rowS l) c := by simp [rowS]
theorem rowS_take {l : List UInt8} {k : Nat} (h : k < l.length) : rowS (l.take (k + 1)) = stAdd (rowS (l.take k)) l[k] := by
  rw [List.take_add_one, List.getElem?_eq_getElem h]; exact rowS_snoc _ _
theorem stAdd_none (r : List UInt8) : r.foldl stAdd none = none := by
  induction r with
  | nil => rfl
  | cons c r ih => exact ih
theorem rowS_none {l : List UInt8} {k : Nat} (h : rowS (l.take k) = none) : rowS l = none := by
  have e : rowS l = (l.drop k).foldl stAdd (rowS (l.take k)) := by
    show l.foldl stAdd _ = (l.drop k).foldl stAdd ((l.take k).foldl stAdd _)
    rw [← List.foldl_append, List.take_append_drop]
  rw [e, h, stAdd_none]
theorem stT_bd {c : UInt8} {s : Int × Int × Int} (h : stT c = some s) : 0 ≤ s.1 ∧ s.1 ≤ 2 ∧ 0 ≤ s.2.1 ∧ s.2.1 ≤ 2 ∧ 3 ≤ s.2.2 ∧ s.2.2 ≤ 6 ∧ 1 ≤ s.1 + s.2.1 := by
  unfold stT at h
  repeat' split at h
  all_goals first | (injection h with h; subst h; decide) | cases h
theorem rowS_bd : ∀ (l : List UInt8) (a : Int × Int × Int), rowS l = some a → 0 ≤ a.1 ∧ a.1 ≤ 2 * l.length ∧ 0 ≤ a.2.1 ∧ a.2.1 ≤ 2 * l.length ∧ 0 ≤ a.2.2 ∧ a.2.2 ≤ 6 * l.length ∧ (l.length : Int) ≤ a.1 + a.2.1 := by
  have key : ∀ (l : List UInt8) (b a : Int × Int × Int), l.foldl stAdd (some b) = some a → b.1 ≤ a.1 ∧ a.1 ≤ b.1 + 2 * l.length ∧ b.2.1 ≤ a.2.1 ∧ a.2.1 ≤ b.2.1 + 2 * l.length ∧ b.2.2 ≤ a.2.2 ∧ a.2.2 ≤ b.2.2 + 6 * l.length ∧ b.1 + b.2.1 + (l.length : Int) ≤ a.1 + a.2.1 := by
    intro l
    induction l with
    | nil => intro b a h; simp at h; subst h; simp
    | cons c l ih =>
      intro b a h
      rw [List.foldl_cons] at h
      cases hs : stT c with
      | none =>
        have : stAdd (some b) c = none := by simp [stAdd, hs]
        rw [this, stAdd_none] at h; cases h
      | some s =>
        have : stAdd (some b) c = some (b.1 + s.1, b.2.1 + s.2.1, b.2.2 + s.2.2) := by simp [stAdd, hs]
        rw [this] at h
        have h1 := ih _ _ h
        have h2 := stT_bd hs
        simp only [List.length_cons] at h1 ⊢
        omega
  intro l a h
  have := key l (0, 0, 0) a h
  simp at this
  omega
/-- The first row with which a fabric is not valid, or -1. -/
def badG (loops : Int) (i : Nat) : List (List UInt8) → Int
  | [] => -1
  | r :: rs => match rowS r with
    | none => (i : Int)
    | some a => if 30 ≤ i ∨ loops = 0 ∨ ¬ a.1 = loops ∨ 60 < a.2.1 then (i : Int) else badG a.2.1 (i + 1) rs
theorem badG_none {loops : Int} {i : Nat} {r : List UInt8} {rs : List (List UInt8)} (h : rowS r = none) : badG loops i (r :: rs) = (i : Int) := by simp [badG, h]
theorem badG_yes {loops : Int} {i : Nat} {r : List UInt8} {rs : List (List UInt8)} {a : Int × Int × Int} (h : rowS r = some a) (hc : 30 ≤ i ∨ loops = 0 ∨ ¬ a.1 = loops ∨ 60 < a.2.1) : badG loops i (r :: rs) = (i : Int) := by simp only [badG, h]; rw [if_pos hc]
theorem badG_no {loops : Int} {i : Nat} {r : List UInt8} {rs : List (List UInt8)} {a : Int × Int × Int} (h : rowS r = some a) (hc : ¬ (30 ≤ i ∨ loops = 0 ∨ ¬ a.1 = loops ∨ 60 < a.2.1)) : badG loops i (r :: rs) = badG a.2.1 (i + 1) rs := by simp only [badG, h]; rw [if_neg hc]
def fabOk (cast : Int) (rows : List (List UInt8)) : Bool := inB cast 1 60 && decide (badG cast 0 rows < 0)
def stV (c : UInt8) : Int × Int × Int := (stT c).getD (0, 0, 0)
def rowV (l : List UInt8) : Int × Int × Int := (rowS l).getD (0, 0, 0)
/-- A read row of texts. -/
theorem drop_cons {L : List (List UInt8)} {k : Nat} (h : k < L.length) : L.drop k = L.getD k [] :: L.drop (k + 1) := by
  rw [List.drop_eq_getElem_cons h]
  simp [List.getD_eq_getElem?_getD, h]
theorem badG_cap : ∀ (L : List (List UInt8)) (loops : Int) (i : Nat), badG loops i L < 0 → L = [] ∨ i + L.length ≤ 30
  | [], _, _, _ => .inl rfl
  | r :: rs, loops, i, h => by
    right
    cases hr : rowS r with
    | none => rw [badG_none hr] at h; omega
    | some a =>
      by_cases hc : 30 ≤ i ∨ loops = 0 ∨ ¬ a.1 = loops ∨ 60 < a.2.1
      · rw [badG_yes hr hc] at h; omega
      · rw [badG_no hr hc] at h
        rcases badG_cap rs _ _ h with e | e
        · subst e; simp only [List.length_singleton]; omega
        · simp only [List.length_cons]; omega
end Go.Proofs.Ytepdgbgolopejaa
