/- Texts laid together: SplitWalk, FabPure. -/
import Derived.Test.YtjhifpidbobmaaaGreatDoorMg23
import Derived.Test.YtjhifpidbobmaaaGreatDoorMg07
import Derived.Test.YtjhifpidbobmaaaGreatDoorMg03
import Derived.Test.YtjhifpidbobmaaaGreatDoorMg01
/- The reference's split of a text at a byte. -/
namespace Go.Proofs.YtjhifpidbobmaaaGreatDoor
open Go.RowKit
set_option linter.unusedVariables false
set_option linter.unusedSimpArgs false
set_option maxRecDepth 100000
/-- Texts as values. -/
def strs (L : List (List UInt8)) : List Value := L.map fun l => .string (str l)
theorem strs_snoc (L : List (List UInt8)) (l : List UInt8) : strs (L ++ [l]) = strs L ++ [.string (str l)] := by simp [strs]
theorem str_cut (a c r : List UInt8) : (str (a ++ c ++ r)).extract a.length (a.length + c.length) = str c := by
  apply ByteArray.ext
  simp [str, ByteArray.data_extract]
theorem str_cut_end (a c : List UInt8) : (str (a ++ c)).extract a.length (str (a ++ c)).size = str c := by
  apply ByteArray.ext
  simp [str, ByteArray.data_extract, ByteArray.size]
theorem str_get (t : List UInt8) (k : Nat) (h : k < (str t).size) (hk : k < t.length) : (str t)[k] = t[k] := by
  show (str t).data[k] = _
  simp [str]
theorem toList_loop (b : ByteArray) : ∀ (n i : Nat) (r : List UInt8), b.size - i = n → ByteArray.toList.loop b i r = r.reverse ++ b.data.toList.drop i := by
  intro n
  induction n with
  | zero =>
    intro i r h
    unfold ByteArray.toList.loop
    have h1 : ¬ i < b.size := by omega
    rw [if_neg h1, List.drop_eq_nil_of_le (by simp only [Array.length_toList]; have : b.size = b.data.size := rfl; omega), List.append_nil]
  | succ n ih =>
    intro i r h
    unfold ByteArray.toList.loop
    have h1 : i < b.size := by omega
    have h2 : i < b.data.toList.length := by simp only [Array.length_toList]; exact h1
    rw [if_pos h1, ih (i + 1) _ (by omega), List.drop_eq_getElem_cons h2]
    have : b.get! i = b.data.toList[i] := by
      simp only [ByteArray.get!, Array.getElem_toList]
      exact getElem!_pos b.data i h1
    simp [this]
theorem str_toList (a : List UInt8) : (str a).toList = a := by
  unfold ByteArray.toList
  rw [toList_loop _ _ 0 [] rfl]
  simp [str]
theorem splitS_take {b : UInt8} {t : List UInt8} {k : Nat} (h : k ≤ t.length) : (joinD b (splitS b (t.take k)).1).length + (splitS b (t.take k)).2.length = k := by
  have := congrArg List.length (splitS_parts (by_ := b) (t.take k)).eq
  simp at this
  omega
theorem splitS_cut {b : UInt8} {t : List UInt8} {k : Nat} (h : k ≤ t.length) : (str t).extract (joinD b (splitS b (t.take k)).1).length k = str (splitS b (t.take k)).2 := by
  have h1 := (splitS_parts (by_ := b) (t.take k)).eq
  have h2 := splitS_take (b := b) h
  have e := str_cut (joinD b (splitS b (t.take k)).1) (splitS b (t.take k)).2 (t.drop k)
  rw [← h1, List.take_append_drop, h2] at e
  exact e
theorem joinD_snoc (b : UInt8) (d : List (List UInt8)) (l : List UInt8) : (joinD b (d ++ [l])).length = (joinD b d).length + l.length + 1 := by
  simp [joinD]; omega
theorem splitS_num (b : UInt8) (l : List UInt8) : (splitS b l).1.length ≤ l.length := by
  have h := congrArg List.length (splitS_parts (by_ := b) l).eq
  have : ∀ d : List (List UInt8), d.length ≤ (joinD b d).length := fun d => by
    induction d with
    | nil => simp
    | cons x d ih => simp [joinD] at ih ⊢; omega
  have := this (splitS b l).1
  rw [List.length_append] at h
  omega
end Go.Proofs.YtjhifpidbobmaaaGreatDoor
/- Rows of stitches: plain lists. -/
namespace Go.Proofs.YtjhifpidbobmaaaGreatDoor
open Go.RowKit
set_option linter.unusedVariables false
set_option linter.unusedSimpArgs false

/-- What a stitch takes, makes and needs. -/
def stT (c : UInt8) : Option (Int × Int × Int) := if c = 107 then some (1, 1, 3) else if c = 100 then some (2, 1, 4) else if c = 105 then some (1, 2, 6) else if c = 111 then some (0, 1, 4) else if c = 98 then some (1, 0, 5) else none
def stAdd (o : Option (Int × Int × Int)) (c : UInt8) : Option (Int × Int × Int) := match o, stT c with
  | some a, some s => some (a.1 + s.1, a.2.1 + s.2.1, a.2.2 + s.2.2)
  | _, _ => none
def rowS (l : List UInt8) : Option (Int × Int × Int) := l.foldl stAdd (some (0, 0, 0))
theorem rowS_snoc (l : List UInt8) (c : UInt8) : rowS (l ++ [c]) = stAdd (rowS l) c := by simp [rowS]
theorem rowS_take {l : List UInt8} {k : Nat} (h : k < l.length) : rowS (l.take (k + 1)) = stAdd (rowS (l.take k)) l[k] := by
  rw [List.take_add_one, List.getElem?_eq_getElem h]; exact rowS_snoc _ _
theorem stAdd_none (r : List UInt8) : r.foldl stAdd none = none := by
  induction r with
  | nil => rfl
  | cons c r ih => exact ih
theorem rowS_none {l : List UInt8} {k : Nat} (h : rowS (l.take k) = none) : rowS l = none := by
  have e : rowS l = (l.drop k).foldl stAdd (rowS (l.take k)) := by
    show l.foldl stAdd _ = (l.drop k).foldl stAdd ((l.take k).foldl stAdd _)
    rw [← List.foldl_append, List.take_append_drop]
  rw [e, h, stAdd_none]
theorem stT_bd {c : UInt8} {s : Int × Int × Int} (h : stT c = some s) : 0 ≤ s.1 ∧ s.1 ≤ 2 ∧ 0 ≤ s.2.1 ∧ s.2.1 ≤ 2 ∧ 3 ≤ s.2.2 ∧ s.2.2 ≤ 6 ∧ 1 ≤ s.1 + s.2.1 := by
  unfold stT at h
  repeat' split at h
  all_goals first | (injection h with h; subst h; decide) | cases h
theorem rowS_bd : ∀ (l : List UInt8) (a : Int × Int × Int), rowS l = some a → 0 ≤ a.1 ∧ a.1 ≤ 2 * l.length ∧ 0 ≤ a.2.1 ∧ a.2.1 ≤ 2 * l.length ∧ 0 ≤ a.2.2 ∧ a.2.2 ≤ 6 * l.length ∧ (l.length : Int) ≤ a.1 + a.2.1 := by
  have key : ∀ (l : List UInt8) (b a : Int × Int × Int), l.foldl stAdd (some b) = some a → b.1 ≤ a.1 ∧ a.1 ≤ b.1 + 2 * l.length ∧ b.2.1 ≤ a.2.1 ∧ a.2.1 ≤ b.2.1 + 2 * l.length ∧ b.2.2 ≤ a.2.2 ∧ a.2.2 ≤ b.2.2 + 6 * l.length ∧ b.1 + b.2.1 + (l.length : Int) ≤ a.1 + a.2.1 := by
    intro l
    induction l with
    | nil => intro b a h; simp at h; subst h; simp
    | cons c l ih =>
      intro b a h
      rw [List.foldl_cons] at h
      cases hs : stT c with
      | none =>
        have : stAdd (some b) c = none := by simp [stAdd, hs]
        rw [this, stAdd_none] at h; cases h
      | some s =>
        have : stAdd (some b) c = some (b.1 + s.1, b.2.1 + s.2.1, b.2.2 + s.2.2) := by simp [stAdd, hs]
        rw [this] at h
        have h1 := ih _ _ h
        have h2 := stT_bd hs
        simp only [List.length_cons] at h1 ⊢
        omega
  intro l a h
  have := key l (0, 0, 0) a h
  simp at this
  omega
/-- The first row with which a fabric is not valid, or -1. -/
def badG (loops : Int) (i : Nat) : List (List UInt8) → Int
  | [] => -1
  | r :: rs => match rowS r with
    | none => (i : Int)
    | some a => if 30 ≤ i ∨ loops = 0 ∨ ¬ a.1 = loops ∨ 60 < a.2.1 then (i : Int) else badG a.2.1 (i + 1) rs
theorem badG_none {loops : Int} {i : Nat} {r : List UInt8} {rs : List (List UInt8)} (h : rowS r = none) : badG loops i (r :: rs) = (i : Int) := by simp [badG, h]
theorem badG_yes {loops : Int} {i : Nat} {r : List UInt8} {rs : List (List UInt8)} {a : Int × Int × Int} (h : rowS r = some a) (hc : 30 ≤ i ∨ loops = 0 ∨ ¬ a.1 = loops ∨ 60 < a.2.1) : badG loops i (r :: rs) = (i : Int) := by simp only [badG, h]; rw [if_pos hc]
theorem badG_no {loops : Int} {i : Nat} {r : List UInt8} {rs : List (List UInt8)} {a : Int × Int × Int} (h : rowS r = some a) (hc : ¬ (30 ≤ i ∨ loops = 0 ∨ ¬ a.1 = loops ∨ 60 < a.2.1)) : badG loops i (r :: rs) = badG a.2.1 (i + 1) rs := by simp only [badG, h]; rw [if_neg hc]
def fabOk (cast : Int) (rows : List (List UInt8)) : Bool := inB cast 1 60 && decide (badG cast 0 rows < 0)
def stV (c : UInt8) : Int × Int × Int := (stT c).getD (0, 0, 0)
def rowV (l : List UInt8) : Int × Int × Int := (rowS l).getD (0, 0, 0)
/-- A read row of texts. -/
theorem drop_cons {L : List (List UInt8)} {k : Nat} (h : k < L.length) : L.drop k = L.getD k [] :: L.drop (k + 1) := by
  rw [List.drop_eq_getElem_cons h]
  simp [List.getD_eq_getElem?_getD, h]
theorem badG_cap : ∀ (L : List (List UInt8)) (loops : Int) (i : Nat), badG loops i L < 0 → L = [] ∨ i + L.length ≤ 30
  | [], _, _, _ => .inl rfl
  | r :: rs, loops, i, h => by
    right
    cases hr : rowS r with
    | none => rw [badG_none hr] at h; omega
    | some a =>
      by_cases hc : 30 ≤ i ∨ loops = 0 ∨ ¬ a.1 = loops ∨ 60 < a.2.1
      · rw [badG_yes hr hc] at h; omega
      · rw [badG_no hr hc] at h
        rcases badG_cap rs _ _ h with e | e
        · subst e; simp only [List.length_singleton]; omega
        · simp only [List.length_cons]; omega
end Go.Proofs.YtjhifpidbobmaaaGreatDoor
