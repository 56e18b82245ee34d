/- The reference's split of a text at a byte. -/
import Derived.Test.YtepdgbgolopejaaSplitPure
import Derived.Test.YtepdgbgolopejaaMem4
import Derived.Test.YtepdgbgolopejaaScalars
import Derived.Test.YtepdgbgolopejaaFlat2
namespace Go.Proofs.Ytepdgbgolopejaa
open Go.RowKit
set_option linter.unusedVariables false
set_option linter.unusedSimpArgs false
set_option maxRecDepth 100000
/-- Texts as values. -/
def strs (L : List (List UInt8)) : List Value := L.map fun l => .string (str l)
theorem strs_snoc (L : List (List UInt8)) (l : List UInt8) : strs (L ++ [l]) = strs L ++ [.string (str l)] := by simp [strs]
theorem str_cut (a c r : List UInt8) : (str (a ++ c ++ r)).extract a.length (a.length + c.length) = str c := by
  apply ByteArray.ext
  simp [str, ByteArray.data_extract]
theorem str_cut_end (a c : List UInt8) : (str (a ++ c)).extract a.length (str (a ++ c)).size = str c := by
  apply ByteArray.ext
  simp [str, ByteArray.data_extract, ByteArray.size]
theorem str_get (t : List UInt8) (k : Nat) (h : k < (str t).size) (hk : k < t.length) : (str t)[k] = t[k] := by
  show (str t).data[k] = _
  simp [str]
theorem toList_loop (b : ByteArray) : ∀ (n i : Nat) (r : List UInt8), b.size - i = n → ByteArray.toList.loop b i r = r.reverse ++ b.data.toList.drop i := by
  intro n
  induction n with
  | zero =>
    intro i r h
    unfold ByteArray.toList.loop
    have h1 : ¬ i < b.size := by omega
    rw [if_neg h1, List.drop_eq_nil_of_le (by simp only [Array.length_toList]; have : b.size = b.data.size := rfl; omega), List.append_nil]
  | succ n ih =>
    intro i r h
    unfold ByteArray.toList.loop
    have h1 : i < b.size := by omega
    have h2 : i < b.data.toList.length := by simp only [Array.length_toList]; exact h1
    rw [if_pos h1, ih (i + 1) _ (by omega), List.drop_eq_getElem_cons h2]
    have : b.get! i = b.data.toList[i] := by
      simp only [ByteArray.get!, Array.getElem_toList]
      exact getElem!_pos b.data i h1
    simp [this]
theorem str_toList (a : List UInt8) : (str a).toList = a := by
  unfold ByteArray.toList
  rw [toList_loop _ _ 0 [] rfl]
  simp [str]
theorem splitS_take {b : UInt8} {t : List UInt8} {k : Nat} (h : k ≤ t.length) : (joinD b (splitS b (t.take k)).1).length + (splitS b (t.take k)).2.length = k := by
  have := congrArg List.length (splitS_parts (by_ := b) (t.take k)).eq
  simp at this
  omega
theorem splitS_cut {b : UInt8} {t : List UInt8} {k : Nat} (h : k ≤ t.length) : (str t).extract (joinD b (splitS b (t.take k)).1).length k = str (splitS b (t.take k)).2 := by
  have h1 := (splitS_parts (by_ := b) (t.take k)).eq
  have h2 := splitS_take (b := b) h
  have e := str_cut (joinD b (splitS b (t.take k)).1) (splitS b (t.take k)).2 (t.drop k)
  rw [← h1, List.take_append_drop, h2] at e
  exact e
theorem joinD_snoc (b : UInt8) (d : List (List UInt8)) (l : List UInt8) : (joinD b (d ++ [l])).length = (joinD b d).length + l.length + 1 := by
  simp [joinD]; omega
theorem splitS_num (b : UInt8) (l : List UInt8) : (splitS b l).1.length ≤ l.length := by
  have h := congrArg List.length (splitS_parts (by_ := b) l).eq
  have : ∀ d : List (List UInt8), d.length ≤ (joinD b d).length := fun d => by
    induction d with
    | nil => simp
    | cons x d ih => simp [joinD] at ih ⊢; omega
  have := this (splitS b l).1
  rw [List.length_append] at h
  omega
end Go.Proofs.Ytepdgbgolopejaa
