/- Holes out of a text: plain lists. -/
import Derived.Test.YtcbegcekdmmjpaaHolesText
import Derived.Test.YtcbegcekdmmjpaaHolesComp
import Derived.Test.YtcbegcekdmmjpaaSplitPure
namespace Go.Proofs.Ytcbegcekdmmjpaa
open Go.RowKit
set_option linter.unusedVariables false
set_option linter.unusedSimpArgs false

theorem mk_congr {f g : Nat → Nat → Bool} (h : ∀ x y, x < 8 → y < 8 → f x y = g x y) : mk f = mk g :=
  holes_ext (mk8 _) (mk8 _) fun x y hx hy => by rw [hole_mk _ hx hy, hole_mk _ hx hy, h x y hx hy]
/-- The stitches with f, the first n of all. -/
def mkN (f : Nat → Nat → Bool) (n : Nat) : List Int := mk fun x y => decide (8 * y + x < n) && f x y
theorem mkN8 (f : Nat → Nat → Bool) (n : Nat) : Holes8 (mkN f n) := mk8 _
theorem mkN_zero (f : Nat → Nat → Bool) : mkN f 0 = noHoles := by
  have : mkN f 0 = mk fun _ _ => false := mk_congr fun x y _ _ => by simp
  rw [this]; decide
theorem mkN_all (f : Nat → Nat → Bool) : mkN f 64 = mk f := mk_congr fun x y hx hy => by
  have : decide (8 * y + x < 64) = true := by simp; omega
  rw [this, Bool.true_and]
theorem mkN_no {f : Nat → Nat → Bool} {k j : Nat} (hj : j < 8) (hn : f j k = false) : mkN f (8 * k + j + 1) = mkN f (8 * k + j) :=
  mk_congr fun x y hx hy => by
    by_cases e : 8 * y + x = 8 * k + j
    · have e1 : x = j := by omega
      have e2 : y = k := by omega
      subst e1; subst e2
      simp [hn]
    · rw [show decide (8 * y + x < 8 * k + j + 1) = decide (8 * y + x < 8 * k + j) by simp; omega]
theorem mkN_yes {f : Nat → Nat → Bool} {k j : Nat} (hk : k < 8) (hj : j < 8) (hn : f j k = true) : mkN f (8 * k + j + 1) = addAt (mkN f (8 * k + j)) j k :=
  holes_ext (mk8 _) ((mkN8 _ _).addAt hj) fun x y hx hy => by
    rw [hole_addAt (mkN8 _ _) hj hk hx hy, mkN, mkN, hole_mk _ hx hy, hole_mk _ hx hy]
    by_cases e : 8 * y + x = 8 * k + j
    · have e1 : x = j := by omega
      have e2 : y = k := by omega
      subst e1; subst e2
      simp [hn]
    · rw [show decide (8 * y + x < 8 * k + j + 1) = decide (8 * y + x < 8 * k + j) by simp; omega]
      have : (decide (x = j) && decide (y = k)) = false := by simp; omega
      rw [this, Bool.false_or]
/-- Where a text has a hole. -/
def fT (t : List UInt8) (x y : Nat) : Bool := decide (t[9 * y + x]? = some 111)
/-- What the program's ReadHoles hands back. -/
def readF (t : List UInt8) : List Int × Int := if t.length = 72 then (if txtT (mk (fT t)) 8 = t then (mk (fT t), 0) else (noHoles, 5)) else (noHoles, 5)
def rowB (l : List UInt8) : Bool := l.length == 8 && l.all (fun c => c == 111 || c == 46)
def fL (L : List (List UInt8)) (x y : Nat) : Bool := decide ((L.getD y [])[x]? = some 111)
/-- What the reference's ReadHoles hands back, by the lines. -/
def readS (L : List (List UInt8)) : List Int × Int := if L.length = 9 ∧ L.getD 8 [] = [] ∧ (List.range 8).all (fun y => rowB (L.getD y [])) = true then (mk (fL L), 0) else (noHoles, 5)
theorem readF8 (t : List UInt8) : Holes8 (readF t).1 := by
  unfold readF
  split
  · split
    · exact mk8 _
    · exact noHoles8
  · exact noHoles8
theorem rowB_iff {l : List UInt8} : rowB l = true ↔ l.length = 8 ∧ ∀ c ∈ l, c = 111 ∨ c = 46 := by
  simp [rowB]
theorem joinD_len {d : List (List UInt8)} (h : ∀ l ∈ d, l.length = 8) : (joinD 10 d).length = 9 * d.length := by
  induction d with
  | nil => rfl
  | cons l d ih =>
    have h1 := ih fun l hl => h l (by simp [hl])
    have h2 := h l (by simp)
    simp only [joinD, List.flatMap_cons, List.length_append, List.length_cons, List.length_nil] at h1 ⊢
    omega
theorem joinD_get : ∀ {d : List (List UInt8)}, (∀ l ∈ d, l.length = 8) → ∀ y x, x < 8 → y < d.length → (joinD 10 d)[9 * y + x]? = (d.getD y [])[x]?
  | [], _, y, x, _, hy => by simp at hy
  | l :: d, h, 0, x, hx, _ => by
    have h2 := h l (by simp)
    simp only [joinD, List.flatMap_cons, Nat.mul_zero, Nat.zero_add, List.getD_cons_zero, List.append_assoc]
    rw [List.getElem?_append_left (by omega)]
  | l :: d, h, y + 1, x, hx, hy => by
    have h2 := h l (by simp)
    have ih := joinD_get (d := d) (fun l hl => h l (by simp [hl])) y x hx (by simpa using hy)
    simp only [joinD, List.flatMap_cons, List.getD_cons_succ] at ih ⊢
    rw [List.getElem?_append_right (by simp; omega), ← ih]
    congr 1
    simp; omega
theorem rowT_ok (hs : List Int) (y : Nat) : rowB (rowT hs y 8) = true := by
  refine rowB_iff.2 ⟨rowT_len hs y 8, fun c hc => ?_⟩
  simp only [rowT, List.mem_map] at hc
  obtain ⟨x, _, rfl⟩ := hc
  cases hole hs (x : Int) (y : Int) <;> simp [ch]
theorem txt_parts (hs : List Int) : Parts 10 (txtT hs 8) ((List.range 8).map fun y => rowT hs y 8) [] := by
  refine ⟨by simp [txtT, joinD, List.flatMap_map], fun l hl => ?_, by simp⟩
  obtain ⟨y, _, rfl⟩ := List.mem_map.1 hl
  intro hm
  rcases (rowB_iff.1 (rowT_ok hs y)).2 _ hm with h | h <;> cases h
theorem readS_eq (t : List UInt8) : readS (splitL 10 t) = readF t := by
  have hp := splitS_parts (by_ := 10) t
  unfold splitL
  generalize hsp : splitS 10 t = s at *
  obtain ⟨d, c⟩ := s
  simp only at hp ⊢
  by_cases hc : (d ++ [c]).length = 9 ∧ (d ++ [c]).getD 8 [] = [] ∧ (List.range 8).all (fun y => rowB ((d ++ [c]).getD y [])) = true
  · rw [readS, if_pos hc]
    obtain ⟨h1, h2, h3⟩ := hc
    have h3 : ∀ y, y < 8 → rowB ((d ++ [c]).getD y []) = true := fun y hy => List.all_eq_true.1 h3 y (List.mem_range.2 hy)
    have hd : d.length = 8 := by simpa using h1
    have hc0 : c = [] := by simpa [List.getD_eq_getElem?_getD, hd] using h2
    subst hc0
    have hg : ∀ y, y < 8 → (d ++ [[]]).getD y [] = d.getD y [] := fun y hy => by
      rw [List.getD_eq_getElem?_getD, List.getD_eq_getElem?_getD, List.getElem?_append_left (by omega)]
    have hr : ∀ y, y < 8 → rowB (d.getD y []) = true := fun y hy => by rw [← hg y hy]; exact h3 y hy
    have hl : ∀ l ∈ d, l.length = 8 := fun l hl => by
      obtain ⟨y, hy, rfl⟩ := List.getElem_of_mem hl
      have := (rowB_iff.1 (hr y (by omega))).1
      simpa [List.getD_eq_getElem?_getD, hy] using this
    have ht : t = joinD 10 d := by simpa using hp.eq
    have hm : mk (fL (d ++ [[]])) = mk (fT t) := mk_congr fun x y hx hy => by
      simp only [fL, fT]
      rw [hg y hy, ht, joinD_get hl y x hx (by omega)]
    have hlen : t.length = 72 := by rw [ht, joinD_len hl, hd]
    have hrow : d = (List.range 8).map fun y => rowT (mk (fT t)) y 8 := by
      apply List.ext_getElem
      · simp [hd]
      · intro y h1 h2
        have hy : y < 8 := by omega
        have hdy : d.getD y [] = d[y] := by simp [List.getD_eq_getElem?_getD, h1]
        obtain ⟨r1, r2⟩ := rowB_iff.1 (hr y hy)
        rw [hdy] at r1 r2
        simp only [List.getElem_map, List.getElem_range]
        apply List.ext_getElem
        · rw [r1, rowT_len]
        · intro x h3 h4
          have hx : x < 8 := by omega
          have hb := r2 d[y][x] (List.getElem_mem h3)
          simp only [rowT, List.getElem_map, List.getElem_range]
          rw [hole_mk _ hx hy, fT, ht, joinD_get hl y x hx (by omega), hdy, List.getElem?_eq_getElem h3]
          rcases hb with hb | hb <;> rw [hb] <;> rfl
    have htx : txtT (mk (fT t)) 8 = t := by
      have := (txt_parts (mk (fT t))).eq
      rw [← hrow] at this
      rw [this]
      simpa using ht.symm
    rw [readF, if_pos hlen, if_pos htx, hm]
  · rw [readS, if_neg hc, readF]
    by_cases hlen : t.length = 72
    · rw [if_pos hlen]
      by_cases htx : txtT (mk (fT t)) 8 = t
      · exfalso
        have hq := txt_parts (mk (fT t))
        rw [htx] at hq
        have := splitS_of hq
        rw [hsp] at this
        injection this with e1 e2
        refine hc ⟨by rw [e1, e2]; simp, by rw [e1, e2]; simp [List.getD_eq_getElem?_getD], List.all_eq_true.2 fun y hy => ?_⟩
        have hy := List.mem_range.1 hy
        have : (d ++ [c]).getD y [] = rowT (mk (fT t)) y 8 := by
          rw [e1, e2, List.getD_eq_getElem?_getD, List.getElem?_append_left (by simpa using hy)]
          simp [hy]
        rw [this]
        exact rowT_ok _ _
      · rw [if_neg htx]
    · rw [if_neg hlen]
end Go.Proofs.Ytcbegcekdmmjpaa
