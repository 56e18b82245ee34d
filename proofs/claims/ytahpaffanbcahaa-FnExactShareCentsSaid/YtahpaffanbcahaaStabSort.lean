/- slices.stableCmpFunc over at most 60 places: places 0, 1, .. in the order of their keys, the greatest first, equals as they stood. -/
import Derived.Test.YtahpaffanbcahaaStabMerge
namespace Go.Proofs.Ytahpaffanbcahaa
open Go.RowKit Go.Shelf Go.Lib Go.Sort
set_option linter.unusedVariables false
set_option linter.unusedSimpArgs false

/-- A part that holds its own places, in order. -/
structure Seg (T : Nat → Nat → Prop) (l r : Nat) (d : Array Nat) : Prop where
  asc : Asc T l r d
  inn : ∀ p, l ≤ p → p < r → l ≤ d[p]! ∧ d[p]! < r
  onn : ∀ v, l ≤ v → v < r → ∃ p, l ≤ p ∧ p < r ∧ d[p]! = v
theorem Seg.nil {T : Nat → Nat → Prop} {l r : Nat} {d : Array Nat} (h : r ≤ l) : Seg T l r d := ⟨fun i j _ _ _ => by omega, fun p _ _ => by omega, fun v _ _ => by omega⟩
theorem Seg.congr {T : Nat → Nat → Prop} {l r : Nat} {d e : Array Nat} (h : Seg T l r d) (he : ∀ p, l ≤ p → p < r → e[p]! = d[p]!) : Seg T l r e :=
  ⟨h.asc.congr he, fun p h1 h2 => by rw [he p h1 h2]; exact h.inn p h1 h2, fun v h1 h2 => by
    obtain ⟨p, p1, p2, e⟩ := h.onn v h1 h2
    exact ⟨p, p1, p2, by rw [he p p1 p2, e]⟩⟩
theorem Seg.moved {T : Nat → Nat → Prop} {l r a b : Nat} {d e : Array Nat} (h : Seg T l r d) (hm : Moved a b d e) (hd : r ≤ a ∨ b ≤ l) : Seg T l r e := h.congr fun p h1 h2 => hm.out p (by omega)
theorem Seg.merge {T : Nat → Nat → Prop} {a m b : Nat} {d e : Array Nat} (h1 : Seg T a m d) (h2 : Seg T m b d) (ham : a ≤ m) (hmb : m ≤ b) (h : Mrg T a b d e) : Seg T a b e :=
  ⟨h.asc, fun p p1 p2 => by
    obtain ⟨j, j1, j2, ej⟩ := h.mv.back p p1 p2
    rw [ej]
    by_cases c : j < m
    · have := h1.inn j j1 c; omega
    · have := h2.inn j (by omega) j2; omega, fun v v1 v2 => by
    by_cases c : v < m
    · obtain ⟨p, p1, p2, ep⟩ := h1.onn v v1 c
      obtain ⟨q, q1, q2, eq⟩ := h.mv.forth p p1 (by omega)
      exact ⟨q, q1, q2, by rw [← eq, ep]⟩
    · obtain ⟨p, p1, p2, ep⟩ := h2.onn v (by omega) v2
      obtain ⟨q, q1, q2, eq⟩ := h.mv.forth p (by omega) p2
      exact ⟨q, q1, q2, by rw [← eq, ep]⟩⟩

section
variable (key : Nat → Int)
/-- The greater key first; equals as they stood. -/
def TK (i k : Nat) : Prop := key k < key i ∨ (key i = key k ∧ i < k)
/-- What the comparison says: negative, where the second's key is the lesser. -/
def cfK (i k : Nat) : Int := if key k < key i then -1 else if key i < key k then 1 else 0
theorem TK.trans (x y z : Nat) (h : TK key x y) (k : TK key y z) : TK key x z := by unfold TK at *; omega
theorem TK.irrefl (x : Nat) : ¬ TK key x x := by unfold TK; omega
theorem TK.asymm {x y : Nat} (h : TK key x y) : ¬ TK key y x := by unfold TK at *; omega
theorem TK.total {x y : Nat} (h : x ≠ y) : TK key x y ∨ TK key y x := by unfold TK; omega
theorem lt_cfK (x y : Nat) : ltOf (cfK key) x y = decide (key y < key x) := by
  unfold ltOf cfK
  by_cases h : key y < key x
  · rw [if_pos h]; simp [h]
  · rw [if_neg h]
    split <;> simp [h]
theorem TK.yes {x y : Nat} (h : x < y) (k : ltOf (cfK key) y x = true) : TK key y x := by
  rw [lt_cfK, decide_eq_true_eq] at k; exact .inl k
theorem TK.no {x y : Nat} (h : x < y) (k : ltOf (cfK key) y x = false) : TK key x y := by
  rw [lt_cfK, decide_eq_false_iff_not] at k; unfold TK; omega
variable {key}
theorem cross_seg {a m b : Nat} {d : Array Nat} (h1 : Seg (TK key) a m d) (h2 : Seg (TK key) m b d) : Cross (ltOf (cfK key)) (TK key) a m b d :=
  ⟨fun i j a1 a2 b1 b2 k => TK.yes key (by have := h1.inn i a1 a2; have := h2.inn j b1 b2; omega) k, fun i j a1 a2 b1 b2 k => TK.no key (by have := h1.inn i a1 a2; have := h2.inn j b1 b2; omega) k⟩
theorem insInner_law {a : Nat} : ∀ (j : Nat) (d : Array Nat), a ≤ j → j < d.size → Asc (TK key) a j d → (∀ p, a ≤ p → p < j → d[p]! < d[j]!) → Asc (TK key) a (j + 1) (insInner (ltOf (cfK key)) a j d) ∧ Moved a (j + 1) d (insInner (ltOf (cfK key)) a j d) := by
  intro j
  induction j with
  | zero =>
    intro d h1 h2 h3 h4
    rw [insInner_stop _ _ _ _ (.inl (Nat.zero_le _))]
    exact ⟨fun p q _ _ _ => by omega, .refl _ _ _⟩
  | succ j ih =>
    intro d h1 h2 h3 h4
    by_cases c : a < j + 1
    · cases hl : ltOf (cfK key) d[j + 1]! d[j]!
      · rw [insInner_stop _ _ _ _ (.inr (by simpa using hl))]
        refine ⟨fun p q p1 p2 p3 => ?_, .refl _ _ _⟩
        by_cases e : q < j + 1
        · exact h3 p q p1 p2 e
        · obtain rfl : q = j + 1 := by omega
          have hj := TK.no key (h4 j (by omega) (by omega)) hl
          by_cases e2 : p = j
          · subst e2; exact hj
          · exact TK.trans key _ _ _ (h3 p j p1 (by omega) (by omega)) hj
      · rw [insInner_go _ _ _ _ c (by simpa using hl)]
        simp only [Nat.add_sub_cancel]
        have hz : (swp d (j + 1) j).size = d.size := swp_size _ _ _
        have g : ∀ k, (swp d (j + 1) j)[k]! = if k = j then d[j + 1]! else if k = j + 1 then d[j]! else d[k]! := fun k => by rw [swp_get d h2 (by omega) k]
        have ge : ∀ k, k < j → (swp d (j + 1) j)[k]! = d[k]! := fun k hk => by rw [g, if_neg (by omega), if_neg (by omega)]
        have gj : (swp d (j + 1) j)[j]! = d[j + 1]! := by rw [g, if_pos rfl]
        have gk : (swp d (j + 1) j)[j + 1]! = d[j]! := by rw [g, if_neg (by omega), if_pos rfl]
        obtain ⟨k1, k2⟩ := ih (swp d (j + 1) j) (by omega) (by omega) (fun p q p1 p2 p3 => by rw [ge p (by omega), ge q p3]; exact h3 p q p1 p2 (by omega)) (fun p p1 p2 => by rw [ge p p2, gj]; exact h4 p p1 (by omega))
        have hT := TK.yes key (h4 j (by omega) (by omega)) hl
        have mS : Moved a (j + 2) d (swp d (j + 1) j) := ⟨hz, fun p hp => by rw [g, if_neg (by omega), if_neg (by omega)], fun i i1 i2 => by
          by_cases e1 : i = j
          · exact ⟨j + 1, by omega, by omega, by rw [e1, gj]⟩
          · by_cases e2 : i = j + 1
            · exact ⟨j, by omega, by omega, by rw [e2, gk]⟩
            · exact ⟨i, i1, by omega, ge i (by omega)⟩, fun i i1 i2 => by
          by_cases e1 : i = j
          · exact ⟨j + 1, by omega, by omega, by rw [e1, gk]⟩
          · by_cases e2 : i = j + 1
            · exact ⟨j, by omega, by omega, by rw [e2, gj]⟩
            · exact ⟨i, i1, by omega, (ge i (by omega)).symm⟩⟩
        refine ⟨fun p q p1 p2 p3 => ?_, mS.trans (k2.mono (Nat.le_refl _) (by omega))⟩
        by_cases e : q < j + 1
        · exact k1 p q p1 p2 e
        · obtain rfl : q = j + 1 := by omega
          obtain ⟨i, i1, i2, ei⟩ := k2.back p p1 p2
          rw [ei, k2.out (j + 1) (.inr (Nat.le_refl _)), gk]
          by_cases e2 : i = j
          · subst e2; rw [gj]; exact hT
          · rw [ge i (by omega)]; exact h3 i j i1 (by omega) (by omega)
    · rw [insInner_stop _ _ _ _ (.inl (by omega))]
      exact ⟨fun p q _ _ _ => by omega, .refl _ _ _⟩
theorem insOuter_law {a b : Nat} : ∀ (n i : Nat) (d : Array Nat), b - i = n → a ≤ i → i ≤ b → b ≤ d.size → Seg (TK key) a i d → (∀ p, i ≤ p → p < b → d[p]! = p) → Seg (TK key) a b (insOuter (ltOf (cfK key)) a b i d) ∧ Moved a b d (insOuter (ltOf (cfK key)) a b i d) := by
  intro n
  induction n with
  | zero =>
    intro i d hn h1 h2 h3 h4 h5
    obtain rfl : i = b := by omega
    rw [insOuter_stop _ _ _ _ _ (by omega)]
    exact ⟨h4, .refl _ _ _⟩
  | succ n ih =>
    intro i d hn h1 h2 h3 h4 h5
    rw [insOuter_go _ _ _ _ _ (by omega)]
    have e : d[i]! = i := h5 i (Nat.le_refl _) (by omega)
    obtain ⟨k1, k2⟩ := insInner_law (key := key) (a := a) i d h1 (by omega) h4.asc (fun p p1 p2 => by rw [e]; exact (h4.inn p p1 p2).2)
    obtain ⟨m1, m2⟩ := ih (i + 1) _ (by omega) (by omega) (by omega) (by rw [k2.size]; exact h3) ⟨k1, fun p p1 p2 => by
      obtain ⟨j, j1, j2, ej⟩ := k2.back p p1 p2
      rw [ej]
      by_cases c : j < i
      · have := h4.inn j j1 c; omega
      · obtain rfl : j = i := by omega
        omega, fun v v1 v2 => by
      by_cases c : v < i
      · obtain ⟨p, p1, p2, ep⟩ := h4.onn v v1 c
        obtain ⟨q, q1, q2, eq⟩ := k2.forth p p1 (by omega)
        exact ⟨q, q1, q2, by rw [← eq, ep]⟩
      · obtain rfl : v = i := by omega
        obtain ⟨q, q1, q2, eq⟩ := k2.forth v h1 (by omega)
        exact ⟨q, q1, q2, by rw [← eq, e]⟩⟩ (fun p p1 p2 => by rw [k2.out p (by omega)]; exact h5 p (by omega) p2)
    exact ⟨m1, (k2.mono (Nat.le_refl _) (by omega)).trans m2⟩
theorem ins_seg {a b : Nat} {d : Array Nat} (h1 : a ≤ b) (h2 : b ≤ d.size) (h : ∀ p, a ≤ p → p < b → d[p]! = p) : Seg (TK key) a b (insertionSort (ltOf (cfK key)) d a b) ∧ Moved a b d (insertionSort (ltOf (cfK key)) d a b) := by
  unfold insertionSort
  by_cases c : a < b
  · refine insOuter_law (key := key) _ (a + 1) d rfl (by omega) (by omega) h2 ⟨fun p q _ _ _ => by omega, fun p p1 p2 => ?_, fun v v1 v2 => ⟨a, Nat.le_refl _, by omega, ?_⟩⟩ fun p p1 p2 => h p (by omega) p2
    · rw [h p p1 (by omega)]; omega
    · rw [h a (Nat.le_refl _) c]; omega
  · rw [insOuter_stop _ _ _ _ _ (by omega)]
    exact ⟨.nil (by omega), .refl _ _ _⟩
end
end Go.Proofs.Ytahpaffanbcahaa
