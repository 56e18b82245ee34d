/- Sorting that keeps the order of equals: plain arrays. -/
import Derived.Sort.Lot0
import Derived.Sort.LotA
import Derived.Sort.WalkA
namespace Go.Proofs.Ytahpaffanbcahaa
open Go.Sort
set_option linter.unusedVariables false
set_option linter.unusedSimpArgs false

section
variable {α : Type} [Inhabited α]
/-- Turned within a part alone. -/
structure Moved (a b : Nat) (d e : Array α) : Prop where
  size : e.size = d.size
  out : ∀ p, p < a ∨ b ≤ p → e[p]! = d[p]!
  back : ∀ i, a ≤ i → i < b → ∃ j, a ≤ j ∧ j < b ∧ e[i]! = d[j]!
  forth : ∀ j, a ≤ j → j < b → ∃ i, a ≤ i ∧ i < b ∧ d[j]! = e[i]!
theorem Moved.refl (a b : Nat) (d : Array α) : Moved a b d d := ⟨rfl, fun _ _ => rfl, fun i h1 h2 => ⟨i, h1, h2, rfl⟩, fun i h1 h2 => ⟨i, h1, h2, rfl⟩⟩
theorem Moved.trans {a b : Nat} {d e f : Array α} (h : Moved a b d e) (k : Moved a b e f) : Moved a b d f :=
  ⟨k.size.trans h.size, fun p hp => (k.out p hp).trans (h.out p hp), fun i h1 h2 => by
    obtain ⟨j, j1, j2, e1⟩ := k.back i h1 h2
    obtain ⟨l, l1, l2, e2⟩ := h.back j j1 j2
    exact ⟨l, l1, l2, e1.trans e2⟩, fun i h1 h2 => by
    obtain ⟨j, j1, j2, e1⟩ := h.forth i h1 h2
    obtain ⟨l, l1, l2, e2⟩ := k.forth j j1 j2
    exact ⟨l, l1, l2, e1.trans e2⟩⟩
theorem Moved.mono {a b a' b' : Nat} {d e : Array α} (h : Moved a b d e) (ha : a' ≤ a) (hb : b ≤ b') : Moved a' b' d e :=
  ⟨h.size, fun p hp => h.out p (by omega), fun i h1 h2 => by
    by_cases c : a ≤ i ∧ i < b
    · obtain ⟨j, j1, j2, e1⟩ := h.back i c.1 c.2
      exact ⟨j, by omega, by omega, e1⟩
    · exact ⟨i, h1, h2, h.out i (by omega)⟩, fun i h1 h2 => by
    by_cases c : a ≤ i ∧ i < b
    · obtain ⟨j, j1, j2, e1⟩ := h.forth i c.1 c.2
      exact ⟨j, by omega, by omega, e1⟩
    · exact ⟨i, h1, h2, (h.out i (by omega)).symm⟩⟩

/-- Two parts of n elements changed places. -/
structure SwR (a b n : Nat) (d e : Array α) : Prop where
  size : e.size = d.size
  get : ∀ p, e[p]! = if a ≤ p ∧ p < a + n then d[b + (p - a)]! else if b ≤ p ∧ p < b + n then d[a + (p - b)]! else d[p]!
theorem SwR.zero (a b : Nat) (d : Array α) : SwR a b 0 d d := ⟨rfl, fun p => by rw [if_neg (by omega), if_neg (by omega)]⟩
theorem SwR.step {a b n k : Nat} {d e : Array α} (h : SwR a b k d e) (h1 : a + n ≤ b) (h2 : b + n ≤ d.size) (hk : k < n) : SwR a b (k + 1) d (swp e (a + k) (b + k)) :=
  ⟨(swp_size _ _ _).trans h.size, fun p => by
    have hs := h.size
    rw [swp_get e (by omega) (by omega) p]
    have ea : e[a + k]! = d[a + k]! := by rw [h.get, if_neg (by omega), if_neg (by omega)]
    have eb : e[b + k]! = d[b + k]! := by rw [h.get, if_neg (by omega), if_neg (by omega)]
    rw [ea, eb, h.get p]
    by_cases c1 : p = a + k
    · subst c1
      rw [if_neg (by omega), if_pos rfl, if_pos (by omega)]
      congr 1; omega
    · by_cases c2 : p = b + k
      · subst c2
        rw [if_pos rfl, if_neg (by omega), if_pos (by omega)]
        congr 1; omega
      · rw [if_neg c2, if_neg c1]
        by_cases c3 : a ≤ p ∧ p < a + k
        · rw [if_pos c3, if_pos (by omega)]
        · rw [if_neg c3, if_neg (by omega : ¬ (a ≤ p ∧ p < a + (k + 1)))]
          by_cases c4 : b ≤ p ∧ p < b + k
          · rw [if_pos c4, if_pos (by omega)]
          · rw [if_neg c4, if_neg (by omega)]⟩
/-- [a, m) and [m, b) changed places. -/
structure Rot (a m b : Nat) (d e : Array α) : Prop where
  size : e.size = d.size
  get : ∀ p, e[p]! = if a ≤ p ∧ p < a + (b - m) then d[p + (m - a)]! else if a + (b - m) ≤ p ∧ p < b then d[p - (b - m)]! else d[p]!
theorem Rot.moved {a m b : Nat} {d e : Array α} (h : Rot a m b d e) (h1 : a ≤ m) (h2 : m ≤ b) : Moved a b d e :=
  ⟨h.size, fun p hp => by rw [h.get, if_neg (by omega), if_neg (by omega)], fun i i1 i2 => by
    rw [h.get]
    by_cases c : a ≤ i ∧ i < a + (b - m)
    · rw [if_pos c]; exact ⟨_, by omega, by omega, rfl⟩
    · rw [if_neg c, if_pos (by omega)]; exact ⟨_, by omega, by omega, rfl⟩, fun j j1 j2 => by
    by_cases c : j < m
    · refine ⟨j + (b - m), by omega, by omega, ?_⟩
      rw [h.get, if_neg (by omega), if_pos (by omega)]
      congr 1; omega
    · refine ⟨j - (m - a), by omega, by omega, ?_⟩
      rw [h.get, if_pos (by omega)]
      congr 1; omega⟩
theorem Rot.none_left {m b : Nat} (d : Array α) : Rot m m b d d := ⟨rfl, fun p => by
  by_cases c : m ≤ p ∧ p < m + (b - m)
  · rw [if_pos c]; congr 1; omega
  · rw [if_neg c]
    by_cases c2 : m + (b - m) ≤ p ∧ p < b
    · rw [if_pos c2]; congr 1; omega
    · rw [if_neg c2]⟩
theorem Rot.none_right {a m : Nat} (d : Array α) (h : a ≤ m) : Rot a m m d d := ⟨rfl, fun p => by
  rw [if_neg (by omega)]
  by_cases c2 : a + (m - m) ≤ p ∧ p < m
  · rw [if_pos c2]; congr 1; omega
  · rw [if_neg c2]⟩
theorem Rot.left_long {m i j : Nat} {d d' e : Array α} (hi : i ≤ m) (hij : j < i) (h : SwR (m - i) m j d d') (k : Rot (m - (i - j)) m (m + j) d' e) : Rot (m - i) m (m + j) d e :=
  ⟨k.size.trans h.size, fun p => by
    rw [k.get]
    by_cases c1 : m - (i - j) ≤ p ∧ p < m - (i - j) + (m + j - m)
    · rw [if_pos c1, h.get, if_neg (by omega), if_pos (by omega), if_neg (by omega), if_pos (by omega)]
      congr 1; omega
    · rw [if_neg c1]
      by_cases c2 : m - (i - j) + (m + j - m) ≤ p ∧ p < m + j
      · rw [if_pos c2, h.get, if_neg (by omega), if_neg (by omega), if_neg (by omega), if_pos (by omega)]
      · rw [if_neg c2, h.get]
        by_cases c3 : m - i ≤ p ∧ p < m - i + j
        · rw [if_pos c3, if_pos (by omega)]
          congr 1; omega
        · rw [if_neg c3, if_neg (by omega), if_neg (by omega), if_neg (by omega)]⟩
theorem Rot.right_long {m i j : Nat} {d d' e : Array α} (hi : i ≤ m) (hij : i < j) (h : SwR (m - i) (m + j - i) i d d') (k : Rot (m - i) m (m + (j - i)) d' e) : Rot (m - i) m (m + j) d e :=
  ⟨k.size.trans h.size, fun p => by
    rw [k.get]
    by_cases c1 : m - i ≤ p ∧ p < m - i + (m + (j - i) - m)
    · rw [if_pos c1, h.get]
      rw [if_neg (by omega)]
      by_cases c2 : m + j - i ≤ p + (m - (m - i)) ∧ p + (m - (m - i)) < m + j - i + i
      · omega
      · rw [if_neg c2, if_pos (by omega)]
    · rw [if_neg c1]
      by_cases c2 : m - i + (m + (j - i) - m) ≤ p ∧ p < m + (j - i)
      · rw [if_pos c2, h.get]
        rw [if_pos (by omega), if_pos (by omega)]
        congr 1; omega
      · rw [if_neg c2, h.get]
        rw [if_neg (by omega)]
        by_cases c3 : m + j - i ≤ p ∧ p < m + j - i + i
        · rw [if_pos c3, if_neg (by omega), if_pos (by omega)]
          congr 1; omega
        · rw [if_neg c3, if_neg (by omega), if_neg (by omega)]⟩
theorem Rot.even {m i : Nat} {d e : Array α} (hi : i ≤ m) (h : SwR (m - i) m i d e) : Rot (m - i) m (m + i) d e :=
  ⟨h.size, fun p => by
    rw [h.get]
    by_cases c1 : m - i ≤ p ∧ p < m - i + i
    · rw [if_pos c1, if_pos (by omega)]; congr 1; omega
    · rw [if_neg c1]
      by_cases c2 : m ≤ p ∧ p < m + i
      · rw [if_pos c2, if_neg (by omega), if_pos (by omega)]; congr 1; omega
      · rw [if_neg c2, if_neg (by omega), if_neg (by omega)]⟩
/-- One more place to the right for the first element. -/
theorem Rot.right_one {a k : Nat} {d e : Array α} (h : Rot a (a + 1) (k + 1) d e) (hk : a ≤ k) (hs : k + 1 < d.size) : Rot a (a + 1) (k + 2) d (swp e k (k + 1)) :=
  ⟨(swp_size _ _ _).trans h.size, fun p => by
    have hz := h.size
    rw [swp_get e (by omega) (by omega) p]
    have e1 : e[k]! = d[a]! := by
      rw [h.get, if_neg (by omega), if_pos (by omega)]; congr 1; omega
    have e2 : e[k + 1]! = d[k + 1]! := by rw [h.get, if_neg (by omega), if_neg (by omega)]
    rw [e1, e2, h.get p]
    by_cases c1 : p = k + 1
    · subst c1; rw [if_pos rfl, if_neg (by omega), if_pos (by omega)]; congr 1; omega
    · rw [if_neg c1]
      by_cases c2 : p = k
      · subst c2; rw [if_pos rfl, if_pos (by omega)]; congr 1; omega
      · rw [if_neg c2]
        by_cases c3 : a ≤ p ∧ p < a + (k + 1 - (a + 1))
        · rw [if_pos c3, if_pos (by omega)]
        · rw [if_neg c3, if_neg (by omega), if_neg (by omega), if_neg (by omega)]⟩
/-- One more place to the left for the last element. -/
theorem Rot.left_one {k m : Nat} {d e : Array α} (h : Rot (k + 1) m (m + 1) d e) (hk : k + 1 ≤ m) (hs : m < d.size) : Rot k m (m + 1) d (swp e (k + 1) k) :=
  ⟨(swp_size _ _ _).trans h.size, fun p => by
    have hz := h.size
    rw [swp_get e (by omega) (by omega) p]
    have e1 : e[k + 1]! = d[m]! := by
      rw [h.get, if_pos (by omega)]; congr 1; omega
    have e2 : e[k]! = d[k]! := by rw [h.get, if_neg (by omega), if_neg (by omega)]
    rw [e1, e2, h.get p]
    by_cases c1 : p = k
    · subst c1; rw [if_pos rfl, if_pos (by omega)]; congr 1; omega
    · rw [if_neg c1]
      by_cases c2 : p = k + 1
      · subst c2; rw [if_pos rfl, if_neg (by omega), if_pos (by omega)]; congr 1; omega
      · rw [if_neg c2, if_neg (by omega), if_neg (by omega : ¬ (k ≤ p ∧ p < k + (m + 1 - m)))]
        by_cases c3 : k + 1 + (m + 1 - m) ≤ p ∧ p < m + 1
        · rw [if_pos c3, if_pos (by omega)]
        · rw [if_neg c3, if_neg (by omega)]⟩

/-! ### Order -/
/-- Ascending on [a, b). -/
def Asc (T : α → α → Prop) (a b : Nat) (d : Array α) : Prop := ∀ i j, a ≤ i → i < j → j < b → T d[i]! d[j]!
theorem Asc.mono {T : α → α → Prop} {a b a' b' : Nat} {d : Array α} (h : Asc T a b d) (ha : a ≤ a') (hb : b' ≤ b) : Asc T a' b' d := fun i j h1 h2 h3 => h i j (by omega) h2 (by omega)
theorem Asc.congr {T : α → α → Prop} {a b : Nat} {d e : Array α} (h : Asc T a b d) (he : ∀ p, a ≤ p → p < b → e[p]! = d[p]!) : Asc T a b e := fun i j h1 h2 h3 => by
  rw [he i h1 (by omega), he j (by omega) h3]; exact h i j h1 h2 h3
/-- What cmp says between the elements of [a, m) and those of [m, b). -/
structure Cross (lt : α → α → Bool) (T : α → α → Prop) (a m b : Nat) (d : Array α) : Prop where
  yes : ∀ i j, a ≤ i → i < m → m ≤ j → j < b → lt d[j]! d[i]! = true → T d[j]! d[i]!
  no : ∀ i j, a ≤ i → i < m → m ≤ j → j < b → lt d[j]! d[i]! = false → T d[i]! d[j]!
structure Halves (T : α → α → Prop) (a s q e b : Nat) (d : Array α) : Prop where
  h1 : Asc T a s d
  h2 : Asc T s q d
  h3 : Asc T q e d
  h4 : Asc T e b d
  mid : ∀ i j, a ≤ i → i < q → q ≤ j → j < b → T d[i]! d[j]!
theorem halves_of {T : α → α → Prop} {a s m e b : Nat} {d d1 : Array α} (tr : ∀ x y z, T x y → T y z → T x z) (hA : Asc T a m d) (hB : Asc T m b d) (h1 : a ≤ s) (h2 : s ≤ m) (h3 : m ≤ e) (h4 : e ≤ b)
    (hR : Rot s m e d d1) (H1 : ∀ i j, a ≤ i → i < s → e ≤ j → j < b → T d[i]! d[j]!) (H2 : ∀ i j, s ≤ i → i < m → m ≤ j → j < e → T d[j]! d[i]!) : Halves T a s (s + (e - m)) e b d1 := by
  have o : ∀ p, p < s ∨ e ≤ p → d1[p]! = d[p]! := fun p hp => by rw [hR.get, if_neg (by omega), if_neg (by omega)]
  have l : ∀ p, s ≤ p → p < s + (e - m) → d1[p]! = d[p + (m - s)]! := fun p hp hq => by rw [hR.get, if_pos ⟨hp, hq⟩]
  have r : ∀ p, s + (e - m) ≤ p → p < e → d1[p]! = d[p - (e - m)]! := fun p hp hq => by rw [hR.get, if_neg (by omega), if_pos ⟨hp, hq⟩]
  refine ⟨fun i j i1 i2 i3 => ?_, fun i j i1 i2 i3 => ?_, fun i j i1 i2 i3 => ?_, fun i j i1 i2 i3 => ?_, fun i j i1 i2 j1 j2 => ?_⟩
  · rw [o i (by omega), o j (by omega)]; exact hA i j i1 i2 (by omega)
  · rw [l i (by omega) (by omega), l j (by omega) (by omega)]; exact hB _ _ (by omega) (by omega) (by omega)
  · rw [r i (by omega) (by omega), r j (by omega) (by omega)]; exact hA _ _ (by omega) (by omega) (by omega)
  · rw [o i (by omega), o j (by omega)]; exact hB i j (by omega) i2 i3
  · by_cases c1 : i < s
    · rw [o i (.inl c1)]
      by_cases c2 : j < e
      · rw [r j j1 c2]; exact hA _ _ i1 (by omega) (by omega)
      · rw [o j (.inr (by omega))]; exact H1 i j i1 c1 (by omega) j2
    · rw [l i (by omega) i2]
      by_cases c2 : j < e
      · rw [r j j1 c2]; exact H2 _ _ (by omega) (by omega) (by omega) (by omega)
      · rw [o j (.inr (by omega))]; exact hB _ _ (by omega) (by omega) j2
/-- What the merging does. -/
structure Mrg (T : α → α → Prop) (a b : Nat) (d e : Array α) : Prop where
  mv : Moved a b d e
  asc : Asc T a b e
/-- A half in order on its own: nothing to merge where one side is empty. -/
theorem Mrg.skip {T : α → α → Prop} {a s q : Nat} {d : Array α} (h1 : Asc T a s d) (h2 : Asc T s q d) (h : s = a ∨ s = q) : Mrg T a q d d :=
  ⟨.refl _ _ _, by rcases h with rfl | rfl <;> assumption⟩
theorem Mrg.join {T : α → α → Prop} {a s q e b : Nat} {d1 d2 d3 : Array α} (H : Halves T a s q e b d1) (h1 : a ≤ q) (h2 : q ≤ b) (k1 : Mrg T a q d1 d2) (k2 : Mrg T q b d2 d3) : Mrg T a b d1 d3 :=
  ⟨(k1.mv.mono (Nat.le_refl _) h2).trans (k2.mv.mono h1 (Nat.le_refl _)), fun i j i1 i2 i3 => by
    by_cases c1 : j < q
    · rw [k2.mv.out i (by omega), k2.mv.out j (by omega)]; exact k1.asc i j i1 i2 c1
    · by_cases c2 : q ≤ i
      · exact k2.asc i j c2 i2 i3
      · obtain ⟨i', a1, a2, e1⟩ := k1.mv.back i i1 (by omega)
        obtain ⟨j', b1, b2, e2⟩ := k2.mv.back j (by omega) i3
        rw [k2.mv.out i (by omega), e1, e2, k1.mv.out j' (by omega)]
        exact H.mid i' j' a1 a2 b1 b2⟩
theorem Mrg.of_rot {T : α → α → Prop} {a b : Nat} {d d1 e : Array α} (hm : Moved a b d d1) (h : Mrg T a b d1 e) : Mrg T a b d e := ⟨hm.trans h.mv, h.asc⟩
/-- Where the second half is in order behind the first's merging. -/
theorem Halves.right {T : α → α → Prop} {a s q e b : Nat} {d1 d2 : Array α} (H : Halves T a s q e b d1) (k : Moved a q d1 d2) (hs : q ≤ e) : Asc T q e d2 ∧ Asc T e b d2 :=
  ⟨H.h3.congr fun p h1 h2 => k.out p (by omega), H.h4.congr fun p h1 h2 => k.out p (by omega)⟩
theorem Cross.left {lt : α → α → Bool} {T : α → α → Prop} {a m b s e : Nat} {d d1 : Array α} (h : Cross lt T a m b d) (hR : Rot s m e d d1) (h1 : a ≤ s) (h2 : s ≤ m) (h3 : m ≤ e) (h4 : e ≤ b) : Cross lt T a s (s + (e - m)) d1 := by
  have o : ∀ p, p < s ∨ e ≤ p → d1[p]! = d[p]! := fun p hp => by rw [hR.get, if_neg (by omega), if_neg (by omega)]
  have l : ∀ p, s ≤ p → p < s + (e - m) → d1[p]! = d[p + (m - s)]! := fun p hp hq => by rw [hR.get, if_pos ⟨hp, hq⟩]
  exact ⟨fun i j a1 a2 b1 b2 => by rw [o i (.inl a2), l j b1 b2]; exact h.yes _ _ a1 (by omega) (by omega) (by omega), fun i j a1 a2 b1 b2 => by rw [o i (.inl a2), l j b1 b2]; exact h.no _ _ a1 (by omega) (by omega) (by omega)⟩
theorem Cross.right {lt : α → α → Bool} {T : α → α → Prop} {a m b s e : Nat} {d d1 d2 : Array α} (h : Cross lt T a m b d) (hR : Rot s m e d d1) (h1 : a ≤ s) (h2 : s ≤ m) (h3 : m ≤ e) (h4 : e ≤ b) (k : Moved a (s + (e - m)) d1 d2) : Cross lt T (s + (e - m)) e b d2 := by
  have o : ∀ p, e ≤ p → d2[p]! = d[p]! := fun p hp => by rw [k.out p (by omega), hR.get, if_neg (by omega), if_neg (by omega)]
  have r : ∀ p, s + (e - m) ≤ p → p < e → d2[p]! = d[p - (e - m)]! := fun p hp hq => by rw [k.out p (by omega), hR.get, if_neg (by omega), if_pos ⟨hp, hq⟩]
  exact ⟨fun i j a1 a2 b1 b2 => by rw [r i a1 a2, o j b1]; exact h.yes _ _ (by omega) (by omega) (by omega) (by omega), fun i j a1 a2 b1 b2 => by rw [r i a1 a2, o j b1]; exact h.no _ _ (by omega) (by omega) (by omega) (by omega)⟩

/-! ### The three searches -/
/-- Where the only element on the left goes: [a, a+1) into [a+1, b). -/
structure Fst (T : α → α → Prop) (a m b i j : Nat) (d : Array α) : Prop where
  lo : m ≤ i
  le : i ≤ j
  hi : j ≤ b
  l : i = m ∨ T d[i - 1]! d[a]!
  r : j = b ∨ T d[a]! d[j]!
theorem Fst.merge {T : α → α → Prop} {a b i : Nat} {d e : Array α} (tr : ∀ x y z, T x y → T y z → T x z) (h : Fst T a (a + 1) b i i d) (hB : Asc T (a + 1) b d) (hR : Rot a (a + 1) i d e) : Mrg T a b d e := by
  have l1 := h.lo; have l2 := h.hi
  have H := halves_of (a := a) (s := a) (m := a + 1) (e := i) (b := b) tr (fun i j a1 a2 a3 => by omega) hB (Nat.le_refl _) (by omega) l1 l2 hR (fun i j a1 a2 _ _ => by omega) (fun p q a1 a2 b1 b2 => by
    obtain rfl : p = a := by omega
    rcases h.l with h | h
    · omega
    · by_cases c : q = i - 1
      · subst c; exact h
      · exact tr _ _ _ (hB q (i - 1) b1 (by omega) (by omega)) h)
  refine .of_rot ((hR.moved (by omega) l1).mono (Nat.le_refl _) l2) (.join H (by omega) (by omega) (.skip H.h1 H.h2 (.inl rfl)) ⟨.refl _ _ _, fun p q a1 a2 a3 => ?_⟩)
  have o : ∀ p, i ≤ p → e[p]! = d[p]! := fun p hp => by rw [hR.get, if_neg (by omega), if_neg (by omega)]
  by_cases c : i ≤ p
  · exact H.h4 p q c a2 a3
  · obtain rfl : p = i - 1 := by omega
    have e1 : e[i - 1]! = d[a]! := by rw [hR.get, if_neg (by omega), if_pos (by omega)]; congr 1; omega
    rw [e1, o q (by omega)]
    rcases h.r with h | h
    · omega
    · by_cases c2 : q = i
      · subst c2; exact h
      · exact tr _ _ _ h (hB i q (by omega) (by omega) a3)
/-- Where the only element on the right goes: [m, m+1) into [a, m). -/
structure Lst (T : α → α → Prop) (a m i j : Nat) (d : Array α) : Prop where
  lo : a ≤ i
  le : i ≤ j
  hi : j ≤ m
  l : i = a ∨ T d[i - 1]! d[m]!
  r : j = m ∨ T d[m]! d[j]!
theorem Lst.merge {T : α → α → Prop} {a m i : Nat} {d e : Array α} (tr : ∀ x y z, T x y → T y z → T x z) (h : Lst T a m i i d) (hA : Asc T a m d) (hR : Rot i m (m + 1) d e) : Mrg T a (m + 1) d e := by
  have l1 := h.lo; have l2 := h.hi
  have H := halves_of (a := a) (s := i) (m := m) (e := m + 1) (b := m + 1) tr hA (fun i j a1 a2 a3 => by omega) l1 l2 (by omega) (Nat.le_refl _) hR (fun i j a1 a2 _ _ => by omega) (fun p q a1 a2 b1 b2 => by
    obtain rfl : q = m := by omega
    rcases h.r with h | h
    · omega
    · by_cases c : p = i
      · subst c; exact h
      · exact tr _ _ _ h (hA i p (by omega) (by omega) a2))
  refine .of_rot ((hR.moved l2 (by omega)).mono l1 (Nat.le_refl _)) (.join H (by omega) (by omega) ⟨.refl _ _ _, fun p q a1 a2 a3 => ?_⟩ (.skip H.h3 H.h4 (.inr rfl)))
  have o : ∀ p, p < i → e[p]! = d[p]! := fun p hp => by rw [hR.get, if_neg (by omega), if_neg (by omega)]
  by_cases c : q < i
  · exact H.h1 p q a1 a2 c
  · obtain rfl : q = i := by omega
    have e1 : e[q]! = d[m]! := by rw [hR.get, if_pos (by omega)]; congr 1; omega
    rw [e1, o p (by omega)]
    rcases h.l with h | h
    · omega
    · by_cases c2 : p = q - 1
      · subst c2; exact h
      · exact tr _ _ _ (hA p (q - 1) a1 (by omega) (by omega)) h
/-- Where the two are cut: c in [lo, hi), against p - c. -/
structure Cut (T : α → α → Prop) (lo hi p s r : Nat) (d : Array α) : Prop where
  low : lo ≤ s
  le : s ≤ r
  high : r ≤ hi
  l : s = lo ∨ T d[s - 1]! d[p + 1 - s]!
  r : r = hi ∨ T d[p - r]! d[r]!
theorem Cut.facts {T : α → α → Prop} {a m b lo hi p s : Nat} {d : Array α} (tr : ∀ x y z, T x y → T y z → T x z) (h : Cut T lo hi p s s d) (hA : Asc T a m d) (hB : Asc T m b d)
    (g1 : a ≤ lo) (g2 : hi ≤ m) (g3 : m + hi ≤ p + 1) (g4 : p < lo + b) (l0 : lo = a ∨ p + 1 = lo + b) (r0 : hi = m ∨ p + 1 = m + hi) :
    (∀ i j, a ≤ i → i < s → p + 1 - s ≤ j → j < b → T d[i]! d[j]!) ∧ ∀ i j, s ≤ i → i < m → m ≤ j → j < p + 1 - s → T d[j]! d[i]! := by
  have k1 := h.low; have k2 := h.high
  constructor
  · intro i j i1 i2 j1 j2
    rcases h.l with e | e
    · rcases l0 with l0 | l0 <;> omega
    · have e1 : T d[i]! d[p + 1 - s]! := by
        by_cases c : i = s - 1
        · subst c; exact e
        · exact tr _ _ _ (hA i (s - 1) i1 (by omega) (by omega)) e
      by_cases c : j = p + 1 - s
      · subst c; exact e1
      · exact tr _ _ _ e1 (hB _ _ (by omega) (by omega) j2)
  · intro i j i1 i2 j1 j2
    rcases h.r with e | e
    · rcases r0 with r0 | r0 <;> omega
    · have e1 : T d[j]! d[s]! := by
        by_cases c : j = p - s
        · subst c; exact e
        · exact tr _ _ _ (hB j (p - s) j1 (by omega) (by omega)) e
      by_cases c : i = s
      · subst c; exact e1
      · exact tr _ _ _ e1 (hA _ _ (by omega) (by omega) i2)
end
end Go.Proofs.Ytahpaffanbcahaa
