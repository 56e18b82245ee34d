/- A tree by its levels, as a queue goes through it, and the first of the least ones of a list: plain lists. -/
namespace Go.Proofs.Ytfdljhepfoppaaa
set_option linter.unusedVariables false
set_option linter.unusedSimpArgs false

section Tree
variable {α : Type} (kids : α → List α) (r : α)
def lev : Nat → List α
  | 0 => [r]
  | m + 1 => (lev m).flatMap kids
def pre : Nat → List α
  | 0 => []
  | m + 1 => pre m ++ lev kids r m
/-- The queue when the first j nodes of level m are done. -/
def queue (most m j : Nat) : List α := pre kids r m ++ lev kids r m ++ (if m = most then [] else ((lev kids r m).take j).flatMap kids)
variable {kids r}
theorem queue_zero (most : Nat) : queue kids r most 0 0 = [r] := by simp [queue, pre, lev]
theorem queue_norm {most m j i : Nat} (hm : m ≤ most) (hj : j ≤ (lev kids r m).length) (hi : i = (pre kids r m).length + j) (hlt : i < (queue kids r most m j).length) :
    ∃ m' j', m' ≤ most ∧ j' < (lev kids r m').length ∧ i = (pre kids r m').length + j' ∧ queue kids r most m j = queue kids r most m' j' := by
  by_cases h : j < (lev kids r m).length
  · exact ⟨m, j, hm, h, hi, rfl⟩
  · obtain rfl : j = (lev kids r m).length := by omega
    by_cases hmm : m = most
    · subst hmm
      simp [queue] at hlt
      omega
    · have hq : queue kids r most m (lev kids r m).length = pre kids r (m + 1) ++ lev kids r (m + 1) := by
        simp [queue, hmm, pre, lev]
      have hq2 : queue kids r most (m + 1) 0 = pre kids r (m + 1) ++ lev kids r (m + 1) := by
        simp [queue]
      have hp : (pre kids r (m + 1)).length = (pre kids r m).length + (lev kids r m).length := by simp [pre]
      rw [hq, List.length_append] at hlt
      exact ⟨m + 1, 0, by omega, by omega, by omega, by rw [hq, hq2]⟩
theorem queue_get {most m j : Nat} (hj : j < (lev kids r m).length) : (queue kids r most m j)[(pre kids r m).length + j]? = some ((lev kids r m)[j]) := by
  unfold queue
  rw [List.getElem?_append_left (by simp; omega), List.getElem?_append_right (by omega), Nat.add_sub_cancel_left, List.getElem?_eq_getElem hj]
theorem queue_step {most m j : Nat} (hj : j < (lev kids r m).length) (hm : m < most) : queue kids r most m (j + 1) = queue kids r most m j ++ kids ((lev kids r m)[j]) := by
  unfold queue
  rw [if_neg (by omega), if_neg (by omega), List.take_add_one, List.getElem?_eq_getElem hj, List.flatMap_append, ← List.append_assoc]
  simp
theorem queue_last {most j k : Nat} : queue kids r most most j = queue kids r most most k := by simp [queue]
theorem pre_mono {m m' : Nat} (h : m ≤ m') : (pre kids r m).length ≤ (pre kids r m').length := by
  induction h with
  | refl => exact Nat.le_refl _
  | step _ ih => simp [pre]; omega
theorem queue_le {most m j : Nat} (hm : m ≤ most) : (queue kids r most m j).length ≤ (pre kids r (most + 1)).length := by
  by_cases h : m = most
  · subst h; simp [queue, pre]
  · have h1 : (((lev kids r m).take j).flatMap kids).length ≤ (lev kids r (m + 1)).length := by
      have : lev kids r (m + 1) = ((lev kids r m).take j).flatMap kids ++ ((lev kids r m).drop j).flatMap kids := by
        rw [← List.flatMap_append, List.take_append_drop]; rfl
      rw [this, List.length_append]; omega
    have h2 := pre_mono (kids := kids) (r := r) (show m + 2 ≤ most + 1 by omega)
    simp only [queue, if_neg h, List.length_append]
    simp only [pre, List.length_append] at h2
    simp only [pre, List.length_append]
    omega
theorem lev_none {m : Nat} (h : lev kids r m = []) : ∀ k, lev kids r (m + k) = []
  | 0 => h
  | k + 1 => by
    show (lev kids r (m + k)).flatMap kids = []
    rw [lev_none h k]; rfl
theorem pre_none {m : Nat} (h : lev kids r m = []) : ∀ k, pre kids r (m + k) = pre kids r m
  | 0 => rfl
  | k + 1 => by
    show pre kids r (m + k) ++ lev kids r (m + k) = _
    rw [lev_none h k, pre_none h k, List.append_nil]
theorem queue_end {most m j i : Nat} (hm : m ≤ most) (hj : j ≤ (lev kids r m).length) (hi : i = (pre kids r m).length + j) (hge : ¬ i < (queue kids r most m j).length) : queue kids r most m j = pre kids r (most + 1) := by
  have hl : (queue kids r most m j).length = (pre kids r m).length + (lev kids r m).length + (if m = most then [] else ((lev kids r m).take j).flatMap kids).length := by simp only [queue, List.length_append]
  obtain rfl : j = (lev kids r m).length := by omega
  by_cases h : m = most
  · subst h; simp [queue, pre]
  · rw [List.take_length] at hl
    have h0 : lev kids r (m + 1) = [] := by
      have : (lev kids r (m + 1)).length = 0 := by
        simp only [if_neg h] at hl
        show ((lev kids r m).flatMap kids).length = 0
        omega
      exact List.length_eq_zero_iff.1 this
    have h1 := pre_none h0 (most - m)
    rw [show m + 1 + (most - m) = most + 1 by omega] at h1
    rw [h1]
    simp only [queue, if_neg h, List.take_length]
    show pre kids r (m + 1) ++ lev kids r (m + 1) = _
    rw [h0, List.append_nil]
theorem flatMap_le {c : Nat} (h : ∀ x, (kids x).length ≤ c) : ∀ l : List α, (l.flatMap kids).length ≤ l.length * c
  | [] => by simp
  | x :: l => by
    have := flatMap_le h l
    have := h x
    rw [List.flatMap_cons, List.length_append, List.length_cons, Nat.add_mul]
    omega
theorem pre_bd (h : ∀ x, (kids x).length ≤ 6) {most : Nat} (hm : most ≤ 4) : (pre kids r (most + 1)).length ≤ 1555 := by
  refine Nat.le_trans (pre_mono (show most + 1 ≤ 5 by omega)) ?_
  have l0 : (lev kids r 0).length = 1 := rfl
  have l1 : (lev kids r 1).length ≤ (lev kids r 0).length * 6 := flatMap_le h _
  have l2 : (lev kids r 2).length ≤ (lev kids r 1).length * 6 := flatMap_le h _
  have l3 : (lev kids r 3).length ≤ (lev kids r 2).length * 6 := flatMap_le h _
  have l4 : (lev kids r 4).length ≤ (lev kids r 3).length * 6 := flatMap_le h _
  simp only [pre, List.length_append, List.length_nil]
  omega
theorem lev_bd (h : ∀ x, (kids x).length ≤ 6) {m : Nat} (hm : m ≤ 5) : (lev kids r m).length ≤ 7776 := by
  have l0 : (lev kids r 0).length = 1 := rfl
  have l1 : (lev kids r 1).length ≤ (lev kids r 0).length * 6 := flatMap_le h _
  have l2 : (lev kids r 2).length ≤ (lev kids r 1).length * 6 := flatMap_le h _
  have l3 : (lev kids r 3).length ≤ (lev kids r 2).length * 6 := flatMap_le h _
  have l4 : (lev kids r 4).length ≤ (lev kids r 3).length * 6 := flatMap_le h _
  have l5 : (lev kids r 5).length ≤ (lev kids r 4).length * 6 := flatMap_le h _
  have hc : m = 0 ∨ m = 1 ∨ m = 2 ∨ m = 3 ∨ m = 4 ∨ m = 5 := by omega
  rcases hc with rfl | rfl | rfl | rfl | rfl | rfl <;> omega
theorem lev_all {P : Nat → α → Prop} (h0 : P 0 r) (hs : ∀ m x, P m x → ∀ y ∈ kids x, P (m + 1) y) : ∀ m, ∀ x ∈ lev kids r m, P m x
  | 0, x, hx => by
    obtain rfl : x = r := by simpa [lev] using hx
    exact h0
  | m + 1, x, hx => by
    obtain ⟨y, hy, hxy⟩ := List.mem_flatMap.1 hx
    exact hs m y (lev_all h0 hs m y hy) x hxy
theorem pre_mem {m : Nat} {x : α} (h : x ∈ pre kids r m) : ∃ k, k < m ∧ x ∈ lev kids r k := by
  induction m with
  | zero => simp [pre] at h
  | succ m ih =>
    rcases List.mem_append.1 h with h | h
    · obtain ⟨k, hk, hx⟩ := ih h
      exact ⟨k, by omega, hx⟩
    · exact ⟨m, by omega, h⟩
theorem pre_sorted {f : α → Int} (h : ∀ m, ∀ x ∈ lev kids r m, f x = (m : Int)) : ∀ m, (pre kids r m).Pairwise (fun a b => f a ≤ f b)
  | 0 => List.Pairwise.nil
  | m + 1 => by
    refine List.pairwise_append.2 ⟨pre_sorted h m, ?_, ?_⟩
    · refine List.pairwise_of_forall_mem_list ?_
      intro a ha b hb
      rw [h m a ha, h m b hb]; exact Int.le_refl _
    · intro a ha b hb
      obtain ⟨k, hk, ha⟩ := pre_mem ha
      rw [h k a ha, h m b hb]; omega
end Tree

section Least
variable {α : Type} (p : α → Bool) (f : α → Int)
def lessO (o : Option α) (x : α) : Option α := match o with
  | none => some x
  | some b => if f x < f b then some x else some b
/-- The first of the least ones. -/
def minO (L : List α) : Option α := L.foldl (lessO f) none
def bestI (g : Nat → α) : Nat → Int
  | 0 => -1
  | k + 1 => if p (g k) = true ∧ (bestI g k < 0 ∨ f (g k) < f (g (bestI g k).toNat)) then (k : Int) else bestI g k
def bestK (g : Nat → α) : Nat → Nat
  | 0 => 0
  | k + 1 => if f (g k) < f (g (bestK g k)) then k else bestK g k
variable {p f}
theorem minO_snoc (L : List α) (x : α) : minO f (L ++ [x]) = lessO f (minO f L) x := by simp [minO]
theorem bestI_eq {L : List α} {g : Nat → α} (hg : ∀ j, j < L.length → L[j]? = some (g j)) : ∀ k, k ≤ L.length →
    (bestI p f g k = -1 ∧ minO f ((L.take k).filter p) = none) ∨ (0 ≤ bestI p f g k ∧ bestI p f g k < (k : Int) ∧ minO f ((L.take k).filter p) = some (g (bestI p f g k).toNat))
  | 0, _ => .inl ⟨rfl, rfl⟩
  | k + 1, hk => by
    have ih := bestI_eq hg k (by omega)
    have ht : L.take (k + 1) = L.take k ++ [g k] := by rw [List.take_add_one, hg k (by omega)]; rfl
    rw [ht, List.filter_append]
    cases hp : p (g k)
    · have e : bestI p f g (k + 1) = bestI p f g k := by rw [bestI, if_neg (by rw [hp]; simp)]
      rw [e]
      have : [g k].filter p = [] := by simp [hp]
      rw [this, List.append_nil]
      rcases ih with h | ⟨h1, h2, h3⟩
      · exact .inl h
      · exact .inr ⟨h1, by omega, h3⟩
    · have : [g k].filter p = [g k] := by simp [hp]
      rw [this, minO_snoc]
      rcases ih with ⟨h1, h2⟩ | ⟨h1, h2, h3⟩
      · have e : bestI p f g (k + 1) = (k : Int) := by rw [bestI, if_pos ⟨hp, .inl (by omega)⟩]
        rw [e, h2]
        exact .inr ⟨by omega, by omega, by simp [lessO]⟩
      · rw [h3]
        by_cases hf : f (g k) < f (g (bestI p f g k).toNat)
        · have e : bestI p f g (k + 1) = (k : Int) := by rw [bestI, if_pos ⟨hp, .inr hf⟩]
          rw [e]
          exact .inr ⟨by omega, by omega, by simp [lessO, hf]⟩
        · have e : bestI p f g (k + 1) = bestI p f g k := by
            rw [bestI, if_neg (fun c => c.2.elim (fun c => by omega) hf)]
          rw [e]
          exact .inr ⟨h1, by omega, by simp [lessO, hf]⟩
theorem bestK_eq {L : List α} {g : Nat → α} (hg : ∀ j, j < L.length → L[j]? = some (g j)) : ∀ k, 0 < k → k ≤ L.length → bestK f g k < k ∧ minO f (L.take k) = some (g (bestK f g k))
  | 0, h, _ => absurd h (by omega)
  | k + 1, _, hk => by
    have ht : L.take (k + 1) = L.take k ++ [g k] := by rw [List.take_add_one, hg k (by omega)]; rfl
    rw [ht, minO_snoc]
    by_cases h0 : k = 0
    · subst h0
      simp [bestK, minO, lessO]
    · obtain ⟨h1, h2⟩ := bestK_eq hg k (by omega) (by omega)
      rw [h2]
      by_cases hf : f (g k) < f (g (bestK f g k))
      · have e : bestK f g (k + 1) = k := by rw [bestK, if_pos hf]
        rw [e]
        exact ⟨by omega, by simp [lessO, hf]⟩
      · have e : bestK f g (k + 1) = bestK f g k := by rw [bestK, if_neg hf]
        rw [e]
        exact ⟨by omega, by simp [lessO, hf]⟩
theorem bestK_le {g : Nat → α} : ∀ k, bestK f g k ≤ k
  | 0 => Nat.le_refl _
  | k + 1 => by
    have := bestK_le (g := g) k
    unfold bestK
    split <;> omega
theorem bestK_lt {g : Nat → α} {k : Nat} (h : 0 < k) : bestK f g k < k := by
  cases k with
  | zero => omega
  | succ k =>
    have := bestK_le (f := f) (g := g) k
    unfold bestK
    split <;> omega
theorem foldl_least {b : α} : ∀ L : List α, (∀ x ∈ L, f b ≤ f x) → L.foldl (lessO f) (some b) = some b
  | [], _ => rfl
  | x :: L, h => by
    have h1 := h x (by simp)
    rw [List.foldl_cons]
    have : lessO f (some b) x = some b := by simp [lessO]; intro hc; omega
    rw [this]
    exact foldl_least L (fun y hy => h y (by simp [hy]))
theorem minO_sorted {L : List α} (h : L.Pairwise (fun a b => f a ≤ f b)) : minO f L = L.head? := by
  cases L with
  | nil => rfl
  | cons b L =>
    obtain ⟨h1, _⟩ := List.pairwise_cons.1 h
    exact foldl_least L h1
theorem minO_mem {L : List α} {x : α} (h : minO f L = some x) : x ∈ L := by
  have : ∀ (L : List α) (o : Option α), L.foldl (lessO f) o = some x → o = some x ∨ x ∈ L := by
    intro L
    induction L with
    | nil => intro o h; exact .inl h
    | cons a L ih =>
      intro o h
      rcases ih _ h with h | h
      · unfold lessO at h
        split at h
        · cases h; exact .inr (by simp)
        · split at h
          · cases h; exact .inr (by simp)
          · exact .inl h
      · exact .inr (by simp [h])
  rcases this L none h with h | h
  · cases h
  · exact h
theorem minO_none {L : List α} (h : minO f L = none) : L = [] := by
  have h1 : ∀ (L : List α) (b : α), ∃ c, L.foldl (lessO f) (some b) = some c := by
    intro L
    induction L with
    | nil => intro b; exact ⟨b, rfl⟩
    | cons a L ih =>
      intro b
      rw [List.foldl_cons]
      by_cases hf : f a < f b
      · rw [show lessO f (some b) a = some a by simp [lessO, hf]]; exact ih a
      · rw [show lessO f (some b) a = some b by simp [lessO, hf]]; exact ih b
  cases L with
  | nil => rfl
  | cons b L =>
    obtain ⟨c, hc⟩ := h1 L b
    have : (b :: L).foldl (lessO f) none = some c := hc
    rw [minO, this] at h
    cases h
theorem head_filter {L : List α} {g : Nat → α} {k : Nat} (hk : L[k]? = some (g k)) (h0 : (L.take k).filter p = []) (hp : p (g k) = true) : (L.filter p).head? = some (g k) := by
  have hl := (List.getElem?_eq_some_iff.1 hk).1
  have e : L = L.take k ++ (g k :: L.drop (k + 1)) := by
    have h1 := List.take_append_drop k L
    have h2 : L.drop k = g k :: L.drop (k + 1) := by
      rw [List.drop_eq_getElem_cons hl]
      congr 1
      exact (List.getElem?_eq_some_iff.1 hk).2
    rw [h2] at h1
    exact h1.symm
  rw [e, List.filter_append, h0, List.nil_append, List.filter_cons_of_pos hp]
  rfl
end Least
end Go.Proofs.Ytfdljhepfoppaaa
