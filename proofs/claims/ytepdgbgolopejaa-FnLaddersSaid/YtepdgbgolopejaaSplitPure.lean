/- A text split at a byte: plain lists. -/
namespace Go.Proofs.Ytepdgbgolopejaa
set_option linter.unusedVariables false
set_option linter.unusedSimpArgs false

section
variable (by_ : UInt8)
def splitStep (st : List (List UInt8) × List UInt8) (c : UInt8) : List (List UInt8) × List UInt8 := if c = by_ then (st.1 ++ [st.2], []) else (st.1, st.2 ++ [c])
/-- The whole parts, and what stands behind the last such byte. -/
def splitS (l : List UInt8) : List (List UInt8) × List UInt8 := l.foldl (splitStep by_) ([], [])
def splitL (l : List UInt8) : List (List UInt8) := (splitS by_ l).1 ++ [(splitS by_ l).2]
def joinD (d : List (List UInt8)) : List UInt8 := d.flatMap (· ++ [by_])
variable {by_}
theorem splitS_snoc (l : List UInt8) (c : UInt8) : splitS by_ (l ++ [c]) = splitStep by_ (splitS by_ l) c := by simp [splitS]
theorem splitS_yes {l : List UInt8} {c : UInt8} (h : c = by_) : splitS by_ (l ++ [c]) = ((splitS by_ l).1 ++ [(splitS by_ l).2], []) := by rw [splitS_snoc, splitStep, if_pos h]
theorem splitS_no {l : List UInt8} {c : UInt8} (h : ¬ c = by_) : splitS by_ (l ++ [c]) = ((splitS by_ l).1, (splitS by_ l).2 ++ [c]) := by rw [splitS_snoc, splitStep, if_neg h]
/-- d and c are the parts of l. -/
structure Parts (by_ : UInt8) (l : List UInt8) (d : List (List UInt8)) (c : List UInt8) : Prop where
  eq : l = joinD by_ d ++ c
  d : ∀ x ∈ d, by_ ∉ x
  c : by_ ∉ c
theorem parts_foldl : ∀ (l pre : List UInt8) (d : List (List UInt8)) (c : List UInt8), Parts by_ pre d c → Parts by_ (pre ++ l) (l.foldl (splitStep by_) (d, c)).1 (l.foldl (splitStep by_) (d, c)).2
  | [], pre, d, c, h => by simpa using h
  | a :: l, pre, d, c, h => by
    have e : pre ++ a :: l = (pre ++ [a]) ++ l := by simp
    rw [e, List.foldl_cons]
    by_cases ha : a = by_
    · have : splitStep by_ (d, c) a = (d ++ [c], []) := by rw [splitStep, if_pos ha]
      rw [this]
      refine parts_foldl l (pre ++ [a]) _ _ ⟨?_, ?_, by simp⟩
      · rw [h.eq, ha]; simp [joinD]
      · intro x hx
        rcases List.mem_append.1 hx with hx | hx
        · exact h.d x hx
        · obtain rfl : x = c := by simpa using hx
          exact h.c
    · have : splitStep by_ (d, c) a = (d, c ++ [a]) := by rw [splitStep, if_neg ha]
      rw [this]
      refine parts_foldl l (pre ++ [a]) _ _ ⟨?_, h.d, ?_⟩
      · rw [h.eq]; simp
      · intro hm
        rcases List.mem_append.1 hm with hm | hm
        · exact h.c hm
        · exact ha (show a = by_ from (List.mem_singleton.1 hm).symm)
theorem splitS_parts (l : List UInt8) : Parts by_ l (splitS by_ l).1 (splitS by_ l).2 := by
  have := parts_foldl (by_ := by_) l [] [] [] ⟨rfl, by simp, by simp⟩
  simpa [splitS] using this
theorem parts_head {x y r s : List UInt8} (hx : by_ ∉ x) (hy : by_ ∉ y) (h : x ++ by_ :: r = y ++ by_ :: s) : x = y ∧ r = s := by
  induction x generalizing y with
  | nil =>
    cases y with
    | nil => simpa using h
    | cons b y =>
      simp only [List.nil_append, List.cons_append, List.cons.injEq] at h
      exact (hy (by simp [h.1])).elim
  | cons a x ih =>
    cases y with
    | nil =>
      simp only [List.nil_append, List.cons_append, List.cons.injEq] at h
      exact (hx (by simp [h.1])).elim
    | cons b y =>
      simp only [List.cons_append, List.cons.injEq] at h
      obtain ⟨e1, e2⟩ := ih (fun hm => hx (by simp [hm])) (fun hm => hy (by simp [hm])) h.2
      exact ⟨by rw [h.1, e1], e2⟩
theorem parts_last {x r c : List UInt8} (hc : by_ ∉ c) (h : x ++ by_ :: r = c) : False := hc (by rw [← h]; simp)
theorem parts_unique : ∀ {d d' : List (List UInt8)} {l c c' : List UInt8}, Parts by_ l d c → Parts by_ l d' c' → d = d' ∧ c = c'
  | [], [], l, c, c', h, h' => by
    have := h.eq.symm.trans h'.eq
    simpa [joinD] using this
  | [], y :: d', l, c, c', h, h' => by
    exfalso
    have := h.eq.symm.trans h'.eq
    simp only [joinD, List.flatMap_nil, List.nil_append, List.flatMap_cons, List.append_assoc, List.cons_append] at this
    exact parts_last h.c this.symm
  | x :: d, [], l, c, c', h, h' => by
    exfalso
    have := h.eq.symm.trans h'.eq
    simp only [joinD, List.flatMap_nil, List.nil_append, List.flatMap_cons, List.append_assoc, List.cons_append] at this
    exact parts_last h'.c this
  | x :: d, y :: d', l, c, c', h, h' => by
    have e := h.eq.symm.trans h'.eq
    simp only [joinD, List.flatMap_cons, List.append_assoc, List.cons_append, List.nil_append] at e
    obtain ⟨e1, e2⟩ := parts_head (h.d x (by simp)) (h'.d y (by simp)) e
    obtain ⟨e3, e4⟩ := parts_unique (d := d) (d' := d') (l := joinD by_ d ++ c) (c := c) (c' := c') ⟨rfl, fun z hz => h.d z (by simp [hz]), h.c⟩ ⟨e2, fun z hz => h'.d z (by simp [hz]), h'.c⟩
    exact ⟨by rw [e1, e3], e4⟩
theorem splitS_of {l : List UInt8} {d : List (List UInt8)} {c : List UInt8} (h : Parts by_ l d c) : splitS by_ l = (d, c) := by
  obtain ⟨e1, e2⟩ := parts_unique (splitS_parts l) h
  exact Prod.ext e1 e2
end
end Go.Proofs.Ytepdgbgolopejaa
