/- What Compact leaves of a rising list: its members, rising. Plain lists. -/
import Derived.Lib.SlicesCompact
import Derived.Test.YtfdljhepfoppaaaPlanOpen
namespace Go.Proofs.Ytfdljhepfoppaaa
set_option linter.unusedVariables false
set_option linter.unusedSimpArgs false

theorem mem_compact {ms : List Int} {z : Int} : z ∈ Lib.compact ms ↔ z ∈ ms := by
  have hget : ∀ j (h : j < ms.length), ms.toArray[j]! = ms[j] := fun j h => by simp [h]
  unfold Lib.compact Lib.compactUpTo
  simp only [List.mem_map, List.mem_filter, List.mem_range]
  constructor
  · rintro ⟨j, ⟨h1, h2⟩, rfl⟩
    rw [hget j h1]; exact List.getElem_mem h1
  · intro hz
    obtain ⟨j0, hj0, e0⟩ := List.getElem_of_mem hz
    have hex : ∃ j, ∃ h : j < ms.length, ms[j] = z := ⟨j0, hj0, e0⟩
    clear e0 hj0 j0
    have key : ∀ n, ∀ j, j ≤ n → (∃ h : j < ms.length, ms[j] = z) → ∃ i, ∃ h : i < ms.length, ms[i] = z ∧ (i = 0 ∨ ∃ h' : i - 1 < ms.length, ms[i - 1] ≠ z) := by
      intro n
      induction n with
      | zero => intro j hj h; obtain ⟨h1, h2⟩ := h; exact ⟨j, h1, h2, .inl (by omega)⟩
      | succ n ih =>
        intro j hj h
        obtain ⟨h1, h2⟩ := h
        by_cases h0 : j = 0
        · exact ⟨j, h1, h2, .inl h0⟩
        · by_cases h3 : ms[j - 1]'(by omega) = z
          · exact ih (j - 1) (by omega) ⟨by omega, h3⟩
          · exact ⟨j, h1, h2, .inr ⟨by omega, h3⟩⟩
    obtain ⟨j, hj⟩ := hex
    obtain ⟨i, h1, h2, h3⟩ := key j j (Nat.le_refl _) hj
    refine ⟨i, ⟨h1, ?_⟩, by rw [hget i h1]; exact h2⟩
    unfold Lib.keeps
    rw [decide_eq_true_eq]
    rcases h3 with h3 | ⟨h4, h3⟩
    · exact .inl h3
    · right; rw [hget i h1, hget (i - 1) h4, h2]; exact fun e => h3 e.symm
theorem rise_compact {ms : List Int} (h : ms.Pairwise (· ≤ ·)) : (Lib.compact ms).Pairwise (· < ·) := by
  have hget : ∀ j (h : j < ms.length), ms.toArray[j]! = ms[j] := fun j h => by simp [h]
  have hle : ∀ i j (hij : i < j) (hj : j < ms.length), ms[i]'(by omega) ≤ ms[j] := fun i j hij hj => List.pairwise_iff_getElem.1 h i j (by omega) hj hij
  unfold Lib.compact Lib.compactUpTo
  rw [List.pairwise_map]
  refine (List.pairwise_lt_range.filter _).imp_of_mem ?_
  intro i j hi hj hij
  simp only [List.mem_filter, List.mem_range] at hi hj
  obtain ⟨h1, h2⟩ := hj
  unfold Lib.keeps at h2
  rw [decide_eq_true_eq] at h2
  rw [hget i hi.1, hget j h1]
  rcases h2 with h2 | h2
  · omega
  · rw [hget j h1, hget (j - 1) (by omega)] at h2
    have a1 := hle (j - 1) j (by omega) h1
    by_cases e : i = j - 1
    · subst e; omega
    · have a2 := hle i (j - 1) (by omega) (by omega); omega
/-- The lots of a whole plan: what opened answers. -/
theorem opened_opnN (P : List Int) (k : Nat) (h : ∀ z ∈ P, 0 ≤ z ∧ z < (k : Int)) : Lib.compact (P.mergeSort (fun x y => decide (x ≤ y))) = opnN P k := by
  have hs : (P.mergeSort (fun x y => decide (x ≤ y))).Pairwise (· ≤ ·) := by
    have := List.pairwise_mergeSort (le := fun (x y : Int) => decide (x ≤ y)) (fun a b c h1 h2 => by simp at *; omega) (fun a b => by simp; omega) P
    exact this.imp (fun h => by simpa using h)
  refine rise_ext (rise_compact hs) (opnN_rise P k) fun z => ?_
  rw [mem_compact, opnN_mem, List.mem_mergeSort]
  exact ⟨fun hz => ⟨(h z hz).1, (h z hz).2, hz⟩, fun hz => hz.2.2⟩
end Go.Proofs.Ytfdljhepfoppaaa
