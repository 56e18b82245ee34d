/- The lots that a plan opens: plain lists. -/
import Derived.Test.YtfdljhepfoppaaaPlanCost
namespace Go.Proofs.Ytfdljhepfoppaaa
set_option linter.unusedVariables false
set_option linter.unusedSimpArgs false

/-- The lots of a plan, rising, once each. -/
def opnN (P : List Int) (k : Nat) : List Int := ((List.range k).filter (fun (j : Nat) => hasB P ((j : Nat) : Int))).map (fun (j : Nat) => ((j : Nat) : Int))
theorem opnN_succ (P : List Int) (k : Nat) : opnN P (k + 1) = opnN P k ++ (if hasB P (k : Int) = true then [(k : Int)] else []) := by
  unfold opnN
  rw [List.range_succ, List.filter_append, List.map_append]
  by_cases h : hasB P (k : Int) = true
  · simp [h]
  · simp [h]
theorem costK_one (keep : Int) (P Lf : List Int) : ∀ k, costK 1 keep P Lf k = ((opnN P k).length : Int)
  | 0 => rfl
  | k + 1 => by
    rw [costK, costK_one keep P Lf k, opnN_succ, List.length_append]
    by_cases h : hasB P (k : Int) = true
    · simp [h]
    · simp [h]
def wasteL (keep : Int) (Lf : List Int) (zs : List Int) : Int := (zs.map (fun z => if gi Lf z.toNat < keep then gi Lf z.toNat else 0)).sum
theorem costK_two (keep : Int) (P Lf : List Int) : ∀ k, costK 2 keep P Lf k = wasteL keep Lf (opnN P k)
  | 0 => rfl
  | k + 1 => by
    rw [costK, costK_two keep P Lf k, opnN_succ]
    by_cases h : hasB P (k : Int) = true
    · simp [h, wasteL, List.sum_append]
    · simp [h, wasteL]
theorem opnN_mem {P : List Int} {k : Nat} {z : Int} : z ∈ opnN P k ↔ 0 ≤ z ∧ z < (k : Int) ∧ z ∈ P := by
  simp only [opnN, List.mem_map, List.mem_filter, List.mem_range, hasB, decide_eq_true_eq]
  constructor
  · rintro ⟨j, ⟨h1, h2⟩, rfl⟩
    exact ⟨by omega, by omega, h2⟩
  · rintro ⟨h1, h2, h3⟩
    exact ⟨z.toNat, ⟨by omega, by rw [Int.toNat_of_nonneg h1]; exact h3⟩, Int.toNat_of_nonneg h1⟩
theorem opnN_rise (P : List Int) : ∀ k, (opnN P k).Pairwise (· < ·)
  | 0 => List.Pairwise.nil
  | k + 1 => by
    rw [opnN_succ]
    by_cases h : hasB P (k : Int) = true
    · rw [if_pos h]
      refine List.pairwise_append.2 ⟨opnN_rise P k, List.pairwise_singleton _ _, fun a ha b hb => ?_⟩
      obtain rfl : b = (k : Int) := by simpa using hb
      exact (opnN_mem.1 ha).2.1
    · rw [if_neg h, List.append_nil]; exact opnN_rise P k
/-- Two rising lists with the same members are one. -/
theorem rise_ext : ∀ {a b : List Int}, a.Pairwise (· < ·) → b.Pairwise (· < ·) → (∀ z, z ∈ a ↔ z ∈ b) → a = b
  | [], [], _, _, _ => rfl
  | [], y :: b, _, _, h => absurd ((h y).2 (by simp)) (by simp)
  | x :: a, [], _, _, h => absurd ((h x).1 (by simp)) (by simp)
  | x :: a, y :: b, ha, hb, h => by
    obtain ⟨ha1, ha2⟩ := List.pairwise_cons.1 ha
    obtain ⟨hb1, hb2⟩ := List.pairwise_cons.1 hb
    have hxy : x = y := by
      have h1 := (h x).1 (by simp)
      have h2 := (h y).2 (by simp)
      rcases List.mem_cons.1 h1 with e | m1
      · exact e
      · rcases List.mem_cons.1 h2 with e | m2
        · exact e.symm
        · have := hb1 x m1; have := ha1 y m2; omega
    subst hxy
    congr 1
    refine rise_ext ha2 hb2 fun z => ⟨fun hz => ?_, fun hz => ?_⟩
    · rcases List.mem_cons.1 ((h z).1 (by simp [hz])) with e | m
      · have := ha1 z hz; omega
      · exact m
    · rcases List.mem_cons.1 ((h z).2 (by simp [hz])) with e | m
      · have := hb1 z hz; omega
      · exact m
end Go.Proofs.Ytfdljhepfoppaaa
