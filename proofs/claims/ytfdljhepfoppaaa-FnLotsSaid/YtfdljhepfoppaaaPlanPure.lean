/- All right plans in order, and the first of the cheapest: plain lists. -/
import Derived.Test.YtfdljhepfoppaaaTreePure
import Derived.Test.YtfdljhepfoppaaaMem
namespace Go.Proofs.Ytfdljhepfoppaaa
set_option linter.unusedVariables false
set_option linter.unusedSimpArgs false

abbrev Visit := List Int × List Int
section
variable (nl : Nat) (s so go : Nat → Int) (all : Bool)
def fitB (left : List Int) (i k : Nat) : Bool := (s k == so i) && decide (go i ≤ gi left k)
def less1 (left : List Int) (i k : Nat) : List Int := left.set k (gi left k - go i)
/-- The plans that go on from order i, each with what it leaves. -/
def visits : Nat → Nat → List Int → List Int → List Visit
  | 0, _, plan, left => [(plan, left)]
  | rem + 1, i, plan, left => (List.range nl).flatMap (fun k => if fitB s so go left i k = true then visits rem (i + 1) (plan ++ [(k : Int)]) (less1 go left i k) else []) ++ (if all = true then [] else visits rem (i + 1) (plan ++ [-1]) left)
/-- .. those that begin with one of the first k lots. -/
def visK (rem i : Nat) (plan left : List Int) (k : Nat) : List Visit := (List.range k).flatMap (fun k => if fitB s so go left i k = true then visits nl s so go all rem (i + 1) (plan ++ [(k : Int)]) (less1 go left i k) else [])
variable {nl s so go all}
theorem visK_zero (rem i : Nat) (plan left : List Int) : visK nl s so go all rem i plan left 0 = [] := rfl
theorem visK_yes {rem i k : Nat} {plan left : List Int} (h : fitB s so go left i k = true) : visK nl s so go all rem i plan left (k + 1) = visK nl s so go all rem i plan left k ++ visits nl s so go all rem (i + 1) (plan ++ [(k : Int)]) (less1 go left i k) := by
  simp [visK, List.range_succ, List.flatMap_append, h]
theorem visK_no {rem i k : Nat} {plan left : List Int} (h : fitB s so go left i k = false) : visK nl s so go all rem i plan left (k + 1) = visK nl s so go all rem i plan left k := by
  simp [visK, List.range_succ, List.flatMap_append, h]
theorem visits_all (rem i : Nat) (plan left : List Int) (h : all = true) : visits nl s so go all (rem + 1) i plan left = visK nl s so go all rem i plan left nl := by
  simp [visits, visK, h]
theorem visits_some (rem i : Nat) (plan left : List Int) (h : all = false) : visits nl s so go all (rem + 1) i plan left = visK nl s so go all rem i plan left nl ++ visits nl s so go all rem (i + 1) (plan ++ [-1]) left := by
  simp [visits, visK, h]
theorem visits_mem {P : Nat → List Int → List Int → Prop} {no : Nat} (hy : ∀ i plan left k, i < no → k < nl → fitB s so go left i k = true → P i plan left → P (i + 1) (plan ++ [(k : Int)]) (less1 go left i k))
    (hn : all = false → ∀ i plan left, i < no → P i plan left → P (i + 1) (plan ++ [-1]) left) : ∀ rem i plan left, i + rem = no → P i plan left → ∀ v ∈ visits nl s so go all rem i plan left, P no v.1 v.2
  | 0, i, plan, left, hi, h, v, hv => by
    obtain rfl : v = (plan, left) := by simpa [visits] using hv
    obtain rfl : i = no := by omega
    exact h
  | rem + 1, i, plan, left, hi, h, v, hv => by
    rw [visits, List.mem_append] at hv
    rcases hv with hv | hv
    · obtain ⟨k, hk, hv⟩ := List.mem_flatMap.1 hv
      split at hv
      · rename_i hf
        exact visits_mem hy hn rem (i + 1) _ _ (by omega) (hy i plan left k (by omega) (List.mem_range.1 hk) hf h) v hv
      · simp at hv
    · split at hv
      · simp at hv
      · rename_i ha
        exact visits_mem hy hn rem (i + 1) _ _ (by omega) (hn (by simpa using ha) i plan left (by omega) h) v hv
end
/-- How many orders a plan does not serve. -/
def negs (plan : List Int) : Int := (plan.filter (fun z => decide (z < 0))).length
theorem negs_snoc (plan : List Int) (z : Int) : negs (plan ++ [z]) = negs plan + if z < 0 then 1 else 0 := by
  by_cases h : z < 0
  · simp [negs, List.filter_append, h]
  · simp [negs, List.filter_append, h]
theorem negs_nonneg (plan : List Int) : 0 ≤ negs plan := by unfold negs; omega
theorem negs_le (plan : List Int) : negs plan ≤ plan.length := by
  unfold negs
  have := List.length_filter_le (fun z => decide (z < 0)) plan
  omega
theorem visits_negs {nl : Nat} {s so go : Nat → Int} {all : Bool} : ∀ rem i plan left, ∀ v ∈ visits nl s so go all rem i plan left, negs plan ≤ negs v.1
  | 0, i, plan, left, v, hv => by
    obtain rfl : v = (plan, left) := by simpa [visits] using hv
    exact Int.le_refl _
  | rem + 1, i, plan, left, v, hv => by
    rw [visits, List.mem_append] at hv
    rcases hv with hv | hv
    · obtain ⟨k, hk, hv⟩ := List.mem_flatMap.1 hv
      split at hv
      · have := visits_negs rem (i + 1) _ _ v hv
        rw [negs_snoc] at this
        split at this <;> omega
      · simp at hv
    · split at hv
      · simp at hv
      · have := visits_negs rem (i + 1) _ _ v hv
        rw [negs_snoc] at this
        split at this <;> omega
/-- What is best when the visits have been gone through. -/
def bestV (f : Visit → Int) (o : Option Visit) (L : List Visit) : Option Visit := L.foldl (lessO f) o
theorem bestV_nil (f : Visit → Int) (o : Option Visit) : bestV f o [] = o := rfl
theorem bestV_app (f : Visit → Int) (o : Option Visit) (L M : List Visit) : bestV f o (L ++ M) = bestV f (bestV f o L) M := by simp [bestV]
theorem bestV_one (f : Visit → Int) (o : Option Visit) (v : Visit) : bestV f o [v] = lessO f o v := rfl
/-- No plan that goes on from one with so many missing is cheaper. -/
theorem bestV_prune {nl : Nat} {s so go : Nat → Int} {all : Bool} {f : Visit → Int} {b : Visit} {rem i : Nat} {plan left : List Int} (hf : ∀ v, f v = negs v.1) (h : f b ≤ negs plan) : bestV f (some b) (visits nl s so go all rem i plan left) = some b :=
  foldl_least _ (fun x hx => by have := visits_negs rem i plan left x hx; rw [hf x]; omega)
theorem visits_ne {nl : Nat} {s so go : Nat → Int} : ∀ rem i plan left, visits nl s so go false rem i plan left ≠ []
  | 0, i, plan, left => by simp [visits]
  | rem + 1, i, plan, left => by
    rw [visits_some _ _ _ _ rfl]
    intro h
    exact visits_ne rem (i + 1) _ _ (List.append_eq_nil_iff.1 h).2
theorem bestV_some {f : Visit → Int} : ∀ (L : List Visit) (b : Visit), ∃ c, bestV f (some b) L = some c
  | [], b => ⟨b, rfl⟩
  | x :: L, b => by
    show ∃ c, bestV f (lessO f (some b) x) L = some c
    by_cases h : f x < f b
    · rw [show lessO f (some b) x = some x by simp [lessO, h]]; exact bestV_some L x
    · rw [show lessO f (some b) x = some b by simp [lessO, h]]; exact bestV_some L b
theorem bestV_ne {f : Visit → Int} {L : List Visit} (h : L ≠ []) : ∃ c, bestV f none L = some c := by
  cases L with
  | nil => exact absurd rfl h
  | cons x L => exact bestV_some L x
end Go.Proofs.Ytfdljhepfoppaaa
