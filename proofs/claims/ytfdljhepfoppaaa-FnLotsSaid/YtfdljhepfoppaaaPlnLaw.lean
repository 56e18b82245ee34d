/- The law on lots: plain lists. -/
import Derived.Test.YtfdljhepfoppaaaPlanMost
import Derived.Test.YtfdljhepfoppaaaPlanCost
import Derived.Test.YtfdljhepfoppaaaPlanOpen
import Derived.Test.YtfdljhepfoppaaaFitSpec
namespace Go.Proofs.Ytfdljhepfoppaaa
open Go.RowKit
set_option linter.unusedVariables false
set_option linter.unusedSimpArgs false

/-- The sum of the first k. -/
def tot (f : Nat → Int) : Nat → Int
  | 0 => 0
  | k + 1 => tot f k + f k
theorem tot_congr {f h : Nat → Int} : ∀ n, (∀ i, i < n → f i = h i) → tot f n = tot h n
  | 0, _ => rfl
  | n + 1, e => by rw [tot, tot, tot_congr n (fun i hi => e i (by omega)), e n (by omega)]
theorem tot_nonneg {f : Nat → Int} : ∀ n, (∀ i, i < n → 0 ≤ f i) → 0 ≤ tot f n
  | 0, _ => Int.le_refl _
  | n + 1, e => by have := tot_nonneg n (fun i hi => e i (by omega)); have := e n (by omega); rw [tot]; omega
theorem tot_le {f : Nat → Int} {B : Int} (hB : 0 ≤ B) : ∀ n, (∀ i, i < n → f i ≤ B) → tot f n ≤ B * (n : Int)
  | 0, _ => by simp [tot]
  | n + 1, e => by
    have := tot_le hB n (fun i hi => e i (by omega))
    have := e n (by omega)
    rw [tot, Int.natCast_add, Int.mul_add]
    simp only [Int.natCast_one, Int.mul_one]
    omega
/-- One place changed. -/
theorem tot_upd {f h : Nat → Int} {p : Nat} {d : Int} (e : ∀ i, i ≠ p → h i = f i) (ep : h p = f p + d) : ∀ n, tot h n = tot f n + (if p < n then d else 0)
  | 0 => by simp [tot]
  | n + 1 => by
    rw [tot, tot, tot_upd e ep n]
    by_cases c : n = p
    · subst c
      rw [ep, if_neg (by omega), if_pos (by omega)]; omega
    · rw [e n c]
      by_cases c2 : p < n
      · rw [if_pos c2, if_pos (show p < n + 1 by omega)]; omega
      · rw [if_neg c2, if_neg (show ¬ p < n + 1 by omega)]; omega
section
variable {nl no : Nat} {s g so go : Nat → Int}
theorem gi_putL {xs : List Int} {i j : Nat} (v : Int) (hi : i < xs.length) : gi (xs.set i v) j = if j = i then v else gi xs j := by
  unfold gi
  rw [List.getD_eq_getElem?_getD, List.getElem?_set]
  by_cases c : j = i
  · subst c; simp [hi]
  · rw [if_neg (fun e => c e.symm), if_neg c, List.getD_eq_getElem?_getD]
theorem leftS_congr {P Q : List Int} : ∀ k, (∀ j, j < k → gi P j = gi Q j) → leftS nl s g so go P k = leftS nl s g so go Q k
  | 0, _ => rfl
  | k + 1, h => by rw [leftS, leftS, leftS_congr k (fun j hj => h j (by omega)), h k (by omega)]
theorem gi_take {P : List Int} {i j : Nat} (h : j < i) : gi (P.take i) j = gi P j := by
  simp [gi, List.getD_eq_getElem?_getD, List.getElem?_take, h]
theorem gi_app {P : List Int} {z : Int} {j : Nat} (h : j < P.length) : gi (P ++ [z]) j = gi P j := by
  simp [gi, List.getD_eq_getElem?_getD, List.getElem?_append, h]
theorem gi_end {P : List Int} {z : Int} : gi (P ++ [z]) P.length = z := by
  simp [gi, List.getD_eq_getElem?_getD]
theorem take_snoc {P : List Int} {i : Nat} (h : i < P.length) : P.take (i + 1) = P.take i ++ [gi P i] := by
  rw [List.take_add_one]
  simp [gi, List.getD_eq_getElem?_getD, List.getElem?_eq_getElem h]
/-- A plan that serves one by one, and what it leaves. -/
structure Right (nl no : Nat) (s g so go : Nat → Int) (P R : List Int) : Prop where
  len : P.length = no
  left : leftS nl s g so go P no = some R
theorem leftS_some {P R : List Int} {n : Nat} (h : leftS nl s g so go P n = some R) : ∀ k, k ≤ n → ∃ l, leftS nl s g so go P k = some l := fun k hk => by
  cases e : leftS nl s g so go P k with
  | some l => exact ⟨l, rfl⟩
  | none => rw [leftS_none e n hk] at h; cases h
/-- One step of a right plan. -/
theorem leftS_step {P l l' : List Int} {k : Nat} (h : leftS nl s g so go P k = some l) (h' : leftS nl s g so go P (k + 1) = some l') :
    (gi P k = -1 ∧ l' = l) ∨ (0 ≤ gi P k ∧ (gi P k).toNat < nl ∧ s (gi P k).toNat = so k ∧ go k ≤ gi l (gi P k).toNat ∧ l' = l.set (gi P k).toNat (gi l (gi P k).toNat - go k)) := by
  rw [leftS, h, Option.bind_some, stepL] at h'
  split at h'
  · rename_i c
    exact .inl ⟨c, by injection h' with h'; exact h'.symm⟩
  · split at h'
    · rename_i c
      injection h' with h'
      exact .inr ⟨c.1, by omega, c.2.2.1, c.2.2.2, h'.symm⟩
    · cases h'
/-- Every right plan is visited. -/
theorem right_visit {all : Bool} {P R : List Int} (h : Right nl no s g so go P R) (ha : all = true → ∀ j, j < no → 0 ≤ gi P j) : ∀ rem i l, i + rem = no → leftS nl s g so go P i = some l → (P, R) ∈ visits nl s so go all rem i (P.take i) l
  | 0, i, l, hi, hl => by
    obtain rfl : i = no := by omega
    rw [h.left] at hl
    injection hl with hl
    subst hl
    have := h.len
    simp [visits, List.take_of_length_le (show P.length ≤ i by omega)]
  | rem + 1, i, l, hi, hl => by
    obtain ⟨l', hl'⟩ := leftS_some h.left (i + 1) (by omega)
    have hP : i < P.length := by rw [h.len]; omega
    have ih := right_visit h ha rem (i + 1) l' (by omega) hl'
    rw [take_snoc hP] at ih
    rw [visits, List.mem_append]
    rcases leftS_step hl hl' with ⟨e, rfl⟩ | ⟨h0, h1, h2, h3, rfl⟩
    · right
      rw [e] at ih
      cases all with
      | false => rw [if_neg (by simp)]; exact ih
      | true => have := ha rfl i (by omega); omega
    · left
      refine List.mem_flatMap.2 ⟨(gi P i).toNat, List.mem_range.2 h1, ?_⟩
      rw [if_pos (by simp only [fitB, Bool.and_eq_true, beq_iff_eq, decide_eq_true_eq]; exact ⟨h2, h3⟩)]
      have e : (((gi P i).toNat : Nat) : Int) = gi P i := by omega
      rw [e]
      exact ih
theorem right_in {all : Bool} {P R : List Int} (h : Right nl no s g so go P R) (ha : all = true → ∀ j, j < no → 0 ≤ gi P j) : (P, R) ∈ allPlans nl no s g so go all :=
  right_visit h ha no 0 _ (by omega) rfl
/-- Every visited plan is right. -/
theorem in_right {all : Bool} {v : Visit} (h : v ∈ allPlans nl no s g so go all) : Right nl no s g so go v.1 v.2 ∧ (all = true → ∀ j, j < no → 0 ≤ gi v.1 j) := by
  have := visits_mem (nl := nl) (s := s) (so := so) (go := go) (all := all) (no := no) (P := fun i plan left => plan.length = i ∧ leftS nl s g so go plan i = some left ∧ (all = true → ∀ j, j < i → 0 ≤ gi plan j))
    (fun i plan left k hi hk hf ⟨h1, h2, h3⟩ => by
      simp only [fitB, Bool.and_eq_true, beq_iff_eq, decide_eq_true_eq] at hf
      refine ⟨by simp [h1], ?_, fun ha j hj => ?_⟩
      · rw [leftS, leftS_congr (Q := plan) i (fun j hj => gi_app (by omega)), h2, Option.bind_some, ← h1, gi_end, stepL, if_neg (by omega), if_pos (by rw [Int.toNat_natCast, h1]; exact ⟨by omega, by omega, hf.1, hf.2⟩), Int.toNat_natCast, h1]
        rfl
      · by_cases e : j < i
        · rw [gi_app (by omega)]; exact h3 ha j e
        · obtain rfl : j = plan.length := by omega
          rw [gi_end]; omega)
    (fun ha i plan left hi ⟨h1, h2, h3⟩ => by
      refine ⟨by simp [h1], ?_, fun ha' => by rw [ha] at ha'; cases ha'⟩
      rw [leftS, leftS_congr (Q := plan) i (fun j hj => gi_app (by omega)), h2, Option.bind_some, ← h1, gi_end, stepL, if_pos rfl])
    no 0 [] ((List.range nl).map g) (by omega) ⟨rfl, rfl, fun _ j hj => by omega⟩ v h
  exact ⟨⟨this.1, this.2.1⟩, this.2.2⟩
/-- What a plan takes from lot i. -/
def takeF (go : Nat → Int) (P : List Int) (i : Nat) (j : Nat) : Int := if gi P j = (i : Int) then go j else 0
theorem stock {P : List Int} (hg : ∀ j, j < nl → 0 ≤ g j) (hgo : ∀ j, j < no → 1 ≤ go j) : ∀ k l, k ≤ no → leftS nl s g so go P k = some l → ∀ i, i < nl → tot (takeF go P i) k + gi l i = g i ∧ 0 ≤ gi l i
  | 0, l, _, h, i, hi => by
    rw [leftS] at h
    injection h with h
    subst h
    have : gi ((List.range nl).map g) i = g i := by simp [gi, List.getD_eq_getElem?_getD, hi]
    rw [this, tot]
    exact ⟨by omega, hg i hi⟩
  | k + 1, l, hk, h, i, hi => by
    obtain ⟨l0, h0⟩ := leftS_some h k (by omega)
    have ih := stock hg hgo k l0 (by omega) h0 i hi
    have hl := leftS_len h0
    rw [tot, takeF]
    rcases leftS_step h0 h with ⟨e, rfl⟩ | ⟨h1, h2, h3, h4, rfl⟩
    · rw [if_neg (by omega)]; omega
    · rw [gi_putL _ (by omega)]
      by_cases c : gi P k = (i : Int)
      · rw [if_pos c, if_pos (by omega)]
        have : (gi P k).toNat = i := by omega
        rw [this] at h4 ⊢
        omega
      · rw [if_neg c, if_neg (by omega)]; omega
/-- What is left of one shade. -/
theorem shade_left {P : List Int} (sh : Int) (hall : ∀ j, j < no → 0 ≤ gi P j) : ∀ k l, k ≤ no → leftS nl s g so go P k = some l → tot (fun i => if s i = sh then gi l i else 0) nl + tot (fun j => if so j = sh then go j else 0) k = tot (fun i => if s i = sh then g i else 0) nl
  | 0, l, _, h => by
    rw [leftS] at h
    injection h with h
    subst h
    rw [tot, tot_congr (h := fun i => if s i = sh then g i else 0) nl (fun i hi => by
      have : gi ((List.range nl).map g) i = g i := by simp [gi, List.getD_eq_getElem?_getD, hi]
      simp only [this])]
    omega
  | k + 1, l, hk, h => by
    obtain ⟨l0, h0⟩ := leftS_some h k (by omega)
    have ih := shade_left sh hall k l0 (by omega) h0
    have hl := leftS_len h0
    have hp := hall k (by omega)
    rw [tot]
    rcases leftS_step h0 h with ⟨e, rfl⟩ | ⟨h1, h2, h3, h4, rfl⟩
    · omega
    · by_cases c : so k = sh
      · have hu := tot_upd (f := fun i => if s i = sh then gi l0 i else 0) (h := fun i => if s i = sh then gi (l0.set (gi P k).toNat (gi l0 (gi P k).toNat - go k)) i else 0) (p := (gi P k).toNat) (d := -(go k))
          (fun i hi => by simp only [gi_putL _ (show (gi P k).toNat < l0.length by omega), if_neg hi])
          (by simp only [gi_putL _ (show (gi P k).toNat < l0.length by omega), if_pos (h3.trans c), if_true]; omega) nl
        rw [hu, if_pos h2, if_pos c]
        omega
      · have hu := tot_upd (f := fun i => if s i = sh then gi l0 i else 0) (h := fun i => if s i = sh then gi (l0.set (gi P k).toNat (gi l0 (gi P k).toNat - go k)) i else 0) (p := (gi P k).toNat) (d := 0)
          (fun i hi => by simp only [gi_putL _ (show (gi P k).toNat < l0.length by omega), if_neg hi])
          (by rw [← h3] at c; simp only [if_neg c]; omega) nl
        rw [hu, if_pos h2, if_neg c]
        omega
/-- How many a plan serves. -/
theorem served_negs (P : List Int) : tot (fun j => if 0 ≤ gi P j then 1 else 0) P.length = (P.length : Int) - negs P := by
  have : ∀ (n : Nat) (Q : List Int), Q.length = n → tot (fun j => if 0 ≤ gi Q j then 1 else 0) n = (n : Int) - negs Q := by
    intro n
    induction n with
    | zero => intro Q hQ; obtain rfl := List.length_eq_zero_iff.1 hQ; rfl
    | succ n ih =>
      intro Q hQ
      have hne : Q ≠ [] := fun e => by rw [e] at hQ; simp at hQ
      obtain ⟨Q', z, rfl⟩ : ∃ Q' z, Q = Q' ++ [z] := ⟨Q.dropLast, Q.getLast hne, (List.dropLast_concat_getLast hne).symm⟩
      have hl : Q'.length = n := by simpa using hQ
      rw [tot, negs_snoc, tot_congr (h := fun j => if 0 ≤ gi Q' j then 1 else 0) n (fun j hj => by simp only [gi_app (show j < Q'.length by omega)]), ih Q' hl]
      subst hl
      rw [gi_end]
      by_cases c : 0 ≤ z
      · rw [if_pos c, if_neg (by omega)]; omega
      · rw [if_neg c, if_pos (by omega)]; omega
  exact this _ P rfl
theorem negs_zeroL {P : List Int} (h : negs P ≤ 0) : ∀ j, j < P.length → 0 ≤ gi P j := fun j hj => by
  have h0 : (P.filter (fun z => decide (z < 0))).length = 0 := by unfold negs at h; omega
  have h1 := List.length_eq_zero_iff.1 h0
  have h2 := List.filter_eq_nil_iff.1 h1 P[j] (List.getElem_mem hj)
  have e : gi P j = P[j] := by simp [gi, List.getD_eq_getElem?_getD, hj]
  simp only [decide_eq_true_eq] at h2
  rw [e]; omega
theorem zero_negs {P : List Int} (h : ∀ j, j < P.length → 0 ≤ gi P j) : negs P = 0 := by
  unfold negs
  have : P.filter (fun z => decide (z < 0)) = [] := List.filter_eq_nil_iff.2 fun z hz => by
    obtain ⟨j, hj, rfl⟩ := List.mem_iff_getElem.1 hz
    have := h j hj
    have e : gi P j = P[j] := by simp [gi, List.getD_eq_getElem?_getD, hj]
    rw [e] at this
    simp only [decide_eq_true_eq]; omega
  rw [this]; rfl
/-- A lot is opened where something is taken from it. -/
theorem take_has {P : List Int} (hgo : ∀ j, j < no → 1 ≤ go j) (i : Nat) : ∀ k, k ≤ no → (0 < tot (takeF go P i) k ↔ ∃ j, j < k ∧ gi P j = (i : Int)) ∧ 0 ≤ tot (takeF go P i) k
  | 0, _ => by simp [tot]
  | k + 1, hk => by
    obtain ⟨h1, h2⟩ := take_has (P := P) hgo i k (by omega)
    have := hgo k (by omega)
    rw [tot, takeF]
    by_cases c : gi P k = (i : Int)
    · rw [if_pos c]
      exact ⟨⟨fun _ => ⟨k, by omega, c⟩, fun _ => by omega⟩, by omega⟩
    · rw [if_neg c, Int.add_zero, h1]
      refine ⟨⟨fun ⟨j, a, b⟩ => ⟨j, by omega, b⟩, fun ⟨j, a, b⟩ => ⟨j, ?_, b⟩⟩, h2⟩
      have : j ≠ k := fun e => c (e ▸ b)
      omega
theorem has_mem {P : List Int} {i : Nat} : (∃ j, j < P.length ∧ gi P j = (i : Int)) ↔ hasB P (i : Int) = true := by
  unfold hasB
  rw [decide_eq_true_eq]
  constructor
  · rintro ⟨j, hj, e⟩
    have : P[j] = (i : Int) := by simpa [gi, List.getD_eq_getElem?_getD, hj] using e
    exact this ▸ List.getElem_mem hj
  · intro h
    obtain ⟨j, hj, e⟩ := List.mem_iff_getElem.1 h
    exact ⟨j, hj, by simp [gi, List.getD_eq_getElem?_getD, hj, e]⟩
theorem opened_cost {P : List Int} (hl : P.length = no) (hgo : ∀ j, j < no → 1 ≤ go j) (keep : Int) (R : List Int) : ∀ k,
    tot (fun i => if 0 < tot (takeF go P i) no then 1 else 0) k = costK 1 keep P R k ∧ tot (fun i => if 0 < tot (takeF go P i) no ∧ gi R i < keep then gi R i else 0) k = costK 2 keep P R k
  | 0 => ⟨rfl, rfl⟩
  | k + 1 => by
    obtain ⟨h1, h2⟩ := opened_cost hl hgo keep R k
    have h3 := (take_has (P := P) hgo k no (Nat.le_refl _)).1
    rw [← hl, has_mem, hl] at h3
    rw [tot, tot, costK, costK, h1, h2]
    by_cases c : hasB P (k : Int) = true
    · have c2 := h3.2 c
      rw [if_pos c2, if_pos c, if_pos c, if_pos rfl, if_neg (show ¬ (2 : Nat) = 1 by omega)]
      refine ⟨rfl, ?_⟩
      by_cases c3 : gi R k < keep
      · rw [if_pos ⟨c2, c3⟩, if_pos ⟨rfl, c3⟩]
      · rw [if_neg (fun h => c3 h.2), if_neg (fun h => c3 h.2)]
    · have c2 : ¬ 0 < tot (takeF go P k) no := fun h => c (h3.1 h)
      rw [if_neg c2, if_neg c, if_neg c, if_neg (fun h => c2 h.1)]
      exact ⟨rfl, rfl⟩
/-! ### The two fits -/
theorem pickN_shade (q : Int → Int → Bool) (l : List Int) (o p : Int) : ∀ k, 0 ≤ pickN q s l o p k → s (pickN q s l o p k).toNat = o
  | 0, h => by simp [pickN] at h
  | k + 1, h => by
    have ih := pickN_shade q l o p k
    unfold pickN at h ⊢
    split
    · rename_i hc; simpa using hc.1
    · rename_i hc; rw [if_neg hc] at h; exact ih h
theorem fit_left (q : Int → Int → Bool) (no : Nat) : ∀ k, k ≤ no → leftS nl s g so go ((List.range no).map (fitA q nl s g so go)) k = some (fitL q nl s g so go k)
  | 0, _ => rfl
  | k + 1, hk => by
    have e : gi ((List.range no).map (fitA q nl s g so go)) k = fitA q nl s g so go k := by simp [gi, List.getD_eq_getElem?_getD, show k < no by omega]
    rw [leftS, fit_left q no k (by omega), Option.bind_some, e, fitL]
    have hb := pickN_bd q s (fitL q nl s g so go k) (so k) (go k) nl
    have hs := pickN_shade (s := s) q (fitL q nl s g so go k) (so k) (go k) nl
    have hg := pickN_ge q s (fitL q nl s g so go k) (so k) (go k) nl
    unfold stepL fitA
    by_cases c : 0 ≤ pickN q s (fitL q nl s g so go k) (so k) (go k) nl
    · rw [if_neg (by omega), if_pos ⟨c, by omega, hs c, hg c⟩, if_pos c]
    · rw [if_pos (by omega), if_neg c]
theorem fit_right (q : Int → Int → Bool) : Right nl no s g so go ((List.range no).map (fitA q nl s g so go)) (fitL q nl s g so go no) := ⟨by simp, fit_left q no no (Nat.le_refl _)⟩
end
/-! ### The best ones -/
section
variable {α : Type} {f : α → Int}
theorem fold_leastL : ∀ (L : List α) (b x : α), L.foldl (lessO f) (some b) = some x → f x ≤ f b ∧ ∀ y ∈ L, f x ≤ f y
  | [], b, x, h => by
    simp only [List.foldl_nil, Option.some.injEq] at h
    subst h
    exact ⟨Int.le_refl _, fun y hy => by cases hy⟩
  | z :: L, b, x, h => by
    simp only [List.foldl_cons, lessO] at h
    split at h
    · rename_i hlt
      obtain ⟨h1, h2⟩ := fold_leastL L z x h
      refine ⟨by omega, fun y hy => ?_⟩
      rcases List.mem_cons.1 hy with rfl | hy
      · exact h1
      · exact h2 y hy
    · rename_i hlt
      obtain ⟨h1, h2⟩ := fold_leastL L b x h
      refine ⟨h1, fun y hy => ?_⟩
      rcases List.mem_cons.1 hy with rfl | hy
      · omega
      · exact h2 y hy
end
theorem bestV_least {f : Visit → Int} {L : List Visit} {v : Visit} (h : bestV f none L = some v) : ∀ y ∈ L, f v ≤ f y := by
  cases L with
  | nil => simp [bestV] at h
  | cons z L =>
    have h2 : L.foldl (lessO f) (some z) = some v := h
    obtain ⟨h1, h2⟩ := fold_leastL L z v h2
    intro y hy
    rcases List.mem_cons.1 hy with rfl | hy
    · exact h1
    · exact h2 y hy
end Go.Proofs.Ytfdljhepfoppaaa
