/- The plain law on ladders: what hangs on what, and the worst loop. -/
import Derived.Test.YtepdgbgolopejaaLadICatch
namespace Go.Proofs.Ytepdgbgolopejaa
open Go.RowKit
set_option linter.unusedVariables false
set_option linter.unusedSimpArgs false

/-- The places of the loops from which a loop was made, so far as so many stitches tell. -/
def fromP (l : List UInt8) (x : Nat) : Nat → List Nat
  | 0 => []
  | i + 1 => fromP l x i ++ (if mkS (l.take i) ≤ x ∧ x < mkS (l.take i) + mkN (l.getD i 0) then plcs (tkS (l.take i)) (tkN (l.getD i 0)) else [])
theorem fromP_mem {l : List UInt8} {x y : Nat} : ∀ i, y ∈ fromP l x i ↔ ∃ j, j < i ∧ (mkS (l.take j) ≤ x ∧ x < mkS (l.take j) + mkN (l.getD j 0)) ∧ y ∈ plcs (tkS (l.take j)) (tkN (l.getD j 0))
  | 0 => by simp [fromP]
  | i + 1 => by
    rw [fromP, List.mem_append, fromP_mem i]
    constructor
    · rintro (⟨j, h1, h2, h3⟩ | h)
      · exact ⟨j, by omega, h2, h3⟩
      · split at h
        · exact ⟨i, by omega, by assumption, h⟩
        · cases h
    · rintro ⟨j, h1, h2, h3⟩
      rcases Nat.lt_or_ge j i with hj | hj
      · exact .inl ⟨j, hj, h2, h3⟩
      · obtain rfl : j = i := by omega
        right; rw [if_pos h2]; exact h3
theorem nextP_mem {D : List Nat} {l : List UInt8} {y : Nat} : ∀ i, y ∈ nextP D l i ↔ ∃ j, j < i ∧ fits D (mkS (l.take j)) (mkN (l.getD j 0)) = true ∧ y ∈ plcs (tkS (l.take j)) (tkN (l.getD j 0))
  | 0 => by simp [nextP]
  | i + 1 => by
    rw [nextP, List.mem_append, nextP_mem i]
    constructor
    · rintro (⟨j, h1, h2, h3⟩ | h)
      · exact ⟨j, by omega, h2, h3⟩
      · split at h
        · exact ⟨i, by omega, by assumption, h⟩
        · cases h
    · rintro ⟨j, h1, h2, h3⟩
      rcases Nat.lt_or_ge j i with hj | hj
      · exact .inl ⟨j, hj, h2, h3⟩
      · obtain rfl : j = i := by omega
        right; rw [if_pos h2]; exact h3
theorem fromP_lt (l : List UInt8) (x : Nat) : ∀ i, i ≤ l.length → ∀ y ∈ fromP l x i, y < tkS (l.take i)
  | 0, _, y, hy => by cases hy
  | i + 1, hi, y, hy => by
    have hlt : i < l.length := hi
    have ih := fromP_lt l x i (by omega) y
    rw [tkS_take hlt]
    rw [fromP, List.mem_append] at hy
    rcases hy with hy | hy
    · have := ih hy; omega
    · split at hy
      · have := (plcs_mem.1 hy).2
        rw [getD_u8 hlt] at this
        exact this
      · cases hy
theorem fromP_sort (l : List UInt8) (x : Nat) : ∀ i, i ≤ l.length → (fromP l x i).Pairwise (· < ·)
  | 0, _ => List.Pairwise.nil
  | i + 1, hi => by
    have ih := fromP_sort l x i (by omega)
    rw [fromP, List.pairwise_append]
    refine ⟨ih, by split; exact plcs_sort _ _; exact List.Pairwise.nil, fun u hu v hv => ?_⟩
    have h1 := fromP_lt l x i (by omega) u hu
    split at hv
    · exact Nat.lt_of_lt_of_le h1 (plcs_mem.1 hv).1
    · cases hv
/-- The loops from which a loop of a fabric was made. -/
def frm (L : List (List UInt8)) (r x : Nat) : List Nat := if r = 0 then [] else fromP (L.getD (r - 1) []) x (L.getD (r - 1) []).length
theorem frm_lt {cast : Int} {L : List (List UInt8)} (h : FabV cast L) {r x y : Nat} (hr : r ≤ L.length) (hy : y ∈ frm L r x) : 1 ≤ r ∧ y < widN cast L (r - 1) := by
  unfold frm at hy
  split at hy
  · cases hy
  · have := fromP_lt _ _ _ (Nat.le_refl _) y hy
    rw [List.take_length, h.tk _ (by omega)] at this
    exact ⟨by omega, this⟩
theorem frm_len {cast : Int} {L : List (List UInt8)} (h : FabV cast L) {r x : Nat} (hr : r ≤ L.length) : (frm L r x).length ≤ 60 := by
  unfold frm
  split
  · simp
  · have h1 := len_le_of_sorted (fromP_sort (L.getD (r - 1) []) x _ (Nat.le_refl _)) (fromP_lt (L.getD (r - 1) []) x _ (Nat.le_refl _))
    rw [List.take_length, h.tk _ (by omega)] at h1
    have := h.wid (r - 1) (by omega)
    omega
/-- The loops of a ladder in the last so many rows, as pairs of naturals. -/
def ladP (L : List (List UInt8)) (a : Nat) : Nat → List (Nat × Nat)
  | 0 => []
  | i + 1 => ladP L a i ++ (dropD L a i).map fun k => (L.length - i, k)
def ii (p : Nat × Nat) : Int × Int := ((p.1 : Int), (p.2 : Int))
theorem ladU_P (L : List (List UInt8)) (a : Nat) : ∀ N, ladU L a N = (ladP L a N).map ii
  | 0 => rfl
  | N + 1 => by rw [ladU, ladP, ladU_P L a N, List.map_append, List.map_map]; rfl
theorem ladP_mem {L : List (List UInt8)} {a r x : Nat} : ∀ N, (r, x) ∈ ladP L a N ↔ ∃ i, i < N ∧ r = L.length - i ∧ x ∈ dropD L a i
  | 0 => by simp [ladP]
  | N + 1 => by
    rw [ladP, List.mem_append, ladP_mem N]
    constructor
    · rintro (⟨i, h1, h2, h3⟩ | h)
      · exact ⟨i, by omega, h2, h3⟩
      · obtain ⟨k, hk, e⟩ := List.mem_map.1 h
        simp only [Prod.mk.injEq] at e
        exact ⟨N, by omega, e.1.symm, e.2 ▸ hk⟩
    · rintro ⟨i, h1, h2, h3⟩
      rcases Nat.lt_or_ge i N with hj | hj
      · exact .inl ⟨i, hj, h2, h3⟩
      · obtain rfl : i = N := by omega
        exact .inr (List.mem_map.2 ⟨x, h3, by rw [h2]⟩)
/-- One loop comes ahead of another one in a ladder. -/
def ahead (p q : Nat × Nat) : Prop := q.1 < p.1 ∨ q.1 = p.1 ∧ p.2 < q.2
theorem ladP_sort (L : List (List UInt8)) (a : Nat) : ∀ N, N ≤ L.length + 1 → (ladP L a N).Pairwise ahead
  | 0, _ => List.Pairwise.nil
  | N + 1, hN => by
    rw [ladP, List.pairwise_append]
    refine ⟨ladP_sort L a N (by omega), ?_, fun u hu v hv => ?_⟩
    · rw [List.pairwise_map]
      exact (dropD_sort L a N).imp fun h => .inr ⟨rfl, h⟩
    · obtain ⟨k, hk, rfl⟩ := List.mem_map.1 hv
      obtain ⟨r, x⟩ := u
      obtain ⟨i, h1, h2, h3⟩ := (ladP_mem N).1 hu
      left
      show L.length - N < r
      omega
theorem getD_pair {P : List (Nat × Nat)} {i : Nat} (h : i < P.length) : P.getD i (0, 0) = P[i] := by simp [List.getD_eq_getElem?_getD, h]
/-- All that the law asks of a ladder. -/
structure LadF (cast : Int) (L : List (List UInt8)) (a : Nat) (P : List (Nat × Nat)) : Prop where
  pos : 0 < P.length
  hd : P.getD 0 (0, 0) = (L.length, a)
  len : P.length ≤ 1860
  bd : ∀ i, i < P.length → (P.getD i (0, 0)).1 ≤ L.length ∧ (P.getD i (0, 0)).2 < widN cast L (P.getD i (0, 0)).1 ∧ (P.getD i (0, 0)).1 ≤ 30 ∧ (P.getD i (0, 0)).2 < 60
  inc : ∀ i, i + 1 < P.length → ahead (P.getD i (0, 0)) (P.getD (i + 1) (0, 0)) ∧ (P.getD (i + 1) (0, 0)).1 < L.length
  hang : ∀ i, i + 1 < P.length → ((List.range (i + 1)).any fun j => decide ((P.getD j (0, 0)).1 = (P.getD (i + 1) (0, 0)).1 + 1) && (frm L (P.getD j (0, 0)).1 (P.getD j (0, 0)).2).contains (P.getD (i + 1) (0, 0)).2) = true
  kept : ∀ j, j < P.length → ∀ y ∈ frm L (P.getD j (0, 0)).1 (P.getD j (0, 0)).2, ¬ ((P.getD j (0, 0)).1 - 1, y) ∈ P → ((List.range (widN cast L (P.getD j (0, 0)).1)).any fun o => (frm L (P.getD j (0, 0)).1 o).contains y && !decide (((P.getD j (0, 0)).1, o) ∈ P)) = true
theorem getD_memP {P : List (Nat × Nat)} {i : Nat} (h : i < P.length) : P.getD i (0, 0) ∈ P := by rw [getD_pair h]; exact List.getElem_mem h
theorem ladF_of {cast : Int} {L : List (List UInt8)} (hV : FabV cast L) {a : Nat} (ha : a < widN cast L L.length) : LadF cast L a (ladP L a (L.length + 1)) := by
  have hS := ladP_sort L a (L.length + 1) (Nat.le_refl _)
  have hM := fun r x => ladP_mem (L := L) (a := a) (r := r) (x := x) (L.length + 1)
  have h30 := hV.num
  have hlen : (ladP L a (L.length + 1)).length ≤ 60 * (L.length + 1) := by
    have := ladU_len hV ha (L.length + 1) (Nat.le_refl _)
    rwa [ladU_P, List.length_map] at this
  have hhd : ∃ T, ladP L a (L.length + 1) = (L.length, a) :: T := by
    have : ∀ m, ∃ T, ladP L a (m + 1) = (L.length, a) :: T := by
      intro m
      induction m with
      | zero => exact ⟨[], rfl⟩
      | succ m ih => obtain ⟨T, hT⟩ := ih; exact ⟨T ++ _, by rw [ladP, hT]; rfl⟩
    exact this _
  have hbd : ∀ t ∈ ladP L a (L.length + 1), t.1 ≤ L.length ∧ t.2 < widN cast L t.1 := by
    rintro ⟨r, x⟩ ht
    obtain ⟨i, h1, h2, h3⟩ := (hM r x).1 ht
    have := dropD_lt hV ha i (by omega) x h3
    exact ⟨by dsimp only; omega, by dsimp only; rw [h2]; exact this⟩
  generalize hP : ladP L a (L.length + 1) = P at *
  obtain ⟨T, hT⟩ := hhd
  have hlt : ∀ i j, i < j → j < P.length → ahead (P.getD i (0, 0)) (P.getD j (0, 0)) := fun i j hij hj => by
    rw [getD_pair hj, getD_pair (by omega)]
    exact List.pairwise_iff_getElem.1 hS i j (by omega) hj hij
  have hb2 : ∀ i, i < P.length → (P.getD i (0, 0)).1 ≤ L.length ∧ (P.getD i (0, 0)).2 < widN cast L (P.getD i (0, 0)).1 := fun i hi => hbd _ (getD_memP hi)
  have h0 : P.getD 0 (0, 0) = (L.length, a) := by rw [hT]; rfl
  have hrow : ∀ i, i + 1 < P.length → (P.getD (i + 1) (0, 0)).1 < L.length := fun i hi => by
    have h1 := hlt 0 (i + 1) (by omega) hi
    rw [h0] at h1
    have hm := getD_memP hi
    generalize P.getD (i + 1) (0, 0) = t at *
    obtain ⟨r, x⟩ := t
    obtain ⟨q, q1, q2, q3⟩ := (hM r x).1 hm
    cases q with
    | zero => 
      have := List.mem_singleton.1 q3
      rcases h1 with h1 | ⟨_, h1⟩
      · exact h1
      · dsimp only at h1; omega
    | succ q => dsimp only; omega
  refine ⟨by rw [hT]; simp, h0, by omega, fun i hi => ⟨(hb2 i hi).1, (hb2 i hi).2, ?_, ?_⟩, fun i hi => ⟨hlt i (i + 1) (by omega) hi, hrow i hi⟩, fun i hi => ?_, fun j hj y hy hn => ?_⟩
  · have := (hb2 i hi).1; omega
  · have h1 := (hb2 i hi).2
    have h2 := hV.wid _ (hb2 i hi).1
    omega
  · have hr := hrow i hi
    have hm := getD_memP hi
    have hl2 := fun j => hlt j (i + 1)
    have hl3 := fun j => hlt (i + 1) j
    obtain ⟨t, hti⟩ : ∃ t, P.getD (i + 1) (0, 0) = t := ⟨_, rfl⟩
    rw [hti] at hr hm ⊢
    simp only [hti] at hl2 hl3
    obtain ⟨r, x⟩ := t
    dsimp only at hr ⊢
    obtain ⟨q, q1, q2, q3⟩ := (hM r x).1 hm
    cases q with
    | zero => omega
    | succ q =>
      rw [dropD] at q3
      obtain ⟨s, s1, s2, s3⟩ := (nextP_mem _).1 q3
      have hto : mkS ((L.getD (L.length - 1 - q) []).take s) ∈ dropD L a q := by
        rw [fits, Bool.and_eq_true, decide_eq_true_eq, List.all_eq_true] at s2
        have := s2.2 0 (List.mem_range.2 s2.1)
        simpa using this
      have hmem : (r + 1, mkS ((L.getD (L.length - 1 - q) []).take s)) ∈ P := (hM _ _).2 ⟨q, by omega, by omega, hto⟩
      obtain ⟨j, hj, e⟩ := List.getElem_of_mem hmem
      have ej : P.getD j (0, 0) = (r + 1, mkS ((L.getD (L.length - 1 - q) []).take s)) := by rw [getD_pair hj, e]
      have hji : j < i + 1 := by
        rcases Nat.lt_trichotomy j (i + 1) with h | h | h
        · exact h
        · subst h
          exfalso
          rw [hti] at ej
          simp only [Prod.mk.injEq] at ej
          omega
        · have := hl3 j h hj
          rw [ej] at this
          rcases this with h | ⟨h, _⟩ <;> dsimp only at h <;> omega
      rw [List.any_eq_true]
      refine ⟨j, List.mem_range.2 hji, ?_⟩
      rw [ej]
      dsimp only
      rw [Bool.and_eq_true, decide_eq_true_eq]
      refine ⟨rfl, ?_⟩
      rw [List.contains_iff_mem, frm, if_neg (by omega), show r + 1 - 1 = L.length - 1 - q by omega]
      refine (fromP_mem _).2 ⟨s, s1, ⟨Nat.le_refl _, ?_⟩, s3⟩
      rw [fits, Bool.and_eq_true, decide_eq_true_eq] at s2
      omega
  · have hm := getD_memP hj
    generalize P.getD j (0, 0) = t at *
    obtain ⟨r, x⟩ := t
    dsimp only at hy hn ⊢
    obtain ⟨q, q1, q2, q3⟩ := (hM r x).1 hm
    have hrl := (hbd _ hm).1
    have h1 := (frm_lt hV hrl hy).1
    dsimp only at hrl
    rw [frm, if_neg (by omega)] at hy
    obtain ⟨s, s1, s2, s3⟩ := (fromP_mem _).1 hy
    have hnf : ¬ fits (dropD L a q) (mkS ((L.getD (r - 1) []).take s)) (mkN ((L.getD (r - 1) []).getD s 0)) = true := fun hf => hn ((hM _ _).2 ⟨q + 1, by omega, by omega, by
      rw [dropD, show L.length - 1 - q = r - 1 by omega]
      exact (nextP_mem _).2 ⟨s, s1, hf, s3⟩⟩)
    rw [fits, Bool.and_eq_true, decide_eq_true_eq, List.all_eq_true] at hnf
    have : ∃ k, k < mkN ((L.getD (r - 1) []).getD s 0) ∧ ¬ (mkS ((L.getD (r - 1) []).take s) + k) ∈ dropD L a q := by
      apply Classical.byContradiction
      intro hc
      refine hnf ⟨by omega, fun k hk => ?_⟩
      rw [List.contains_iff_mem]
      apply Classical.byContradiction
      intro h9
      exact hc ⟨k, List.mem_range.1 hk, h9⟩
    obtain ⟨k, k1, k2⟩ := this
    rw [List.any_eq_true]
    have hw : mkS ((L.getD (r - 1) []).take s) + k < widN cast L r := by
      have e1 := mkS_take s1
      have e2 := makS_le (L.getD (r - 1) []) (s + 1)
      rw [getD_u8 s1] at k1
      have e3 := hV.wd (r - 1) (by omega)
      rw [show r - 1 + 1 = r by omega] at e3
      omega
    refine ⟨mkS ((L.getD (r - 1) []).take s) + k, List.mem_range.2 hw, ?_⟩
    rw [Bool.and_eq_true, List.contains_iff_mem]
    refine ⟨?_, ?_⟩
    · rw [frm, if_neg (by omega)]
      exact (fromP_mem _).2 ⟨s, s1, ⟨by omega, by omega⟩, s3⟩
    · simp only [Bool.not_eq_true', decide_eq_false_iff_not]
      intro h9
      obtain ⟨q', p1, p2, p3⟩ := (hM _ _).1 h9
      obtain rfl : q' = q := by omega
      exact k2 p3
/-- The worst loop of so many: its place, and how long its ladder is. -/
def worstP (f : Nat → Nat) : Nat → Nat × Nat
  | 0 => (0, 0)
  | k + 1 => if (worstP f k).2 < f k then (k, f k) else worstP f k
theorem worstP_le (f : Nat → Nat) : ∀ n k, k < n → f k ≤ (worstP f n).2 ∧ (f k = (worstP f n).2 → 0 < f k → (worstP f n).1 ≤ k)
  | 0, k, hk => by omega
  | n + 1, k, hk => by
    rw [worstP]
    by_cases h : (worstP f n).2 < f n
    · rw [if_pos h]
      dsimp only
      rcases Nat.lt_or_ge k n with hn | hn
      · have := worstP_le f n k hn; exact ⟨by omega, fun e _ => by omega⟩
      · obtain rfl : k = n := by omega
        exact ⟨Nat.le_refl _, fun _ _ => Nat.le_refl _⟩
    · rw [if_neg h]
      rcases Nat.lt_or_ge k n with hn | hn
      · exact worstP_le f n k hn
      · obtain rfl : k = n := by omega
        refine ⟨by omega, fun e hp => ?_⟩
        have h1 : (worstP f k).1 ≤ k := by
          clear h e hk hn
          induction k with
          | zero => simp [worstP]
          | succ k ih =>
            rw [worstP]; split
            · dsimp only; omega
            · rcases Nat.eq_zero_or_pos (f k) with h0 | h0
              · have : ∀ m, (worstP f m).1 ≤ m := fun m => by
                  induction m with
                  | zero => simp [worstP]
                  | succ m ih => rw [worstP]; split; (dsimp only; omega); omega
                have := this k; omega
              · have := ih h0; omega
        exact h1
theorem worstP_at (f : Nat → Nat) : ∀ n, 0 < (worstP f n).2 → (worstP f n).1 < n ∧ f (worstP f n).1 = (worstP f n).2
  | 0, h => by simp [worstP] at h
  | n + 1, h => by
    rw [worstP] at h ⊢
    split
    · exact ⟨by dsimp only; omega, rfl⟩
    · rw [if_neg (by assumption)] at h
      have := worstP_at f n h
      exact ⟨by omega, this.2⟩
theorem worstP_fst (f : Nat → Nat) : ∀ m, (worstP f m).1 ≤ m
  | 0 => by simp [worstP]
  | m + 1 => by rw [worstP]; split; (dsimp only; omega); (have := worstP_fst f m; omega)
/-- The upper part of a ladder. -/
theorem ladP_part {L : List (List UInt8)} {a row : Nat} (hr : row ≤ L.length) : ∃ m, ladP L a (L.length - row) = (ladP L a (L.length + 1)).take m ∧ m ≤ (ladP L a (L.length + 1)).length ∧ ∀ i, i < (ladP L a (L.length + 1)).length → (i < m ↔ row < ((ladP L a (L.length + 1)).getD i (0, 0)).1) := by
  have hadd : ∀ N m, ∃ R, ladP L a (N + m) = ladP L a N ++ R ∧ ∀ t ∈ R, ∃ i, N ≤ i ∧ i < N + m ∧ t.1 = L.length - i := by
    intro N m
    induction m with
    | zero => exact ⟨[], by simp, by simp⟩
    | succ m ih =>
      obtain ⟨R, h1, h2⟩ := ih
      refine ⟨R ++ (dropD L a (N + m)).map fun k => (L.length - (N + m), k), ?_, fun t ht => ?_⟩
      · rw [← Nat.add_assoc, ladP, h1, List.append_assoc]
      · rcases List.mem_append.1 ht with ht | ht
        · obtain ⟨i, a1, a2, a3⟩ := h2 t ht
          exact ⟨i, a1, by omega, a3⟩
        · obtain ⟨k, _, rfl⟩ := List.mem_map.1 ht
          exact ⟨N + m, by omega, by omega, rfl⟩
  obtain ⟨R, hR, hR2⟩ := hadd (L.length - row) (row + 1)
  rw [show L.length - row + (row + 1) = L.length + 1 by omega] at hR
  rw [hR]
  refine ⟨(ladP L a (L.length - row)).length, by simp, by simp, fun i hi => ?_⟩
  rw [getD_pair hi]
  constructor
  · intro h
    rw [List.getElem_append_left h]
    have hm := List.getElem_mem h
    generalize (ladP L a (L.length - row))[i] = t at *
    obtain ⟨r, x⟩ := t
    obtain ⟨q, q1, q2, _⟩ := (ladP_mem _).1 hm
    dsimp only; omega
  · intro h
    apply Classical.byContradiction
    intro hc
    rw [List.getElem_append_right (by omega)] at h
    have hm := List.getElem_mem (l := R) (n := i - (ladP L a (L.length - row)).length) (by rw [List.length_append] at hi; omega)
    obtain ⟨q, q1, q2, q3⟩ := hR2 _ hm
    omega
end Go.Proofs.Ytepdgbgolopejaa
