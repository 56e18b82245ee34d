/- The ladder under a loop: plain lists. -/
import Derived.Test.YtepdgbgolopejaaFabSpec
namespace Go.Proofs.Ytepdgbgolopejaa
open Go.RowKit
set_option linter.unusedVariables false
set_option linter.unusedSimpArgs false

def tkN (c : UInt8) : Nat := (takV c).toNat
def mkN (c : UInt8) : Nat := (makV c).toNat
def tkS (l : List UInt8) : Nat := (l.map tkN).sum
def mkS (l : List UInt8) : Nat := (l.map mkN).sum
theorem tkS_take {l : List UInt8} {k : Nat} (h : k < l.length) : tkS (l.take (k + 1)) = tkS (l.take k) + tkN l[k] := by
  rw [List.take_add_one, List.getElem?_eq_getElem h]; simp only [tkS, List.map_append, List.sum_append, Option.toList_some, List.map_cons, List.map_nil, List.sum_cons, List.sum_nil, Nat.add_zero]
theorem mkS_take {l : List UInt8} {k : Nat} (h : k < l.length) : mkS (l.take (k + 1)) = mkS (l.take k) + mkN l[k] := by
  rw [List.take_add_one, List.getElem?_eq_getElem h]; simp only [mkS, List.map_append, List.sum_append, Option.toList_some, List.map_cons, List.map_nil, List.sum_cons, List.sum_nil, Nat.add_zero]
theorem takS_le (l : List UInt8) (k : Nat) : tkS (l.take k) ≤ tkS l := by
  have : tkS l = tkS (l.take k) + tkS (l.drop k) := by
    conv => lhs; rw [← List.take_append_drop k l]
    simp only [tkS, List.map_append, List.sum_append]
  omega
theorem makS_le (l : List UInt8) (k : Nat) : mkS (l.take k) ≤ mkS l := by
  have : mkS l = mkS (l.take k) + mkS (l.drop k) := by
    conv => lhs; rw [← List.take_append_drop k l]
    simp only [mkS, List.map_append, List.sum_append]
  omega
theorem stT_N {c : UInt8} {s : Int × Int × Int} (h : stT c = some s) : takV c = (tkN c : Int) ∧ makV c = (mkN c : Int) ∧ tkN c ≤ 2 ∧ mkN c ≤ 2 ∧ s.1 = (tkN c : Int) ∧ s.2.1 = (mkN c : Int) ∧ 1 ≤ tkN c + mkN c := by
  have h1 := takV_of h
  have h2 := makV_of h
  have h3 := stT_bd h
  unfold tkN mkN
  omega
/-- What a row of stitches takes and makes. -/
theorem rowS_N : ∀ (l : List UInt8) (k : Nat), k ≤ l.length → ∀ a, rowS (l.take k) = some a → a.1 = (tkS (l.take k) : Int) ∧ a.2.1 = (mkS (l.take k) : Int) := by
  intro l k
  induction k with
  | zero => intro _ a h; simp [rowS] at h; subst h; simp [tkS, mkS]
  | succ k ih =>
    intro hk a h
    have hlt : k < l.length := hk
    rw [rowS_take hlt] at h
    cases e : rowS (l.take k) with
    | none => rw [e] at h; simp [stAdd] at h
    | some b =>
      cases e2 : stT l[k] with
      | none => rw [e] at h; simp [stAdd, e2] at h
      | some s =>
        rw [e] at h
        simp only [stAdd, e2] at h
        injection h with h
        have h1 := ih (by omega) b e
        have h2 := stT_N e2
        rw [tkS_take hlt, mkS_take hlt, ← h]
        constructor <;> simp only [Int.natCast_add] <;> omega
theorem rowS_all {l : List UInt8} {a : Int × Int × Int} (h : rowS l = some a) : a.1 = (tkS l : Int) ∧ a.2.1 = (mkS l : Int) := by
  have := rowS_N l l.length (Nat.le_refl _) a (by rw [List.take_length]; exact h)
  rwa [List.take_length] at this
theorem rowS_st {l : List UInt8} {a : Int × Int × Int} (h : rowS l = some a) {k : Nat} (hk : k < l.length) : ∃ s, stT l[k] = some s := by
  cases e : stT l[k] with
  | some s => exact ⟨s, rfl⟩
  | none =>
    have : rowS (l.take (k + 1)) = none := by
      rw [rowS_take hk]
      unfold stAdd
      rw [e]
      cases rowS (l.take k) <;> rfl
    rw [rowS_none this] at h
    cases h
/-- Whether all loops that a stitch makes have dropped. -/
def fits (D : List Nat) (to m : Nat) : Bool := decide (0 < m) && (List.range m).all fun k => D.contains (to + k)
/-- The places from one on. -/
def plcs (fr n : Nat) : List Nat := (List.range n).map (fr + ·)
theorem plcs_mem {fr n x : Nat} : x ∈ plcs fr n ↔ fr ≤ x ∧ x < fr + n := by
  simp only [plcs, List.mem_map, List.mem_range]
  constructor
  · rintro ⟨k, hk, rfl⟩; omega
  · intro h; exact ⟨x - fr, by omega, by omega⟩
theorem plcs_len (fr n : Nat) : (plcs fr n).length = n := by simp [plcs]
theorem plcs_sort (fr n : Nat) : (plcs fr n).Pairwise (· < ·) := by
  rw [plcs, List.pairwise_map]
  exact (List.pairwise_lt_range (n := n)).imp fun h => by omega
/-- The loops that drop below a row, so far as so many of its stitches tell. -/
def nextP (D : List Nat) (l : List UInt8) : Nat → List Nat
  | 0 => []
  | i + 1 => nextP D l i ++ (if fits D (mkS (l.take i)) (mkN (l.getD i 0)) = true then plcs (tkS (l.take i)) (tkN (l.getD i 0)) else [])
theorem getD_u8 {l : List UInt8} {i : Nat} (h : i < l.length) : l.getD i 0 = l[i] := by simp [List.getD_eq_getElem?_getD, h]
theorem nextP_yes {D : List Nat} {l : List UInt8} {i : Nat} (h : i < l.length) (hf : fits D (mkS (l.take i)) (mkN l[i]) = true) : nextP D l (i + 1) = nextP D l i ++ plcs (tkS (l.take i)) (tkN l[i]) := by
  rw [nextP, getD_u8 h, if_pos hf]
theorem nextP_no {D : List Nat} {l : List UInt8} {i : Nat} (h : i < l.length) (hf : fits D (mkS (l.take i)) (mkN l[i]) = false) : nextP D l (i + 1) = nextP D l i := by
  rw [nextP, getD_u8 h, if_neg (by rw [hf]; exact Bool.false_ne_true), List.append_nil]
theorem nextP_lt (D : List Nat) (l : List UInt8) : ∀ i, i ≤ l.length → ∀ x ∈ nextP D l i, x < tkS (l.take i)
  | 0, _, x, hx => by cases hx
  | i + 1, hi, x, hx => by
    have hlt : i < l.length := hi
    have ih := nextP_lt D l i (by omega) x
    rw [tkS_take hlt]
    cases hf : fits D (mkS (l.take i)) (mkN l[i])
    · rw [nextP_no hlt hf] at hx
      have := ih hx
      omega
    · rw [nextP_yes hlt hf, List.mem_append] at hx
      rcases hx with hx | hx
      · have := ih hx; omega
      · exact (plcs_mem.1 hx).2
theorem nextP_sort (D : List Nat) (l : List UInt8) : ∀ i, i ≤ l.length → (nextP D l i).Pairwise (· < ·)
  | 0, _ => List.Pairwise.nil
  | i + 1, hi => by
    have hlt : i < l.length := hi
    have ih := nextP_sort D l i (by omega)
    cases hf : fits D (mkS (l.take i)) (mkN l[i])
    · rw [nextP_no hlt hf]; exact ih
    · rw [nextP_yes hlt hf, List.pairwise_append]
      exact ⟨ih, plcs_sort _ _, fun x hx y hy => Nat.lt_of_lt_of_le (nextP_lt D l i (by omega) x hx) (plcs_mem.1 hy).1⟩
/-- The loops that drop, so many rows below the last one. -/
def dropD (L : List (List UInt8)) (at_ : Nat) : Nat → List Nat
  | 0 => [at_]
  | i + 1 => nextP (dropD L at_ i) (L.getD (L.length - 1 - i) []) (L.getD (L.length - 1 - i) []).length
/-- The loops of a ladder in the last so many rows. -/
def ladU (L : List (List UInt8)) (at_ : Nat) : Nat → List (Int × Int)
  | 0 => []
  | i + 1 => ladU L at_ i ++ (dropD L at_ i).map fun (k : Nat) => (((L.length - i : Nat) : Int), (k : Int))
/-- How many loops there are in a row. -/
def widN (cast : Int) (L : List (List UInt8)) : Nat → Nat
  | 0 => cast.toNat
  | r + 1 => mkS (L.getD r [])
/-- A fabric that is valid. -/
structure FabV (cast : Int) (L : List (List UInt8)) : Prop where
  csb : 1 ≤ cast ∧ cast ≤ 60
  num : L.length ≤ 30
  row : ∀ r, r < L.length → ∃ a, rowS (L.getD r []) = some a
  tk : ∀ r, r < L.length → tkS (L.getD r []) = widN cast L r
  wid : ∀ r, r ≤ L.length → widN cast L r ≤ 60
theorem badG_rows : ∀ (L : List (List UInt8)) (loops : Int) (i : Nat), badG loops i L < 0 → ∀ r, r < L.length → ∃ a, rowS (L.getD r []) = some a ∧ (r = 0 → a.1 = loops) ∧ (∀ q, r = q + 1 → a.1 = (mkS (L.getD q []) : Int)) ∧ a.2.1 ≤ 60
  | [], _, _, _, r, hr => by simp at hr
  | x :: xs, loops, i, h, r, hr => by
    cases hx : rowS x with
    | none => rw [badG_none hx] at h; omega
    | some a =>
      by_cases hc : 30 ≤ i ∨ loops = 0 ∨ ¬ a.1 = loops ∨ 60 < a.2.1
      · rw [badG_yes hx hc] at h; omega
      · rw [badG_no hx hc] at h
        cases r with
        | zero => exact ⟨a, by simpa using hx, fun _ => by omega, fun q hq => by omega, by omega⟩
        | succ r =>
          obtain ⟨b, b1, b2, b3, b4⟩ := badG_rows xs _ _ h r (by simpa using hr)
          refine ⟨b, by simpa using b1, fun e => by omega, fun q hq => ?_, b4⟩
          obtain rfl : r = q := by omega
          cases r with
          | zero => rw [b2 rfl, (rowS_all hx).2]; simp
          | succ s => rw [b3 s rfl]; simp
theorem fabV_of {cast : Int} {L : List (List UInt8)} (h : fabOk cast L = true) : FabV cast L := by
  rw [fabOk, Bool.and_eq_true, decide_eq_true_eq] at h
  obtain ⟨h1, h2⟩ := h
  have hc : 1 ≤ cast ∧ cast ≤ 60 := by simpa [inB] using h1
  have hR := badG_rows L cast 0 h2
  refine ⟨hc, ?_, fun r hr => ?_, fun r hr => ?_, fun r hr => ?_⟩
  · rcases badG_cap L cast 0 h2 with e | e
    · subst e; simp
    · omega
  · obtain ⟨a, a1, _⟩ := hR r hr; exact ⟨a, a1⟩
  · obtain ⟨a, a1, a2, a3, a4⟩ := hR r hr
    have := (rowS_all a1).1
    cases r with
    | zero => have := a2 rfl; simp only [widN]; omega
    | succ q => have := a3 q rfl; simp only [widN]; omega
  · cases r with
    | zero => simp only [widN]; omega
    | succ q =>
      obtain ⟨a, a1, a2, a3, a4⟩ := hR q hr
      have := (rowS_all a1).2
      simp only [widN]
      omega
theorem FabV.wd {cast : Int} {L : List (List UInt8)} (h : FabV cast L) (r : Nat) (hr : r < L.length) : mkS (L.getD r []) = widN cast L (r + 1) := rfl
theorem FabV.len {cast : Int} {L : List (List UInt8)} (h : FabV cast L) (r : Nat) (hr : r < L.length) : (L.getD r []).length ≤ 120 := by
  obtain ⟨a, ha⟩ := h.row r hr
  have h1 := rowS_bd _ _ ha
  have h2 := rowS_all ha
  have h3 := h.tk r hr
  have h4 := h.wid r (by omega)
  have h5 := h.wid (r + 1) hr
  have h6 := h.wd r hr
  omega
theorem dropD_lt {cast : Int} {L : List (List UInt8)} (h : FabV cast L) {at_ : Nat} (ha : at_ < widN cast L L.length) : ∀ i, i ≤ L.length → ∀ x ∈ dropD L at_ i, x < widN cast L (L.length - i)
  | 0, _, x, hx => by
    rw [List.mem_singleton.1 hx]; simpa using ha
  | i + 1, hi, x, hx => by
    have := nextP_lt _ _ _ (Nat.le_refl _) x hx
    rw [List.take_length, h.tk _ (by omega)] at this
    rwa [show L.length - 1 - i = L.length - (i + 1) by omega] at this
theorem dropD_sort (L : List (List UInt8)) (at_ : Nat) : ∀ i, (dropD L at_ i).Pairwise (· < ·)
  | 0 => List.pairwise_singleton _ _
  | i + 1 => nextP_sort _ _ _ (Nat.le_refl _)
/-- A growing list of numbers below a bound is what it filters. -/
theorem filter_sorted : ∀ (W : Nat) (D : List Nat), D.Pairwise (· < ·) → (∀ x ∈ D, x < W) → (List.range W).filter (fun k => D.contains k) = D := by
  intro W
  induction W with
  | zero =>
    intro D _ hD
    cases D with
    | nil => rfl
    | cons x D => exact absurd (hD x (by simp)) (by omega)
  | succ W ih =>
    intro D hs hD
    rw [List.range_succ, List.filter_append]
    by_cases hW : W ∈ D
    · obtain ⟨E, F, rfl⟩ := List.append_of_mem hW
      have hF : F = [] := by
        cases F with
        | nil => rfl
        | cons y F =>
          have h1 := hD y (by simp)
          rw [List.pairwise_append] at hs
          have h2 := List.rel_of_pairwise_cons hs.2.1 (a' := y) (by simp)
          omega
      subst hF
      rw [List.pairwise_append] at hs
      have hE : ∀ x ∈ E, x < W := fun x hx => hs.2.2 x hx W (by simp)
      have := ih E hs.1 hE
      have e : (List.range W).filter (fun k => (E ++ [W]).contains k) = (List.range W).filter (fun k => E.contains k) := by
        apply List.filter_congr
        intro k hk
        have := List.mem_range.1 hk
        simp
        intro e; omega
      rw [e, this]
      simp
    · have hD' : ∀ x ∈ D, x < W := fun x hx => by
        have := hD x hx
        rcases Nat.lt_or_ge x W with h | h
        · exact h
        · exact absurd (show W ∈ D by rwa [show W = x by omega]) hW
      rw [ih D hs hD']
      simp [hW]
theorem len_le_of_sorted {W : Nat} {D : List Nat} (hs : D.Pairwise (· < ·)) (hD : ∀ x ∈ D, x < W) : D.length ≤ W := by
  have := congrArg List.length (filter_sorted W D hs hD)
  have h2 := List.length_filter_le (fun k => D.contains k) (List.range W)
  rw [List.length_range] at h2
  omega
theorem ladU_len {cast : Int} {L : List (List UInt8)} (h : FabV cast L) {at_ : Nat} (ha : at_ < widN cast L L.length) : ∀ i, i ≤ L.length + 1 → (ladU L at_ i).length ≤ 60 * i
  | 0, _ => by simp [ladU]
  | i + 1, hi => by
    have ih := ladU_len h ha i (by omega)
    have h1 := len_le_of_sorted (dropD_sort L at_ i) (dropD_lt h ha i (by omega))
    have h2 := h.wid (L.length - i) (by omega)
    simp only [ladU, List.length_append, List.length_map]
    omega
/-- The cells of loops, side by side. -/
def lpRow (L : List (Int × Int)) : List Value := (L.map fun z => [Value.int .i16 z.1, Value.int .i16 z.2]).flatten
theorem lpRow_snoc (L : List (Int × Int)) (a b : Int) : lpRow (L ++ [(a, b)]) = lpRow L ++ [.int .i16 a, .int .i16 b] := by
  simp [lpRow]
theorem lpRow_len (L : List (Int × Int)) : (lpRow L).length = L.length * 2 := by
  induction L with
  | nil => rfl
  | cons z L ih => simp only [lpRow, List.map_cons, List.flatten_cons, List.length_append, List.length_cons, List.length_nil] at ih ⊢; omega
/-- What CatchLoop returns. -/
def catchF (cast : Int) (L : List (List UInt8)) (at_ row : Int) : List (Int × Int) × Int :=
  if fabOk cast L = true then (if inB at_ 0 ((widN cast L L.length : Int) - 1) = true ∧ inB row 0 L.length = true then (ladU L at_.toNat (L.length - row.toNat), 0) else ([], 2)) else ([], 1)
end Go.Proofs.Ytepdgbgolopejaa
