/- Holes as sets of stitches: plain facts, no program in sight. -/
import Derived.Test.YtcbegcekdmmjpaaMem
namespace Go.Proofs.Ytcbegcekdmmjpaa
open Go.RowKit
set_option linter.unusedVariables false
set_option linter.unusedSimpArgs false

def bitAt (h x : Int) : Int := h / 2 ^ x.toNat % 2
def hole (hs : List Int) (x y : Int) : Bool := decide (0 ≤ x) && decide (0 ≤ y) && decide (x < 8) && decide (y < 8) && (bitAt (gi hs y.toNat) x == 1)
/-- Eight bytes. -/
structure Holes8 (hs : List Int) : Prop where
  len : hs.length = 8
  all : ∀ z ∈ hs, 0 ≤ z ∧ z ≤ 255
theorem Holes8.bd {hs : List Int} (h : Holes8 hs) (j : Nat) : 0 ≤ gi hs j ∧ gi hs j ≤ 255 := by
  unfold gi
  rw [List.getD_eq_getElem?_getD]
  cases hj : hs[j]? with
  | none => simp
  | some v => exact h.all v (List.mem_of_getElem? hj)

/-! ### A byte and its bits -/
def byte8 (b0 b1 b2 b3 b4 b5 b6 b7 : Bool) : Int :=
  (if b0 then 1 else 0) + (if b1 then 2 else 0) + (if b2 then 4 else 0) + (if b3 then 8 else 0) + (if b4 then 16 else 0) + (if b5 then 32 else 0) + (if b6 then 64 else 0) + (if b7 then 128 else 0)
theorem byte8_bd (b0 b1 b2 b3 b4 b5 b6 b7 : Bool) : 0 ≤ byte8 b0 b1 b2 b3 b4 b5 b6 b7 ∧ byte8 b0 b1 b2 b3 b4 b5 b6 b7 ≤ 255 := by
  revert b0 b1 b2 b3 b4 b5 b6 b7
  decide +kernel
theorem bit_byte8 : ∀ (b0 b1 b2 b3 b4 b5 b6 b7 : Bool) (x : Fin 8), (bitAt (byte8 b0 b1 b2 b3 b4 b5 b6 b7) (x.val : Int) == 1) = [b0, b1, b2, b3, b4, b5, b6, b7].getD x.val false := by
  decide +kernel
theorem byte8_bits_fin : ∀ b : Fin 256, byte8 (bitAt b.val 0 == 1) (bitAt b.val 1 == 1) (bitAt b.val 2 == 1) (bitAt b.val 3 == 1) (bitAt b.val 4 == 1) (bitAt b.val 5 == 1) (bitAt b.val 6 == 1) (bitAt b.val 7 == 1) = (b.val : Int) := by
  decide +kernel
theorem byte_ext {a b : Int} (ha : 0 ≤ a ∧ a ≤ 255) (hb : 0 ≤ b ∧ b ≤ 255) (h : ∀ x : Nat, x < 8 → (bitAt a (x : Int) == 1) = (bitAt b (x : Int) == 1)) : a = b := by
  have ea := byte8_bits_fin ⟨a.toNat, by omega⟩
  have eb := byte8_bits_fin ⟨b.toNat, by omega⟩
  simp only [Int.toNat_of_nonneg ha.1] at ea
  simp only [Int.toNat_of_nonneg hb.1] at eb
  rw [← ea, ← eb]
  have h0 : (bitAt a 0 == 1) = (bitAt b 0 == 1) := h 0 (by omega)
  have h1 : (bitAt a 1 == 1) = (bitAt b 1 == 1) := h 1 (by omega)
  have h2 : (bitAt a 2 == 1) = (bitAt b 2 == 1) := h 2 (by omega)
  have h3 : (bitAt a 3 == 1) = (bitAt b 3 == 1) := h 3 (by omega)
  have h4 : (bitAt a 4 == 1) = (bitAt b 4 == 1) := h 4 (by omega)
  have h5 : (bitAt a 5 == 1) = (bitAt b 5 == 1) := h 5 (by omega)
  have h6 : (bitAt a 6 == 1) = (bitAt b 6 == 1) := h 6 (by omega)
  have h7 : (bitAt a 7 == 1) = (bitAt b 7 == 1) := h 7 (by omega)
  rw [h0, h1, h2, h3, h4, h5, h6, h7]
/-- Bit x of b, set. -/
theorem or_bit_fin : ∀ (b : Fin 256) (x j : Fin 8), (bitAt (bits .or .u8 (b.val : Int) (2 ^ x.val)) (j.val : Int) == 1) = (decide (j.val = x.val) || (bitAt (b.val : Int) (j.val : Int) == 1)) := by
  decide +kernel
theorem or_bd_fin : ∀ (b : Fin 256) (x : Fin 8), 0 ≤ bits .or .u8 (b.val : Int) (2 ^ x.val) ∧ bits .or .u8 (b.val : Int) (2 ^ x.val) ≤ 255 := by
  decide +kernel
theorem or_bit {b : Int} (hb : 0 ≤ b ∧ b ≤ 255) {x j : Nat} (hx : x < 8) (hj : j < 8) : (bitAt (bits .or .u8 b (2 ^ x)) (j : Int) == 1) = (decide (j = x) || (bitAt b (j : Int) == 1)) := by
  have := or_bit_fin ⟨b.toNat, by omega⟩ ⟨x, hx⟩ ⟨j, hj⟩
  simpa only [Int.toNat_of_nonneg hb.1] using this
theorem or_bd {b : Int} (hb : 0 ≤ b ∧ b ≤ 255) {x : Nat} (hx : x < 8) : 0 ≤ bits .or .u8 b (2 ^ x) ∧ bits .or .u8 b (2 ^ x) ≤ 255 := by
  have := or_bd_fin ⟨b.toNat, by omega⟩ ⟨x, hx⟩
  simpa only [Int.toNat_of_nonneg hb.1] using this

/-! ### Sets of stitches -/
theorem hole_in {hs : List Int} {j k : Nat} (hj : j < 8) (hk : k < 8) : hole hs (j : Int) (k : Int) = (bitAt (gi hs k) j == 1) := by
  have e1 : ((j : Int) < 8) := by omega
  have e2 : ((k : Int) < 8) := by omega
  simp [hole, e1, e2]
theorem hole_off {hs : List Int} {x y : Int} (h : ¬ (0 ≤ x ∧ 0 ≤ y ∧ x < 8 ∧ y < 8)) : hole hs x y = false := by
  simp only [hole, Bool.and_eq_false_iff, decide_eq_false_iff_not]
  omega
theorem holes_ext {a b : List Int} (ha : Holes8 a) (hb : Holes8 b) (h : ∀ x y : Nat, x < 8 → y < 8 → hole a (x : Int) (y : Int) = hole b (x : Int) (y : Int)) : a = b := by
  apply List.ext_getElem
  · rw [ha.len, hb.len]
  · intro y h1 h2
    have hy : y < 8 := by rw [← ha.len]; exact h1
    have e : gi a y = gi b y := byte_ext (ha.bd y) (hb.bd y) (fun x hx => by rw [← hole_in hx hy, ← hole_in hx hy]; exact h x y hx hy)
    unfold gi at e
    rw [List.getD_eq_getElem?_getD, List.getD_eq_getElem?_getD, List.getElem?_eq_getElem h1, List.getElem?_eq_getElem h2] at e
    exact e
theorem gi_set {xs : List Int} {i j : Nat} (v : Int) (hi : i < xs.length) : gi (xs.set i v) j = if j = i then v else gi xs j := by
  unfold gi
  rw [List.getD_eq_getElem?_getD, List.getD_eq_getElem?_getD, List.getElem?_set]
  by_cases h : i = j
  · subst h; simp [hi]
  · simp [h, Ne.symm h]
theorem Holes8.set {hs : List Int} (h : Holes8 hs) (y : Nat) {v : Int} (hv : 0 ≤ v ∧ v ≤ 255) : Holes8 (hs.set y v) := by
  refine ⟨by rw [List.length_set]; exact h.len, fun z hz => ?_⟩
  rcases List.mem_or_eq_of_mem_set hz with hz | rfl
  · exact h.all z hz
  · exact hv
/-- One stitch more. -/
def addAt (hs : List Int) (x y : Nat) : List Int := hs.set y (bits .or .u8 (gi hs y) (2 ^ x))
theorem Holes8.addAt {hs : List Int} (h : Holes8 hs) {x y : Nat} (hx : x < 8) : Holes8 (addAt hs x y) := h.set y (or_bd (h.bd y) hx)
theorem hole_addAt {hs : List Int} (h : Holes8 hs) {x y a b : Nat} (hx : x < 8) (hy : y < 8) (ha : a < 8) (hb : b < 8) :
    hole (addAt hs x y) (a : Int) (b : Int) = ((decide (a = x) && decide (b = y)) || hole hs (a : Int) (b : Int)) := by
  rw [hole_in ha hb, hole_in ha hb, addAt, gi_set _ (by rw [h.len]; exact hy)]
  by_cases e : b = y
  · subst e
    rw [if_pos rfl, or_bit (h.bd b) hx ha]
    simp
  · rw [if_neg e]
    simp [e]
/-- The set of the stitches with f. -/
def mk (f : Nat → Nat → Bool) : List Int := (List.range 8).map fun y => byte8 (f 0 y) (f 1 y) (f 2 y) (f 3 y) (f 4 y) (f 5 y) (f 6 y) (f 7 y)
theorem mk8 (f : Nat → Nat → Bool) : Holes8 (mk f) := by
  refine ⟨by simp [mk], fun z hz => ?_⟩
  obtain ⟨y, _, rfl⟩ := List.mem_map.1 hz
  exact byte8_bd _ _ _ _ _ _ _ _
theorem hole_mk (f : Nat → Nat → Bool) {x y : Nat} (hx : x < 8) (hy : y < 8) : hole (mk f) (x : Int) (y : Int) = f x y := by
  rw [hole_in hx hy]
  have e : gi (mk f) y = byte8 (f 0 y) (f 1 y) (f 2 y) (f 3 y) (f 4 y) (f 5 y) (f 6 y) (f 7 y) := by
    simp [gi, mk, List.getD_eq_getElem?_getD, hy]
  rw [e, bit_byte8 _ _ _ _ _ _ _ _ ⟨x, hx⟩]
  match x, hx with
  | 0, _ | 1, _ | 2, _ | 3, _ | 4, _ | 5, _ | 6, _ | 7, _ => rfl
theorem mk_hole {hs : List Int} (h : Holes8 hs) : mk (fun x y => hole hs (x : Int) (y : Int)) = hs :=
  holes_ext (mk8 _) h fun x y hx hy => hole_mk _ hx hy

/-! ### A week -/
def b2i (b : Bool) : Int := if b then 1 else 0
/-- How many of the four neighbours are holes. -/
def nb (hs : List Int) (x y : Int) : Int := b2i (hole hs (x - 1) y) + b2i (hole hs (x + 1) y) + b2i (hole hs x (y - 1)) + b2i (hole hs x (y + 1))
/-- The holes of a week, the first n stitches done. -/
def weekN (hs : List Int) (need : Int) (n : Nat) : List Int := mk fun x y => hole hs (x : Int) (y : Int) || (decide (8 * y + x < n) && decide (need ≤ nb hs (x : Int) (y : Int)))
def week (hs : List Int) (need : Int) : List Int := weekN hs need 64
theorem weekN8 (hs : List Int) (need : Int) (n : Nat) : Holes8 (weekN hs need n) := mk8 _
theorem week8 (hs : List Int) (need : Int) : Holes8 (week hs need) := weekN8 hs need 64
theorem weekN_zero {hs : List Int} (h : Holes8 hs) (need : Int) : weekN hs need 0 = hs :=
  holes_ext (mk8 _) h fun x y hx hy => by rw [weekN, hole_mk _ hx hy]; simp
theorem weekN_no {hs : List Int} {need : Int} {k j : Nat} (hj : j < 8) (hn : ¬ need ≤ nb hs (j : Int) (k : Int)) : weekN hs need (8 * k + j + 1) = weekN hs need (8 * k + j) :=
  holes_ext (mk8 _) (mk8 _) fun x y hx hy => by
    rw [weekN, weekN, hole_mk _ hx hy, hole_mk _ hx hy]
    by_cases e : 8 * y + x = 8 * k + j
    · have e1 : x = j := by omega
      have e2 : y = k := by omega
      subst e1; subst e2
      simp [hn]
    · rw [show decide (8 * y + x < 8 * k + j + 1) = decide (8 * y + x < 8 * k + j) by simp; omega]
theorem weekN_yes {hs : List Int} {need : Int} {k j : Nat} (hk : k < 8) (hj : j < 8) (hn : need ≤ nb hs (j : Int) (k : Int)) : weekN hs need (8 * k + j + 1) = addAt (weekN hs need (8 * k + j)) j k :=
  holes_ext (mk8 _) ((weekN8 _ _ _).addAt hj) fun x y hx hy => by
    rw [hole_addAt (weekN8 _ _ _) hj hk hx hy, weekN, weekN, hole_mk _ hx hy, hole_mk _ hx hy]
    by_cases e : 8 * y + x = 8 * k + j
    · have e1 : x = j := by omega
      have e2 : y = k := by omega
      subst e1; subst e2
      simp [hn]
    · rw [show decide (8 * y + x < 8 * k + j + 1) = decide (8 * y + x < 8 * k + j) by simp; omega]
      have : (decide (x = j) && decide (y = k)) = false := by simp; omega
      rw [this, Bool.false_or]
theorem hole_week {hs : List Int} {need : Int} {x y : Nat} (hx : x < 8) (hy : y < 8) : hole (week hs need) (x : Int) (y : Int) = (hole hs (x : Int) (y : Int) || decide (need ≤ nb hs (x : Int) (y : Int))) := by
  rw [week, weekN, hole_mk _ hx hy]
  have : decide (8 * y + x < 64) = true := by simp; omega
  rw [this, Bool.true_and]
/-- The holes after n weeks. -/
def weeks (hs : List Int) (need : Int) : Nat → List Int
  | 0 => hs
  | n + 1 => week (weeks hs need n) need
theorem weeks8 {hs : List Int} (h : Holes8 hs) (need : Int) : ∀ n, Holes8 (weeks hs need n)
  | 0 => h
  | n + 1 => week8 _ _

/-! ### How many -/
/-- How many of the first n stitches are holes. -/
def cnt (hs : List Int) : Nat → Int
  | 0 => 0
  | n + 1 => cnt hs n + if hole hs ((n % 8 : Nat) : Int) ((n / 8 : Nat) : Int) then 1 else 0
theorem cnt_bd (hs : List Int) : ∀ n, 0 ≤ cnt hs n ∧ cnt hs n ≤ n
  | 0 => by simp [cnt]
  | n + 1 => by
    have := cnt_bd hs n
    simp only [cnt]
    split <;> omega
theorem cnt_step (hs : List Int) (k j : Nat) (hj : j < 8) : cnt hs (8 * k + (j + 1)) = cnt hs (8 * k + j) + if hole hs (j : Int) (k : Int) then 1 else 0 := by
  have e1 : (8 * k + j) % 8 = j := by omega
  have e2 : (8 * k + j) / 8 = k := by omega
  rw [show 8 * k + (j + 1) = (8 * k + j) + 1 by omega, cnt, e1, e2]
end Go.Proofs.Ytcbegcekdmmjpaa
