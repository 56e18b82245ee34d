/- All spots together: plain lists. -/
import Derived.Test.YtcbegcekdmmjpaaMothPure
import Derived.Test.YtcbegcekdmmjpaaBitRows
namespace Go.Proofs.Ytcbegcekdmmjpaa
open Go.RowKit
set_option linter.unusedVariables false
set_option linter.unusedSimpArgs false

theorem bits_or8 (a b : Nat) : bits .or .u8 (a : Int) (b : Int) = (((BitVec.ofInt 8 (a : Int) ||| BitVec.ofInt 8 (b : Int)).toNat : Nat) : Int) := by
  have hx := (BitVec.ofInt 8 (a : Int) ||| BitVec.ofInt 8 (b : Int)).isLt
  show IntKind.u8.wrap ((BitVec.ofInt 8 (a : Int) ||| BitVec.ofInt 8 (b : Int)).toNat : Int) = _
  rw [IntKind.wrap_u8]
  omega
theorem or_bit2 {a b : Int} (ha : 0 ≤ a ∧ a ≤ 255) (hb : 0 ≤ b ∧ b ≤ 255) {j : Nat} (hj : j < 8) : (bitAt (bits .or .u8 a b) (j : Int) == 1) = ((bitAt a (j : Int) == 1) || (bitAt b (j : Int) == 1)) := by
  obtain ⟨m, rfl⟩ := Int.eq_ofNat_of_zero_le ha.1
  obtain ⟨n, rfl⟩ := Int.eq_ofNat_of_zero_le hb.1
  rw [bits_or8, bitAt_nat, bitAt_nat, bitAt_nat, BitVec.toNat_or, Nat.testBit_or, ofInt8 m (by omega), ofInt8 n (by omega)]
theorem or_bd2 (a b : Int) (ha : 0 ≤ a) (hb : 0 ≤ b) : 0 ≤ bits .or .u8 a b ∧ bits .or .u8 a b ≤ 255 := by
  obtain ⟨m, rfl⟩ := Int.eq_ofNat_of_zero_le ha
  obtain ⟨n, rfl⟩ := Int.eq_ofNat_of_zero_le hb
  rw [bits_or8]
  have := (BitVec.ofInt 8 (m : Int) ||| BitVec.ofInt 8 (n : Int)).isLt
  omega
open Classical in
/-- The holes of the first so many spots. -/
noncomputable def unionL (L : List (List Int)) (i : Nat) : List Int := mk fun x y => decide (∃ s ∈ L.take i, hole s (x : Int) (y : Int) = true)
theorem unionL8 (L : List (List Int)) (i : Nat) : Holes8 (unionL L i) := mk8 _
theorem hole_union (L : List (List Int)) (i : Nat) (x y : Int) : hole (unionL L i) x y = true ↔ ∃ s ∈ L.take i, hole s x y = true := by
  unfold unionL
  rw [hole_mkI]
  constructor
  · rintro ⟨p, q, hp, hq, rfl, rfl, e⟩
    simpa using e
  · rintro ⟨s, hs, h⟩
    obtain ⟨p, q, hp, hq, rfl, rfl⟩ := hole_range h
    exact ⟨p, q, hp, hq, rfl, rfl, by simpa using ⟨s, hs, h⟩⟩
theorem union_zero (L : List (List Int)) : unionL L 0 = noHoles := holes_extI (unionL8 _ _) noHoles8 fun a b => by
  rw [hole_union]
  exact ⟨fun ⟨s, hs, _⟩ => by simp at hs, fun h => (hole_none a b h).elim⟩
theorem union_all {h : List Int} {L : List (List Int)} (h8 : Holes8 h) (hL : ∀ a b, hole h a b = true ↔ ∃ s ∈ L, hole s a b = true) : unionL L L.length = h := holes_extI (unionL8 _ _) h8 fun a b => by
  rw [hole_union, List.take_length, hL]
theorem union_row {L : List (List Int)} (hL : ∀ s ∈ L, Holes8 s) {i y : Nat} (hi : i < L.length) (hy : y < 8) : bits .or .u8 (gi (unionL L i) y) (gi (L.getD i []) y) = gi (unionL L (i + 1)) y := by
  have hs : L.getD i [] = L[i] := by simp [List.getD_eq_getElem?_getD, hi]
  rw [hs]
  have h8 := hL _ (List.getElem_mem hi)
  refine byte_ext (or_bd2 _ _ ((unionL8 L i).bd y).1 (h8.bd y).1) ((unionL8 L (i + 1)).bd y) fun x hx => ?_
  rw [or_bit2 ((unionL8 L i).bd y) (h8.bd y) hx, ← hole_in hx hy, ← hole_in hx hy, ← hole_in hx hy, Bool.eq_iff_iff, Bool.or_eq_true, hole_union, hole_union, List.take_add_one, List.getElem?_eq_getElem hi]
  constructor
  · rintro (⟨s, h1, h2⟩ | h1)
    · exact ⟨s, List.mem_append.2 (.inl h1), h2⟩
    · exact ⟨L[i], List.mem_append.2 (.inr (by simp)), h1⟩
  · rintro ⟨s, h1, h2⟩
    rcases List.mem_append.1 h1 with h1 | h1
    · exact .inl ⟨s, h1, h2⟩
    · simp at h1
      subst h1
      exact .inr h2
/-- While a spot is put to the others, row by row. -/
noncomputable def partU (L : List (List Int)) (i y : Nat) : List Int := (List.range 8).map fun k => if k < y then gi (unionL L (i + 1)) k else gi (unionL L i) k
theorem partU_len (L : List (List Int)) (i y : Nat) : (partU L i y).length = 8 := by simp [partU]
theorem partU_get (L : List (List Int)) (i y : Nat) {k : Nat} (hk : k < 8) : gi (partU L i y) k = if k < y then gi (unionL L (i + 1)) k else gi (unionL L i) k := by
  simp [gi, partU, hk]
theorem gi_ext {a b : List Int} (ha : a.length = 8) (hb : b.length = 8) (h : ∀ k, k < 8 → gi a k = gi b k) : a = b := by
  apply List.ext_getElem (by omega)
  intro k h1 h2
  have := h k (by omega)
  simpa [gi, List.getD_eq_getElem?_getD, h1, h2] using this
theorem partU_zero (L : List (List Int)) (i : Nat) : partU L i 0 = unionL L i := gi_ext (partU_len _ _ _) (unionL8 L i).len fun k hk => by rw [partU_get _ _ _ hk, if_neg (Nat.not_lt_zero _)]
theorem partU_all (L : List (List Int)) (i : Nat) : partU L i 8 = unionL L (i + 1) := gi_ext (partU_len _ _ _) (unionL8 L (i + 1)).len fun k hk => by rw [partU_get _ _ _ hk, if_pos hk]
theorem partU_set {L : List (List Int)} {i y : Nat} (hy : y < 8) : (partU L i y).set y (gi (unionL L (i + 1)) y) = partU L i (y + 1) := gi_ext (by simp [partU]) (partU_len _ _ _) fun k hk => by
  rw [gi_set _ (by rw [partU_len]; exact hy), partU_get _ _ _ hk, partU_get _ _ _ hk]
  by_cases e : k = y
  · subst e; rw [if_pos rfl, if_pos (Nat.lt_succ_self _)]
  · rw [if_neg e]
    by_cases e2 : k < y
    · rw [if_pos e2, if_pos (by omega)]
    · rw [if_neg e2, if_neg (by omega)]
end Go.Proofs.Ytcbegcekdmmjpaa
