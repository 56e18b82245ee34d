/- Bytes taken together bit by bit: and, and-not. -/
import Derived.Test.YtcbegcekdmmjpaaHolesComp
namespace Go.Proofs.Ytcbegcekdmmjpaa
open Go.RowKit
set_option linter.unusedVariables false
set_option linter.unusedSimpArgs false

theorem bitAt_nat (n j : Nat) : (bitAt (n : Int) (j : Int) == 1) = n.testBit j := by
  rw [Nat.testBit_eq_decide_div_mod_eq]
  unfold bitAt
  rw [Int.toNat_natCast]
  have h : ((n : Int) / 2 ^ j % 2) = ((n / 2 ^ j % 2 : Nat) : Int) := by push_cast; rfl
  rw [h]
  by_cases e : n / 2 ^ j % 2 = 1
  · simp [e]
  · have : n / 2 ^ j % 2 = 0 := by omega
    simp [this]
theorem ofInt8 (a : Nat) (ha : a < 256) : (BitVec.ofInt 8 (a : Int)).toNat = a := by
  rw [BitVec.ofInt_natCast, BitVec.toNat_ofNat]; exact Nat.mod_eq_of_lt (by omega)
theorem bits_and8 (a b : Nat) : bits .and .u8 (a : Int) (b : Int) = (((BitVec.ofInt 8 (a : Int) &&& BitVec.ofInt 8 (b : Int)).toNat : Nat) : Int) := by
  have hx := (BitVec.ofInt 8 (a : Int) &&& BitVec.ofInt 8 (b : Int)).isLt
  show IntKind.u8.wrap ((BitVec.ofInt 8 (a : Int) &&& BitVec.ofInt 8 (b : Int)).toNat : Int) = _
  rw [IntKind.wrap_u8]
  omega
theorem bits_andNot8 (a b : Nat) : bits .andNot .u8 (a : Int) (b : Int) = (((BitVec.ofInt 8 (a : Int) &&& ~~~BitVec.ofInt 8 (b : Int)).toNat : Nat) : Int) := by
  have hx := (BitVec.ofInt 8 (a : Int) &&& ~~~BitVec.ofInt 8 (b : Int)).isLt
  show IntKind.u8.wrap ((BitVec.ofInt 8 (a : Int) &&& ~~~BitVec.ofInt 8 (b : Int)).toNat : Int) = _
  rw [IntKind.wrap_u8]
  omega
theorem and_bit {a b : Int} (ha : 0 ≤ a ∧ a ≤ 255) (hb : 0 ≤ b ∧ b ≤ 255) {j : Nat} (hj : j < 8) : (bitAt (bits .and .u8 a b) (j : Int) == 1) = ((bitAt a (j : Int) == 1) && (bitAt b (j : Int) == 1)) := by
  obtain ⟨m, rfl⟩ := Int.eq_ofNat_of_zero_le ha.1
  obtain ⟨n, rfl⟩ := Int.eq_ofNat_of_zero_le hb.1
  rw [bits_and8, bitAt_nat, bitAt_nat, bitAt_nat, BitVec.toNat_and, Nat.testBit_and, ofInt8 m (by omega), ofInt8 n (by omega)]
theorem andNot_bit {a b : Int} (ha : 0 ≤ a ∧ a ≤ 255) (hb : 0 ≤ b ∧ b ≤ 255) {j : Nat} (hj : j < 8) : (bitAt (bits .andNot .u8 a b) (j : Int) == 1) = ((bitAt a (j : Int) == 1) && !(bitAt b (j : Int) == 1)) := by
  obtain ⟨m, rfl⟩ := Int.eq_ofNat_of_zero_le ha.1
  obtain ⟨n, rfl⟩ := Int.eq_ofNat_of_zero_le hb.1
  rw [bits_andNot8, bitAt_nat, bitAt_nat, bitAt_nat]
  have h1 : (BitVec.ofInt 8 (m : Int) &&& ~~~BitVec.ofInt 8 (n : Int)).toNat.testBit j = (BitVec.ofInt 8 (m : Int) &&& ~~~BitVec.ofInt 8 (n : Int)).getLsbD j := rfl
  have h2 : (BitVec.ofInt 8 (m : Int)).getLsbD j = m.testBit j := by rw [BitVec.getLsbD, ofInt8 m (by omega)]
  have h3 : (BitVec.ofInt 8 (n : Int)).getLsbD j = n.testBit j := by rw [BitVec.getLsbD, ofInt8 n (by omega)]
  rw [h1, BitVec.getLsbD_and, BitVec.getLsbD_not, h2, h3]
  simp [hj]
theorem and_bd (a b : Int) (ha : 0 ≤ a) (hb : 0 ≤ b) : 0 ≤ bits .and .u8 a b ∧ bits .and .u8 a b ≤ 255 := by
  obtain ⟨m, rfl⟩ := Int.eq_ofNat_of_zero_le ha
  obtain ⟨n, rfl⟩ := Int.eq_ofNat_of_zero_le hb
  rw [bits_and8]
  have := (BitVec.ofInt 8 (m : Int) &&& BitVec.ofInt 8 (n : Int)).isLt
  omega
theorem andNot_bd (a b : Int) (ha : 0 ≤ a) (hb : 0 ≤ b) : 0 ≤ bits .andNot .u8 a b ∧ bits .andNot .u8 a b ≤ 255 := by
  obtain ⟨m, rfl⟩ := Int.eq_ofNat_of_zero_le ha
  obtain ⟨n, rfl⟩ := Int.eq_ofNat_of_zero_le hb
  rw [bits_andNot8]
  have := (BitVec.ofInt 8 (m : Int) &&& ~~~BitVec.ofInt 8 (n : Int)).isLt
  omega
/-- Row y of the holes without some. -/
theorem less_row {a b : List Int} (ha : Holes8 a) (hb : Holes8 b) {y : Nat} (hy : y < 8) : bits .andNot .u8 (gi a y) (gi b y) = gi (less a b) y := by
  refine byte_ext (andNot_bd _ _ (ha.bd y).1 (hb.bd y).1) ((less8 a b).bd y) fun x hx => ?_
  rw [andNot_bit (ha.bd y) (hb.bd y) hx, ← hole_in hx hy, ← hole_in hx hy, ← hole_in hx hy]
  have := hole_less a b (x : Int) (y : Int)
  cases h1 : hole a (x : Int) (y : Int) <;> cases h2 : hole b (x : Int) (y : Int) <;> cases h3 : hole (less a b) (x : Int) (y : Int) <;> simp_all
/-- Row y of the ring: what stands a week later, and is a hole. -/
theorem ring_row {hs o : List Int} (hh : Holes8 hs) {y : Nat} (hy : y < 8) : bits .and .u8 (gi (week o 1) y) (gi hs y) = gi (ring hs o) y := by
  refine byte_ext (and_bd _ _ ((week8 o 1).bd y).1 (hh.bd y).1) ((ring8 hs o).bd y) fun x hx => ?_
  rw [and_bit ((week8 o 1).bd y) (hh.bd y) hx, ← hole_in hx hy, ← hole_in hx hy, ← hole_in hx hy, hole_week hx hy]
  unfold ring
  rw [hole_mk _ hx hy]
  cases hole hs (x : Int) (y : Int) <;> simp
end Go.Proofs.Ytcbegcekdmmjpaa
