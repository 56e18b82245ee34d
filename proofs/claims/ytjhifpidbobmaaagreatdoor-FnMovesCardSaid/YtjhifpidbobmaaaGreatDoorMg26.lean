/- Texts laid together: FabLaw, TextWalk. -/
import Derived.Test.YtjhifpidbobmaaaGreatDoorMg25
import Derived.Test.YtjhifpidbobmaaaGreatDoorMg09
import Derived.Test.YtjhifpidbobmaaaGreatDoorMg16
import Derived.Lib.ItoaNum
import Derived.Deep.RegionWith
/- Fabrics as arguments of a law: their size, their copy, their comparing. -/
namespace Go.Proofs.YtjhifpidbobmaaaGreatDoor
open Go.RowKit
set_option linter.unusedVariables false
set_option linter.unusedSimpArgs false
set_option maxRecDepth 100000

def lensN (L : List (List UInt8)) : Nat := (L.map (·.length)).sum
theorem lensN_take {L : List (List UInt8)} {k : Nat} (h : k < L.length) : lensN (L.take (k + 1)) = lensN (L.take k) + (L.getD k []).length := by
  rw [List.take_add_one, List.getElem?_eq_getElem h]
  show ((L.take k ++ [L[k]]).map (·.length)).sum = _
  rw [List.map_append, List.sum_append]
  simp [lensN, List.getD_eq_getElem?_getD, h]
theorem lensN_le (L : List (List UInt8)) (k : Nat) : lensN (L.take k) ≤ lensN L := by
  have : lensN L = lensN (L.take k) + lensN (L.drop k) := by
    unfold lensN
    rw [← List.sum_append, ← List.map_append, List.take_append_drop]
  omega
theorem lensN_mem {L : List (List UInt8)} {l : List UInt8} (h : l ∈ L) : l.length ≤ lensN L := by
  obtain ⟨k, hk, rfl⟩ := List.getElem_of_mem h
  have h1 := lensN_take hk
  have h2 := lensN_le L (k + 1)
  simp [List.getD_eq_getElem?_getD, hk] at h1
  omega
/-- What is left of the budget; -1 if it does not do. -/
def szF (n m : Nat) : Int := if n + m ≤ 1048576 then 1048576 - (n : Int) - (m : Int) else -1
theorem szF_yes {n m : Nat} (h : n + m ≤ 1048576) : szF n m = 1048576 - (n : Int) - (m : Int) := if_pos h
theorem szF_no {n m : Nat} (h : ¬ n + m ≤ 1048576) : szF n m = -1 := if_neg h
def fabCells (cast : Int) (A : Option Addr) (n cap : Nat) : Array Value := #[.int .i16 cast, .slice A n cap]
theorem fab_one (cast : Int) (A : Option Addr) (n cap : Nat) : (fabCells cast A n cap).all (·.oneCell') = true := by simp [fabCells, Value.oneCell']
end Go.Proofs.YtjhifpidbobmaaaGreatDoor
/- Numbers in decimal: the reference's function, the program's. -/
namespace Go.Proofs.YtjhifpidbobmaaaGreatDoor
open Go.RowKit
set_option linter.unusedVariables false
set_option linter.unusedSimpArgs false
set_option maxRecDepth 100000

theorem conv_one {w : World} {g : Nat} {c : UInt8} {z : Int} (hz : (c.toNat : Int) = z) (h : w.heap[g]? = some (.cells #[.int .u8 z] 5 (0, 0))) : (convert 22 9 (.slice (some ⟨g, 0, none⟩) 1 1)).run Tryz.prog w = .ok (.string (str [c])) w := by
  subst hz
  exact own_string (l := [c]) Tryz.underlying22 Tryz.underlying5 Tryz.underlying9 (own_of_row (base := 0) (n := 1) (size := 1) h rfl (Nat.zero_le _) (by omega))
def digC (n : Nat) : UInt8 := UInt8.ofNat (48 + n % 10)
theorem digC_nat (n : Nat) : ((digC n).toNat : Int) = 48 + (n : Int) % 10 := by
  have : (digC n).toNat = 48 + n % 10 := by
    show (48 + n % 10) % 256 = 48 + n % 10
    omega
  rw [this]
  omega
theorem dec_low {n : Nat} (h : n < 10) : Lib.decDigits n = [digC n] := by
  rw [Lib.decDigits, dif_pos h, digC, Nat.mod_eq_of_lt h]
theorem dec_high {n : Nat} (h : ¬ n < 10) : Lib.decDigits n = Lib.decDigits (n / 10) ++ [digC n] := by
  rw [Lib.decDigits, dif_neg h, digC]
theorem dec_len (k : Nat) : ∀ n : Nat, n < 10 ^ (k + 1) → (Lib.decDigits n).length ≤ k + 1 := by
  induction k with
  | zero => intro n h; rw [dec_low (by simpa using h)]; simp
  | succ k ih =>
    intro n h
    by_cases h10 : n < 10
    · rw [dec_low h10]; simp
    · rw [dec_high h10]
      have : n / 10 < 10 ^ (k + 1) := by rw [Nat.div_lt_iff_lt_mul (by omega)]; rw [Nat.pow_succ] at h; exact h
      have := ih _ this
      simp; omega
theorem c_decimal (n : Nat) (hn : n < 100) (w : World) : Calls Tryz.prog 64 #[.int .i64 (n : Int)] w fun e w' => e = .returned (.string (str (Lib.decDigits n))) ∧ w = w' := by
  have CF : ∀ w, Hid (Calls Tryz.prog 83 #[.int .i64 (n : Int), .int .i64 10] w fun e w' => e = .returned (.string (str (Lib.decDigits n))) ∧ w = w') := fun w => (Tryz.strconv_FormatInt_10_small n hn w).mono fun _ _ h => ⟨h.1, h.2.symm⟩
  go_enter Tryz.func64, Tryz.ntmps64
  go_wp2_with (go_at_call 83; ((with_reducible refine (CF _).out.mono ?_); rintro e w1 ⟨rfl, rfl⟩))
  go_ret
  exact ⟨rfl, rfl⟩
end Go.Proofs.YtjhifpidbobmaaaGreatDoor
