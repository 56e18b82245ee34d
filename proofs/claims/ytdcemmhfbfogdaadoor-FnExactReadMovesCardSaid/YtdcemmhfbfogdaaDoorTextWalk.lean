/- Numbers in decimal: the reference's function, the program's. -/
import Derived.Test.YtdcemmhfbfogdaaDoorFabLaw
import Derived.Test.YtdcemmhfbfogdaaDoorShelf
import Derived.Lib.ItoaNum
import Derived.Deep.RegionWith
namespace Go.Proofs.YtdcemmhfbfogdaaDoor
open Go.RowKit
set_option linter.unusedVariables false
set_option linter.unusedSimpArgs false
set_option maxRecDepth 100000

theorem conv_one {w : World} {g : Nat} {c : UInt8} {z : Int} (hz : (c.toNat : Int) = z) (h : w.heap[g]? = some (.cells #[.int .u8 z] 5 (0, 0))) : (convert 89 9 (.slice (some ⟨g, 0, none⟩) 1 1)).run Tryd.prog w = .ok (.string (str [c])) w := by
  subst hz
  exact own_string (l := [c]) Tryd.underlying89 Tryd.underlying5 Tryd.underlying9 (own_of_row (base := 0) (n := 1) (size := 1) h rfl (Nat.zero_le _) (by omega))
def digC (n : Nat) : UInt8 := UInt8.ofNat (48 + n % 10)
theorem digC_nat (n : Nat) : ((digC n).toNat : Int) = 48 + (n : Int) % 10 := by
  have : (digC n).toNat = 48 + n % 10 := by
    show (48 + n % 10) % 256 = 48 + n % 10
    omega
  rw [this]
  omega
theorem dec_low {n : Nat} (h : n < 10) : Lib.decDigits n = [digC n] := by
  rw [Lib.decDigits, dif_pos h, digC, Nat.mod_eq_of_lt h]
theorem dec_high {n : Nat} (h : ¬ n < 10) : Lib.decDigits n = Lib.decDigits (n / 10) ++ [digC n] := by
  rw [Lib.decDigits, dif_neg h, digC]
theorem dec_len (k : Nat) : ∀ n : Nat, n < 10 ^ (k + 1) → (Lib.decDigits n).length ≤ k + 1 := by
  induction k with
  | zero => intro n h; rw [dec_low (by simpa using h)]; simp
  | succ k ih =>
    intro n h
    by_cases h10 : n < 10
    · rw [dec_low h10]; simp
    · rw [dec_high h10]
      have : n / 10 < 10 ^ (k + 1) := by rw [Nat.div_lt_iff_lt_mul (by omega)]; rw [Nat.pow_succ] at h; exact h
      have := ih _ this
      simp; omega
set_option maxHeartbeats 1000000 in
theorem c_Decimal : ∀ (n : Nat), n < 10000000000 → ∀ w : World, Calls Tryd.prog 49 #[.int .i64 (n : Int)] w fun e w' => e = .returned (.string (str (Lib.decDigits n))) ∧ Below w.heap.size w w' := by
  intro n
  induction n using Nat.strongRecOn with
  | _ n ih =>
    intro hn w
    have hdc := digC_nat n
    have hcv : ∀ wj : World, (convert 89 9 (.slice (some ⟨wj.heap.size, 0, none⟩) 1 1)).run Tryd.prog (wj.alloc (.cells #[.int .u8 (48 + (n : Int) % 10)] 5 (0, 0))) = .ok (.string (str [digC n])) (wj.alloc (.cells #[.int .u8 (48 + (n : Int) % 10)] 5 (0, 0))) := fun wj => conv_one hdc (heap_alloc_new wj _)
    by_cases h : n < 10
    · have d1 : decide ((n : Int) < 10) = true := by simp; omega
      have E := Lib.hid (dec_low h)
      go_enter Tryd.func49, Tryd.ntmps49
      go_wp2
      go_ret
      exact ⟨by rw [E.out]; rfl, below_alloc (Below.refl _ _) _⟩
    · have d1 : decide ((n : Int) < 10) = false := by simp; omega
      have E := Lib.hid (dec_high h)
      have e10 : ((n / 10 : Nat) : Int) = (n : Int) / 10 := by omega
      have IH : ∀ w, Hid (Calls Tryd.prog 49 #[.int .i64 ((n : Int) / 10)] w fun e w' => e = .returned (.string (str (Lib.decDigits (n / 10)))) ∧ Below w.heap.size w w') := fun w => by
        have := ih (n / 10) (by omega) (by omega) w
        rw [e10] at this
        exact this
      have hz1 : (str (Lib.decDigits (n / 10))).size ≤ 1000 := by
        rw [str_size]
        have := dec_len 9 (n / 10) (by omega)
        omega
      have hz2 : (str [digC n]).size = 1 := rfl
      have HBY : Hid ((w.alloc (.cells #[.int .u8 (48 + (n : Int) % 10)] 5 (0, 0))).heap[w.heap.size]? = some (.cells #[.int .u8 (48 + (n : Int) % 10)] 5 (0, 0))) := heap_alloc_new w _
      have hcv3 : (convert 89 9 (.slice (some ⟨w.heap.size, 0, none⟩) 1 1)).run Tryd.prog (w.alloc (.cells #[.int .u8 (48 + (n : Int) % 10)] 5 (0, 0))).drew = .ok (.string (str [digC n])) (w.alloc (.cells #[.int .u8 (48 + (n : Int) % 10)] 5 (0, 0))).drew := conv_one hdc HBY.out
      have wq : IntKind.i64.wrap ((n : Int) / 10) = (n : Int) / 10 := IntWalk.i64_in _ (by omega)
      have tm : (n : Int).tmod 10 = (n : Int) % 10 := Int.tmod_eq_emod_of_nonneg (by omega)
      have wa : IntKind.i64.wrap (48 + (n : Int) % 10) = 48 + (n : Int) % 10 := IntWalk.i64_in _ (by omega)
      have wb : IntKind.u8.wrap (48 + (n : Int) % 10) = 48 + (n : Int) % 10 := by rw [IntKind.wrap_u8]; omega
      have HDC := Lib.hid hdc
      clear ih
      go_enter Tryd.func49, Tryd.ntmps49
      go_wp2
      go_region_with (first
        | (go_at_call 49; ((with_reducible refine (IH _).out.mono ?_); rintro e wj ⟨rfl, hbj⟩; (try have hcv2 := conv_one HDC.out (blk_below (g := w.heap.size) (by exact HBY.out) hbj)))))
      all_goals
        go_wp2
        refine bodyPost_ret (v := .string (str (Lib.decDigits (n / 10)) ++ str [digC n])) (by simp [results, Tryd.results49, go_sem]) rfl ⟨by rw [E.out, ← str_append], ?_⟩
        first
          | exact (below_drew (below_alloc (Below.refl _ _) _)).trans (hbj.mono (Nat.le_succ_of_le (Nat.le_refl _)))
          | exact below_then (below_drew (below_alloc (Below.refl _ _) _)) hbj
          | exact below_then (below_alloc (below_drew (Below.refl _ _)) _) hbj
          | exact below_alloc (below_then (below_drew (Below.refl _ _)) hbj) _
          | exact below_drew (below_alloc (below_then (below_drew (Below.refl _ _)) hbj) _)
theorem c_decimal (n : Nat) (hn : n < 100) (w : World) : Calls Tryd.prog 53 #[.int .i64 (n : Int)] w fun e w' => e = .returned (.string (str (Lib.decDigits n))) ∧ w = w' := by
  have CF : ∀ w, Hid (Calls Tryd.prog 70 #[.int .i64 (n : Int), .int .i64 10] w fun e w' => e = .returned (.string (str (Lib.decDigits n))) ∧ w = w') := fun w => (Tryd.strconv_FormatInt_10_small n hn w).mono fun _ _ h => ⟨h.1, h.2.symm⟩
  go_enter Tryd.func53, Tryd.ntmps53
  go_wp2_with (go_at_call 70; ((with_reducible refine (CF _).out.mono ?_); rintro e w1 ⟨rfl, rfl⟩))
  go_ret
  exact ⟨rfl, rfl⟩
end Go.Proofs.YtdcemmhfbfogdaaDoor
