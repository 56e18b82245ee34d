/- What the laws of this kind call beside the program: lengths, one drawn number. -/
import Derived.Test.YtdmcemhckalhkaaDrawBase
import Derived.BigQuiet
namespace Go.Proofs.Ytdmcemhckalhkaa
open Go.RowKit
set_option linter.unusedVariables false
set_option linter.unusedSimpArgs false
set_option maxRecDepth 100000

theorem c_a2Long (A B : Option Addr) (n c m c2 : Nat) (w : World) :
    Calls Try.prog 4 #[.slice A n c, .slice B m c2] w fun e w' => e = .returned (.bool (decide ((3000 : Int) < (n : Int)) || decide ((3000 : Int) < (m : Int)))) ∧ w = w' := by
  by_cases h : (3000 : Int) < (n : Int)
  · have d1 : decide ((3000 : Int) < (n : Int)) = true := by simp only [decide_eq_true_eq]; exact h
    go_enter Try.func4, Try.ntmps4
    go_wp2
    exact bodyPost_ret (v := .bool true) (by simp [results, Try.results4, go_sem]) rfl ⟨by rw [d1]; rfl, rfl⟩
  · have d1 : decide ((3000 : Int) < (n : Int)) = false := by simp only [decide_eq_false_iff_not]; exact h
    go_enter Try.func4, Try.ntmps4
    go_wp2
    exact bodyPost_ret (v := .bool (decide ((3000 : Int) < (m : Int)))) (by simp [results, Try.results4, go_sem]) rfl ⟨rfl, rfl⟩
theorem c_a2At (A : Option Addr) (cap : Nat) (xs : List Int) (k : Nat) (n : Int) (w : World) (h : BytesAt w A xs) (hn : 1 ≤ n) (hk : (k : Int) ≤ 1000) :
    Calls Try.prog 7 #[.slice A xs.length cap, .int .i64 (k : Int), .int .i64 n] w fun e w' => ∃ r : Int, e = .returned (.int .i64 r) ∧ 0 ≤ r ∧ r < n ∧ w = w' := by
  have H := Lib.hid h
  have hnum := h.num
  clear h
  by_cases hlt : k < xs.length
  · have d1 : decide ((xs.length : Int) ≤ (k : Int)) = false := by simp; omega
    have d2 : decide (n < 1) = false := by simp; omega
    have d3 : ¬ n = 0 := by omega
    have k0 : (0 : Int) ≤ (k : Int) := by omega
    have k1 : (k : Int) < (xs.length : Int) := by omega
    obtain ⟨ad, rfl, c0⟩ := H.out.row k _ (nums_get hlt)
    obtain ⟨b0, b1⟩ := H.out.bd k
    generalize gi xs k = b at *
    go_enter Try.func7, Try.ntmps7
    go_wp2
    exact bodyPost_ret (v := .int .i64 (b % n)) (by simp [results, Try.results7, go_sem]) rfl ⟨_, rfl, Int.emod_nonneg _ (by omega), Int.emod_lt_of_pos _ (by omega), rfl⟩
  · have d1 : decide ((xs.length : Int) ≤ (k : Int)) = true := by simp; omega
    go_enter Try.func7, Try.ntmps7
    go_wp2
    exact bodyPost_ret (v := .int .i64 0) (by simp [results, Try.results7, go_sem]) rfl ⟨0, rfl, by omega, by omega, rfl⟩
theorem bytes_bd {xs : List Int} (h : ∀ z ∈ xs, (Lit.int .u8 z).wf = true) (j : Nat) : 0 ≤ gi xs j ∧ gi xs j ≤ 255 := by
  by_cases hj : j < xs.length
  · have : gi xs j = xs[j] := by simp [gi, List.getD_eq_getElem?_getD, hj]
    rw [this]
    exact wf_u8 (h _ (List.getElem_mem hj))
  · have : gi xs j = 0 := by simp [gi, List.getD_eq_getElem?_getD, List.getElem?_eq_none (Nat.le_of_not_lt hj)]
    rw [this]; decide
end Go.Proofs.Ytdmcemhckalhkaa
