/- Places, and whether numbers have one; the program's widths. -/
import Derived.Test.YtepdgbgolopejaaLadCatch
import Derived.Test.YtepdgbgolopejaaFabImpl
namespace Go.Proofs.Ytepdgbgolopejaa
open Go.RowKit
set_option linter.unusedVariables false
set_option linter.unusedSimpArgs false
set_option maxRecDepth 100000

def natL (D : List Nat) : List Int := D.map fun (x : Nat) => (x : Int)
theorem natL_len (D : List Nat) : (natL D).length = D.length := by simp [natL]
theorem natL_app (D E : List Nat) : nums .i64 (natL (D ++ E)) = nums .i64 (natL D) ++ nums .i64 (natL E) := by simp [natL, nums]
theorem natL_get {D : List Nat} {j : Nat} (h : j < D.length) : (nums .i64 (natL D))[j]? = some (.int .i64 (D[j] : Int)) := by
  simp [natL, nums, h]
theorem plcs_succ (fr n : Nat) : plcs fr (n + 1) = plcs fr n ++ [fr + n] := by simp [plcs, List.range_succ]
theorem c_places (fr n : Nat) (w : World) (h1 : fr ≤ 1000000) (h2 : n ≤ 1000) :
    Calls Try.prog 57 #[.int .i64 (fr : Int), .int .i64 (n : Int)] w fun e w' => ∃ v, e = .returned v ∧ w'.ownsRow w.heap.size 2 1 v (plcs fr n).length (nums .i64 (natL (plcs fr n))) ∧ Below w.heap.size w w' ∧ (n = 0 → v = .slice none 0 0) := by
  go_enter Try.func57, Try.ntmps57
  go_wp2
  go_loopw [8, 5] (fun i v wr => ∃ k : Nat, k ≤ n ∧ i = .int .i64 k ∧ Hid (wr.ownsRow w.heap.size 2 1 v (plcs fr k).length (nums .i64 (natL (plcs fr k)))) ∧ Hid (Below w.heap.size w wr) ∧ Hid (k = 0 → v = .slice none 0 0)) (fun i _ _ => n - (intOf i).toNat)
  case atStart => exact ⟨0, by omega, rfl, own_nil _ _ _ _, Below.refl _ _, fun _ => rfl⟩
  case round =>
    obtain ⟨k, hk, rfl, hI, hB, hZ⟩ := hrel
    by_cases hlt : k < n
    · have d1 : decide ((k : Int) < (n : Int)) = true := by simp; omega
      have hz := hB.out.size
      have HL := Lib.hid (plcs_len fr k)
      have HL1 := Lib.hid (plcs_len fr (k + 1))
      have HS : Hid (nums .i64 (natL (plcs fr (k + 1))) = nums .i64 (natL (plcs fr k)) ++ [.int .i64 ((fr : Int) + (k : Int))]) := by rw [Hid, plcs_succ, natL_app]; simp [natL, nums]
      have HI : Hid (wr.ownsRow w.heap.size 2 1 u5 k (nums .i64 (natL (plcs fr k)))) := by have := hI.out; rwa [HL.out] at this
      go_wp2_with (at_builtin; refine ap1 rfl (.tmp 11) (.tmp 15) 29 2 rfl (.int .i64 0) 1 8 w.heap.size Try.underlying29 (by kernel_rfl) rfl (by decide) u5 k (nums .i64 (natL (plcs fr k))) [.int .i64 ((fr : Int) + (k : Int))] rfl rfl (by simp) rfl rfl HI.out hz (by omega) (by omega) ?_; intro g3 d3 w5 hown hg3 hat; have hB5 := Lib.hid (below_grown hB.out hg3 HI.out (Nat.le_refl _) hz); have hO5 := Lib.hid hown; clear hown hat hg3)
      go_roundw
      case rel => exact ⟨k + 1, by omega, by go_num, by rw [HS.out, HL1.out]; exact hO5, hB5, fun h => by omega⟩
      case measure => simp [intOf]; omega
    · obtain rfl : k = n := by omega
      have d1 : decide ((k : Int) < (k : Int)) = false := by simp
      go_wp2
      exact bodyPost_ret (v := u5) (by simp [results, Try.results57, go_sem]) rfl ⟨_, rfl, hI.out, hB.out, hZ.out⟩
theorem c_indexN (A : Option Addr) (c : Nat) (D : List Nat) (x : Nat) (w : World) (h : RdRow w A (nums .i64 (natL D))) (hn : D.length ≤ 1048576) :
    Calls Try.prog 74 #[.slice A D.length c, .int .i64 (x : Int)] w fun e w' => ∃ r : Int, e = .returned (.int .i64 r) ∧ decide (0 ≤ r) = D.contains x ∧ w = w' := by
  have H := Lib.hid h
  clear h
  go_enter Try.func74, Try.ntmps74
  go_wp2
  go_loop [8] (fun i => ∃ k : Nat, k ≤ D.length ∧ i = .int .i64 k ∧ Hid (¬ x ∈ D.take k)) (fun i => D.length - (intOf i).toNat)
  case atStart => exact ⟨0, by omega, rfl, by simp [Hid]⟩
  case round =>
    obtain ⟨k, hk, rfl, hI⟩ := hrel
    by_cases hlt : k < D.length
    · have d1 : decide ((k : Int) < (D.length : Int)) = true := by simp; omega
      obtain ⟨ad, rfl, c0⟩ := H.out k _ (natL_get hlt)
      have k0 : (0 : Int) ≤ (k : Int) := by omega
      have k1 : (k : Int) < (D.length : Int) := by omega
      have HT : Hid (D.take (k + 1) = D.take k ++ [D[k]]) := by rw [Hid, List.take_add_one, List.getElem?_eq_getElem hlt]; rfl
      have HM := Lib.hid (List.getElem_mem hlt)
      generalize D[k] = y at *
      by_cases he : x = y
      · have e1 : ((x : Int) == (y : Int)) = true := by simp [he]
        have HC : Hid (D.contains x = true) := by rw [Hid, he]; simpa using HM.out
        clear he
        go_wp2
        exact bodyPost_ret (v := .int .i64 (k : Int)) (by simp [results, Try.results74, go_sem]) rfl ⟨_, rfl, by have := HC.out; simp at this; simp [this], rfl⟩
      · have e1 : ((x : Int) == (y : Int)) = false := by simp; omega
        have HN : Hid (¬ x ∈ D.take (k + 1)) := by
          rw [Hid, HT.out, List.mem_append]
          rintro (h | h)
          · exact hI.out h
          · exact he (List.mem_singleton.1 h)
        clear he
        go_wp2
        go_round
        case rel => exact ⟨k + 1, by omega, by go_num, HN⟩
        case measure => simp [intOf]; omega
    · obtain rfl : k = D.length := by omega
      have d1 : decide ((D.length : Int) < (D.length : Int)) = false := by simp
      have HC : Hid (D.contains x = false) := by
        have := hI.out
        rw [List.take_length] at this
        simpa [Hid] using this
      go_wp2
      exact bodyPost_ret (v := .int .i64 (-1)) (by simp [results, Try.results74, go_sem]) rfl ⟨_, rfl, by have := HC.out; simp at this; simp [this], rfl⟩
theorem c_containsN (A : Option Addr) (c : Nat) (D : List Nat) (x : Nat) (w : World) (h : RdRow w A (nums .i64 (natL D))) (hn : D.length ≤ 1048576) :
    Calls Try.prog 60 #[.slice A D.length c, .int .i64 (x : Int)] w fun e w' => e = .returned (.bool (D.contains x)) ∧ w = w' := by
  have CI := Lib.hid (c_indexN A c D x w h hn)
  clear h
  go_enter Try.func60, Try.ntmps60
  go_wp2_with (go_at_call 74; ((with_reducible refine CI.out.mono ?_); rintro e w1 ⟨r, rfl, hr, rfl⟩; have HR := Lib.hid hr; clear hr))
  exact bodyPost_ret (v := .bool (decide (0 ≤ r))) (by simp [results, Try.results60, go_sem]) rfl ⟨by rw [HR.out], rfl⟩
theorem c_lad1 (A : Option Addr) (b c : Nat) (D : List Nat) (x : Nat) (w : World) (h : RdRow w A (nums .i64 (natL D))) (hn : D.length ≤ 1048576) (hc : w.cell? ⟨b, 0, none⟩ = some (.slice A D.length c)) :
    Calls Try.prog 59 #[.int .i64 (x : Int), .pointer (some ⟨b, 0, none⟩)] w fun e w' => e = .returned (.bool (D.contains x)) ∧ w = w' := by
  have CC := Lib.hid (c_containsN A c D x w h hn)
  clear h
  go_enter Try.func59, Try.ntmps59
  go_wp2_with (go_at_call 60; ((with_reducible refine CC.out.mono ?_); rintro e w1 ⟨rfl, rfl⟩))
  exact bodyPost_ret (v := .bool (D.contains x)) (by simp [results, Try.results59, go_sem]) rfl ⟨rfl, rfl⟩
end Go.Proofs.Ytepdgbgolopejaa
