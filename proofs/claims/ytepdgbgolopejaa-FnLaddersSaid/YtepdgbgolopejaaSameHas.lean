/- Lists of numbers compared and searched by the reference. -/
import Derived.Test.YtepdgbgolopejaaInt64S
namespace Go.Proofs.Ytepdgbgolopejaa
open Go.RowKit
set_option linter.unusedVariables false
set_option linter.unusedSimpArgs false
set_option maxRecDepth 100000

set_option maxHeartbeats 1000000 in
theorem c_l00HasD (zs : List Int) (x : Int) (v : Value) (base n : Nat) (w : World) (h : w.ownsRow base 2 1 v n (nums .i64 zs)) (hn : n ≤ 1048576) :
    Calls Try.prog 41 #[v, .int .i64 x] w fun e w' => e = .returned (.bool (decide (x ∈ zs))) ∧ w = w' := by
  have hl : zs.length = n := by have := h.1; simpa [nums] using this
  obtain ⟨A, c, rfl, hA⟩ := own_form h
  have H := Lib.hid h
  have HL := Lib.hid hl
  clear h hl
  go_enter Try.func41, Try.ntmps41
  go_wp2
  go_loop [5] (fun i => ∃ k : Nat, k ≤ n ∧ i = .int .i64 k ∧ Hid (∀ j, j < k → gi zs j ≠ x)) (fun i => n - (intOf i).toNat)
  case atStart => exact ⟨0, by omega, rfl, fun j hj => by omega⟩
  case round =>
    obtain ⟨k, hk, rfl, hI⟩ := hrel
    by_cases hlt : k < n
    · have d1 : decide ((k : Int) < (n : Int)) = true := by simp; omega
      have k0 : (0 : Int) ≤ (k : Int) := by omega
      have k1 : (k : Int) < (n : Int) := by omega
      obtain ⟨g, rfl, _⟩ := hA (by omega)
      have x0 := (own_get H.out (nums_get (k := .i64) (zs := zs) (j := k) (by rw [HL.out]; exact hlt))).1
      by_cases he : gi zs k = x
      · have de : (gi zs k == x) = true := by simpa using he
        have HS : Hid (x ∈ zs) := by
          have hk' : k < zs.length := by rw [HL.out]; exact hlt
          have : gi zs k = zs[k] := by simp [gi, List.getD_eq_getElem?_getD, hk']
          rw [Hid, ← he, this]; exact List.getElem_mem hk'
        clear he
        go_wp2
        go_ret
        exact ⟨by rw [decide_eq_true HS.out]; rfl, rfl⟩
      · have de : (gi zs k == x) = false := by simpa using he
        have HI : Hid (∀ j, j < k + 1 → gi zs j ≠ x) := fun j hj => by
          by_cases e : j = k
          · subst e; exact he
          · exact hI.out j (by omega)
        clear he
        go_wp2
        go_round
        case rel => exact ⟨k + 1, by omega, by go_num, HI⟩
        case measure => simp [intOf]; omega
    · obtain rfl : k = n := by omega
      have d1 : decide ((k : Int) < (k : Int)) = false := by simp
      have HS : Hid (¬ x ∈ zs) := fun hm => by
        obtain ⟨j, hj, e⟩ := List.mem_iff_getElem.1 hm
        exact hI.out j (by rw [← HL.out]; exact hj) (by simp [gi, List.getD_eq_getElem?_getD, hj, e])
      go_wp2
      go_ret
      exact ⟨by rw [decide_eq_false HS.out]; rfl, rfl⟩
end Go.Proofs.Ytepdgbgolopejaa
