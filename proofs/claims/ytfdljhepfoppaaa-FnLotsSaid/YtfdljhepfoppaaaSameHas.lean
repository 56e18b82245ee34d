/- Lists of numbers compared and searched by the reference. -/
import Derived.Test.YtfdljhepfoppaaaInt64S
namespace Go.Proofs.Ytfdljhepfoppaaa
open Go.RowKit
set_option linter.unusedVariables false
set_option linter.unusedSimpArgs false
set_option maxRecDepth 100000

set_option maxHeartbeats 800000 in
theorem c_l00Same (A B : Option Addr) (n c c' : Nat) (zs : List Int) (w : World) (h : RdRow w A (nums .i64 zs)) (h' : RdRow w B (nums .i64 zs)) (hl : zs.length = n) (hn : n ≤ 1048576) :
    Calls Try.prog 46 #[.slice A n c, .slice B n c'] w fun e w' => e = .returned (.bool true) ∧ Below w.heap.size w w' := by
  have H := Lib.hid h
  have H' := Lib.hid h'
  have HL := Lib.hid hl
  clear h h' hl
  have d0 : ((n : Int) != (n : Int)) = false := by simp
  go_enter Try.func46, Try.ntmps46
  go_wp2
  go_loopw [5] (fun i wr => ∃ k : Nat, k ≤ n ∧ i = .int .i64 k ∧ Hid (Below w.heap.size w wr)) (fun i _ => n - (intOf i).toNat)
  case atStart => exact ⟨0, by omega, rfl, Below.refl _ _⟩
  case round =>
    obtain ⟨k, hk, rfl, hB⟩ := hrel
    by_cases hlt : k < n
    · have d1 : decide ((k : Int) < (n : Int)) = true := by simp; omega
      obtain ⟨ad, rfl, c0⟩ := (H.out.below hB.out) k _ (nums_get (by rw [HL.out]; exact hlt))
      obtain ⟨ad', rfl, c1⟩ := (H'.out.below hB.out) k _ (nums_get (by rw [HL.out]; exact hlt))
      have k0 : (0 : Int) ≤ (k : Int) := by omega
      have k1 : (k : Int) < (n : Int) := by omega
      go_wp2
      go_quiet (fail)
      go_wp2
      go_roundw
      case rel => exact ⟨k + 1, by omega, by go_num, below_drewN hB.out _⟩
      case measure => simp [intOf]; omega
    · obtain rfl : k = n := by omega
      have d1 : decide ((k : Int) < (k : Int)) = false := by simp
      go_wp2
      go_ret
      exact ⟨rfl, hB.out⟩
set_option maxHeartbeats 1000000 in
theorem c_l00HasD (zs : List Int) (x : Int) (v : Value) (base n : Nat) (w : World) (h : w.ownsRow base 2 1 v n (nums .i64 zs)) (hn : n ≤ 1048576) :
    Calls Try.prog 76 #[v, .int .i64 x] w fun e w' => e = .returned (.bool (decide (x ∈ zs))) ∧ w = w' := by
  have hl : zs.length = n := by have := h.1; simpa [nums] using this
  obtain ⟨A, c, rfl, hA⟩ := own_form h
  have H := Lib.hid h
  have HL := Lib.hid hl
  clear h hl
  go_enter Try.func76, Try.ntmps76
  go_wp2
  go_loop [5] (fun i => ∃ k : Nat, k ≤ n ∧ i = .int .i64 k ∧ Hid (∀ j, j < k → gi zs j ≠ x)) (fun i => n - (intOf i).toNat)
  case atStart => exact ⟨0, by omega, rfl, fun j hj => by omega⟩
  case round =>
    obtain ⟨k, hk, rfl, hI⟩ := hrel
    by_cases hlt : k < n
    · have d1 : decide ((k : Int) < (n : Int)) = true := by simp; omega
      have k0 : (0 : Int) ≤ (k : Int) := by omega
      have k1 : (k : Int) < (n : Int) := by omega
      obtain ⟨g, rfl, _⟩ := hA (by omega)
      have x0 := (own_get H.out (nums_get (k := .i64) (zs := zs) (j := k) (by rw [HL.out]; exact hlt))).1
      by_cases he : gi zs k = x
      · have de : (gi zs k == x) = true := by simpa using he
        have HS : Hid (x ∈ zs) := by
          have hk' : k < zs.length := by rw [HL.out]; exact hlt
          have : gi zs k = zs[k] := by simp [gi, List.getD_eq_getElem?_getD, hk']
          rw [Hid, ← he, this]; exact List.getElem_mem hk'
        clear he
        go_wp2
        go_ret
        exact ⟨by rw [decide_eq_true HS.out]; rfl, rfl⟩
      · have de : (gi zs k == x) = false := by simpa using he
        have HI : Hid (∀ j, j < k + 1 → gi zs j ≠ x) := fun j hj => by
          by_cases e : j = k
          · subst e; exact he
          · exact hI.out j (by omega)
        clear he
        go_wp2
        go_round
        case rel => exact ⟨k + 1, by omega, by go_num, HI⟩
        case measure => simp [intOf]; omega
    · obtain rfl : k = n := by omega
      have d1 : decide ((k : Int) < (k : Int)) = false := by simp
      have HS : Hid (¬ x ∈ zs) := fun hm => by
        obtain ⟨j, hj, e⟩ := List.mem_iff_getElem.1 hm
        exact hI.out j (by rw [← HL.out]; exact hj) (by simp [gi, List.getD_eq_getElem?_getD, hj, e])
      go_wp2
      go_ret
      exact ⟨by rw [decide_eq_false HS.out]; rfl, rfl⟩
end Go.Proofs.Ytfdljhepfoppaaa
