/- Orders: the implementation's test, and the law. -/
import Derived.Test.YtfdljhepfoppaaaOrderBase
import Derived.Test.YtfdljhepfoppaaaLotLaw
namespace Go.Proofs.Ytfdljhepfoppaaa
open Go.RowKit
set_option linter.unusedVariables false
set_option linter.unusedSimpArgs false
set_option maxRecDepth 100000

def okOrder (s g : Int) : Bool := shade s && inB g 1 5000
theorem c_okOrder (s g : Int) (w : World) (hg : -32768 ≤ g ∧ g ≤ 32767) :
    Calls Try.prog 51 #[.agg #[.int .i8 s, .int .i16 g]] w fun e w' => e = .returned (.bool (okOrder s g)) ∧ Below w.heap.size w w' := by
  obtain ⟨g0, g1⟩ := hg
  cases q1 : shade s
  · go_enter Try.func51, Try.ntmps51
    go_wp2_with (first | (go_at_call 49; ((with_reducible refine (c_isShade _ _).mono ?_); rintro e w1 ⟨rfl, rfl⟩)) | (go_at_call 43; ((with_reducible refine (c_within _ _ _ _).mono ?_); rintro e w1 ⟨rfl, rfl⟩)))
    go_ret
    exact ⟨by rw [okOrder, q1]; rfl, by (repeat (first | with_reducible exact Below.refl _ _ | with_reducible refine below_alloc ?_ _ | with_reducible refine below_drew ?_ | with_reducible refine below_drewN ?_ _ | with_reducible refine below_then ?_ (by assumption)))⟩
  · go_enter Try.func51, Try.ntmps51
    go_wp2_with (first | (go_at_call 49; ((with_reducible refine (c_isShade _ _).mono ?_); rintro e w1 ⟨rfl, rfl⟩)) | (go_at_call 43; ((with_reducible refine (c_within _ _ _ _).mono ?_); rintro e w1 ⟨rfl, rfl⟩)))
    go_ret
    exact ⟨by rw [okOrder, q1]; rfl, by (repeat (first | with_reducible exact Below.refl _ _ | with_reducible refine below_alloc ?_ _ | with_reducible refine below_drew ?_ | with_reducible refine below_drewN ?_ _ | with_reducible refine below_then ?_ (by assumption)))⟩
theorem c_areAllOrder1 (s g : Int) (b : Nat) (w : World) (hg : -32768 ≤ g ∧ g ≤ 32767) (hc : w.cell? ⟨b, 0, none⟩ = some (.func (.func 51) #[] #[])) (hb : b < w.heap.size) :
    Calls Try.prog 67 #[.agg #[.int .i8 s, .int .i16 g], .pointer (some ⟨b, 0, none⟩)] w fun e w' => e = .returned (.bool (!okOrder s g)) ∧ Below w.heap.size w w' := by
  have he : ∀ args w, (callFunc 51 args).run Try.prog w = .ok (.enter 51 args) w := enters_of Try.func51 (by kernel_rfl) rfl
  have hne : ¬ b = w.heap.size := by omega
  go_enter Try.func67, Try.ntmps67
  go_wp2_with (go_at_call 51; ((with_reducible refine (c_okOrder _ _ _ hg).mono ?_); rintro e w1 ⟨rfl, hb⟩))
  go_ret
  exact ⟨rfl, by (repeat (first | with_reducible exact Below.refl _ _ | with_reducible refine below_alloc ?_ _ | with_reducible refine below_drew ?_ | with_reducible refine below_drewN ?_ _ | with_reducible refine below_then ?_ (by assumption)))⟩
theorem c_areAllOrder (A : Option Addr) (n c : Nat) (s g : Nat → Int) (w : World) (h : LotsAt w A n s g) (hn : n ≤ 1048576) (hg : ∀ j, j < n → -32768 ≤ g j ∧ g j ≤ 32767) :
    Calls Try.prog 50 #[.slice A n c, .func (.func 51) #[] #[]] w fun e w' => e = .returned (.bool (allB n fun j => okOrder (s j) (g j))) ∧ Below w.heap.size w w' := by
  have he : ∀ args w, (callFunc 67 args).run Try.prog w = .ok (.enter 67 args) w := enters_of Try.func67 (by kernel_rfl) rfl
  have hcell := cell_of_row _ w.heap.size 0 _ _ _ (heap_alloc_new w (.cells #[.func (.func 51) #[] #[]] 73 (0, 0)))
  have hI := c_indexOrder 67 #[.pointer (some ⟨w.heap.size, 0, none⟩)] he (fun j => !okOrder (s j) (g j)) A n c s g (w.alloc (.cells #[.func (.func 51) #[] #[]] 73 (0, 0))) (h.below (by (repeat (first | with_reducible exact Below.refl _ _ | with_reducible refine below_alloc ?_ _ | with_reducible refine below_drew ?_ | with_reducible refine below_drewN ?_ _ | with_reducible refine below_then ?_ (by assumption))))) hn
    (fun j hj w1 hb => c_areAllOrder1 (s j) (g j) w.heap.size w1 (hg j hj) ((hb.cell (p := ⟨w.heap.size, 0, none⟩) (by simp)).trans hcell) (Nat.lt_of_lt_of_le (by simp) hb.size))
  have HI := Lib.hid hI
  have hB : Below w.heap.size w (w.alloc (.cells #[.func (.func 51) #[] #[]] 73 (0, 0))) := by (repeat (first | with_reducible exact Below.refl _ _ | with_reducible refine below_alloc ?_ _ | with_reducible refine below_drew ?_ | with_reducible refine below_drewN ?_ _ | with_reducible refine below_then ?_ (by assumption)))
  have HB := Lib.hid hB
  have EN := allB_not n (fun j => okOrder (s j) (g j))
  have HE := Lib.hid EN
  clear hI hcell hB EN
  have HC : Hid (Calls Try.prog 66 #[.slice A n c, .func (.func 67) #[] #[.pointer (some ⟨w.heap.size, 0, none⟩)]] (w.alloc (.cells #[.func (.func 51) #[] #[]] 73 (0, 0))) fun e w' => e = .returned (.bool (!(allB n fun j => okOrder (s j) (g j)))) ∧ Below w.heap.size w w') := by
    show Calls _ _ _ _ _
    generalize w.alloc (.cells #[.func (.func 51) #[] #[]] 73 (0, 0)) = wa at *
    go_enter Try.func66, Try.ntmps66
    go_wp2_with (go_at_call 75; ((with_reducible refine HI.out.mono ?_); rintro e w1 ⟨z, rfl, hz, hb⟩; have HZ := Lib.hid hz; clear hz))
    go_ret
    exact ⟨by rw [← HE.out, ← HZ.out]; rfl, Below.trans HB.out (hb.mono HB.out.size)⟩
  clear HI
  go_enter Try.func50, Try.ntmps50
  go_wp2_with (go_at_call 66; ((with_reducible refine HC.out.mono ?_); rintro e w1 ⟨rfl, hb⟩))
  go_ret
  exact ⟨by simp, hb⟩
theorem c_iValidOrders (A : Option Addr) (n c : Nat) (s g : Nat → Int) (w : World) (h : LotsAt w A n s g) (hn : n ≤ 1048576) (hg : ∀ j, j < n → -32768 ≤ g j ∧ g j ≤ 32767) :
    Calls Try.prog 20 #[.slice A n c] w fun e w' => e = .returned (.bool (allB n (fun j => okOrder (s j) (g j)) && decide (n ≤ 7))) ∧ Below w.heap.size w w' := by
  by_cases h6 : n ≤ 7
  · have d1 : decide ((n : Int) ≤ 7) = true := by simp; omega
    have E : Hid (decide (n ≤ 7) = true) := by simp [Hid, h6]
    go_enter Try.func20, Try.ntmps20
    go_wp2_with (go_at_call 50; ((with_reducible refine (c_areAllOrder A n c s g _ h hn hg).mono ?_); rintro e w1 ⟨rfl, hb⟩))
    go_ret
    exact ⟨by first | (rw [E.out, Bool.and_true]; rfl) | (simp only [E.out, Bool.and_true]; rfl) | simp, hb⟩
  · have d1 : decide ((n : Int) ≤ 7) = false := by simp; omega
    have E : Hid (decide (n ≤ 7) = false) := by simp [Hid, h6]
    go_enter Try.func20, Try.ntmps20
    go_wp2
    go_ret
    exact ⟨by first | (rw [E.out, Bool.and_false]; rfl) | simp, by (repeat (first | with_reducible exact Below.refl _ _ | with_reducible refine below_alloc ?_ _ | with_reducible refine below_drew ?_ | with_reducible refine below_drewN ?_ _ | with_reducible refine below_then ?_ (by assumption)))⟩
end Go.Proofs.Ytfdljhepfoppaaa
