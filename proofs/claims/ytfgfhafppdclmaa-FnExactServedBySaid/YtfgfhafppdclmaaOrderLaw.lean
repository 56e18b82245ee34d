/- Orders: the implementation's test, and the law. -/
import Derived.Test.YtfgfhafppdclmaaOrderBase
import Derived.Test.YtfgfhafppdclmaaLotLaw
namespace Go.Proofs.Ytfgfhafppdclmaa
open Go.RowKit
set_option linter.unusedVariables false
set_option linter.unusedSimpArgs false
set_option maxRecDepth 100000

def okOrder (s g : Int) : Bool := shade s && inB g 1 5000
theorem c_okOrder (s g : Int) (w : World) (hg : -32768 ≤ g ∧ g ≤ 32767) :
    Calls Try.prog 74 #[.agg #[.int .i8 s, .int .i16 g]] w fun e w' => e = .returned (.bool (okOrder s g)) ∧ Below w.heap.size w w' := by
  obtain ⟨g0, g1⟩ := hg
  cases q1 : shade s
  · go_enter Try.func74, Try.ntmps74
    go_wp2_with (first | (go_at_call 68; ((with_reducible refine (c_isShade _ _).mono ?_); rintro e w1 ⟨rfl, rfl⟩)) | (go_at_call 69; ((with_reducible refine (c_within _ _ _ _).mono ?_); rintro e w1 ⟨rfl, rfl⟩)))
    go_ret
    exact ⟨by rw [okOrder, q1]; rfl, by (repeat (first | with_reducible exact Below.refl _ _ | with_reducible refine below_alloc ?_ _ | with_reducible refine below_drew ?_ | with_reducible refine below_drewN ?_ _ | with_reducible refine below_then ?_ (by assumption)))⟩
  · go_enter Try.func74, Try.ntmps74
    go_wp2_with (first | (go_at_call 68; ((with_reducible refine (c_isShade _ _).mono ?_); rintro e w1 ⟨rfl, rfl⟩)) | (go_at_call 69; ((with_reducible refine (c_within _ _ _ _).mono ?_); rintro e w1 ⟨rfl, rfl⟩)))
    go_ret
    exact ⟨by rw [okOrder, q1]; rfl, by (repeat (first | with_reducible exact Below.refl _ _ | with_reducible refine below_alloc ?_ _ | with_reducible refine below_drew ?_ | with_reducible refine below_drewN ?_ _ | with_reducible refine below_then ?_ (by assumption)))⟩
theorem c_areAllOrder1 (s g : Int) (b : Nat) (w : World) (hg : -32768 ≤ g ∧ g ≤ 32767) (hc : w.cell? ⟨b, 0, none⟩ = some (.func (.func 74) #[] #[])) (hb : b < w.heap.size) :
    Calls Try.prog 115 #[.agg #[.int .i8 s, .int .i16 g], .pointer (some ⟨b, 0, none⟩)] w fun e w' => e = .returned (.bool (!okOrder s g)) ∧ Below w.heap.size w w' := by
  have he : ∀ args w, (callFunc 74 args).run Try.prog w = .ok (.enter 74 args) w := enters_of Try.func74 (by kernel_rfl) rfl
  have hne : ¬ b = w.heap.size := by omega
  go_enter Try.func115, Try.ntmps115
  go_wp2_with (go_at_call 74; ((with_reducible refine (c_okOrder _ _ _ hg).mono ?_); rintro e w1 ⟨rfl, hb⟩))
  go_ret
  exact ⟨rfl, by (repeat (first | with_reducible exact Below.refl _ _ | with_reducible refine below_alloc ?_ _ | with_reducible refine below_drew ?_ | with_reducible refine below_drewN ?_ _ | with_reducible refine below_then ?_ (by assumption)))⟩
theorem c_areAllOrder (A : Option Addr) (n c : Nat) (s g : Nat → Int) (w : World) (h : LotsAt w A n s g) (hn : n ≤ 1048576) (hg : ∀ j, j < n → -32768 ≤ g j ∧ g j ≤ 32767) :
    Calls Try.prog 73 #[.slice A n c, .func (.func 74) #[] #[]] w fun e w' => e = .returned (.bool (allB n fun j => okOrder (s j) (g j))) ∧ Below w.heap.size w w' := by
  have he : ∀ args w, (callFunc 115 args).run Try.prog w = .ok (.enter 115 args) w := enters_of Try.func115 (by kernel_rfl) rfl
  have hcell := cell_of_row _ w.heap.size 0 _ _ _ (heap_alloc_new w (.cells #[.func (.func 74) #[] #[]] 98 (0, 0)))
  have hI := c_indexOrder 115 #[.pointer (some ⟨w.heap.size, 0, none⟩)] he (fun j => !okOrder (s j) (g j)) A n c s g (w.alloc (.cells #[.func (.func 74) #[] #[]] 98 (0, 0))) (h.below (by (repeat (first | with_reducible exact Below.refl _ _ | with_reducible refine below_alloc ?_ _ | with_reducible refine below_drew ?_ | with_reducible refine below_drewN ?_ _ | with_reducible refine below_then ?_ (by assumption))))) hn
    (fun j hj w1 hb => c_areAllOrder1 (s j) (g j) w.heap.size w1 (hg j hj) ((hb.cell (p := ⟨w.heap.size, 0, none⟩) (by simp)).trans hcell) (Nat.lt_of_lt_of_le (by simp) hb.size))
  have HI := Lib.hid hI
  have hB : Below w.heap.size w (w.alloc (.cells #[.func (.func 74) #[] #[]] 98 (0, 0))) := by (repeat (first | with_reducible exact Below.refl _ _ | with_reducible refine below_alloc ?_ _ | with_reducible refine below_drew ?_ | with_reducible refine below_drewN ?_ _ | with_reducible refine below_then ?_ (by assumption)))
  have HB := Lib.hid hB
  have EN := allB_not n (fun j => okOrder (s j) (g j))
  have HE := Lib.hid EN
  clear hI hcell hB EN
  have HC : Hid (Calls Try.prog 114 #[.slice A n c, .func (.func 115) #[] #[.pointer (some ⟨w.heap.size, 0, none⟩)]] (w.alloc (.cells #[.func (.func 74) #[] #[]] 98 (0, 0))) fun e w' => e = .returned (.bool (!(allB n fun j => okOrder (s j) (g j)))) ∧ Below w.heap.size w w') := by
    show Calls _ _ _ _ _
    generalize w.alloc (.cells #[.func (.func 74) #[] #[]] 98 (0, 0)) = wa at *
    go_enter Try.func114, Try.ntmps114
    go_wp2_with (go_at_call 139; ((with_reducible refine HI.out.mono ?_); rintro e w1 ⟨z, rfl, hz, hb⟩; have HZ := Lib.hid hz; clear hz))
    go_ret
    exact ⟨by rw [← HE.out, ← HZ.out]; rfl, Below.trans HB.out (hb.mono HB.out.size)⟩
  clear HI
  go_enter Try.func73, Try.ntmps73
  go_wp2_with (go_at_call 114; ((with_reducible refine HC.out.mono ?_); rintro e w1 ⟨rfl, hb⟩))
  go_ret
  exact ⟨by simp, hb⟩
theorem c_iValidOrders (A : Option Addr) (n c : Nat) (s g : Nat → Int) (w : World) (h : LotsAt w A n s g) (hn : n ≤ 1048576) (hg : ∀ j, j < n → -32768 ≤ g j ∧ g j ≤ 32767) :
    Calls Try.prog 23 #[.slice A n c] w fun e w' => e = .returned (.bool (allB n (fun j => okOrder (s j) (g j)) && decide (n ≤ 7))) ∧ Below w.heap.size w w' := by
  by_cases h6 : n ≤ 7
  · have d1 : decide ((n : Int) ≤ 7) = true := by simp; omega
    have E : Hid (decide (n ≤ 7) = true) := by simp [Hid, h6]
    go_enter Try.func23, Try.ntmps23
    go_wp2_with (go_at_call 73; ((with_reducible refine (c_areAllOrder A n c s g _ h hn hg).mono ?_); rintro e w1 ⟨rfl, hb⟩))
    go_ret
    exact ⟨by first | (rw [E.out, Bool.and_true]; rfl) | (simp only [E.out, Bool.and_true]; rfl) | simp, hb⟩
  · have d1 : decide ((n : Int) ≤ 7) = false := by simp; omega
    have E : Hid (decide (n ≤ 7) = false) := by simp [Hid, h6]
    go_enter Try.func23, Try.ntmps23
    go_wp2
    go_ret
    exact ⟨by first | (rw [E.out, Bool.and_false]; rfl) | simp, by (repeat (first | with_reducible exact Below.refl _ _ | with_reducible refine below_alloc ?_ _ | with_reducible refine below_drew ?_ | with_reducible refine below_drewN ?_ _ | with_reducible refine below_then ?_ (by assumption)))⟩
theorem sVO (A : Option Addr) (n c : Nat) (s g : Nat → Int) (w : World) (h : LotsAt w A n s g) (hn : n ≤ 1048576) (hg : ∀ j, j < n → -32768 ≤ g j ∧ g j ≤ 32767) :
    Calls Try.prog 21 #[.slice A n c] w fun e w' => e = .returned (.bool (allB n (fun j => okOrder (s j) (g j)) && decide (n ≤ 7))) ∧ w = w' := c_sValidOrders A n c s g w h hn hg
set_option maxHeartbeats 800000 in
theorem walk_FnExactValidOrders (W : World) (A0 : Option Addr) (cap0 : Nat) (es0 : List (List Value)) (w0 : ∀ c ∈ es0, IntCells [.i8, .i16] c) (r0 : RdRow W A0 es0.flatten) (s0 : es0.length * 4 ≤ 140737488351232) (m0 : es0.length ≤ maxLen) :
    Calls Try.prog 4 #[.slice A0 es0.length cap0] W fun e w' => e = .returned (.bool true) ∧ Below W.heap.size W w' := by
  obtain ⟨zs, rfl, hz⟩ := lots_of (W := W) (A := A0) w0
  have hL := lotsAt_of r0
  have hg : ∀ j, j < zs.length → -32768 ≤ (zs.getD j (0, 0)).2 ∧ (zs.getD j (0, 0)).2 ≤ 32767 := fun j hj => by
    have ed : zs.getD j (0, 0) = zs[j]'hj := by simp [List.getD, hj]
    rw [ed]; exact hz _ (List.getElem_mem hj)
  rw [List.length_map] at s0 m0 ⊢
  generalize zs.length = n at *
  generalize (fun j => (zs.getD j (0, 0)).1) = s at *
  generalize hgg : (fun j => (zs.getD j (0, 0)).2) = g at *
  have hg' : ∀ j, j < n → -32768 ≤ g j ∧ g j ≤ 32767 := fun j hj => by rw [← hgg]; exact hg j hj
  have H := Lib.hid hL
  have HG := Lib.hid hg'
  have hm : n ≤ 9223372036854775807 := by omega
  clear hL hg hg' hz w0 r0 hgg
  by_cases hn : n ≤ 1048576
  · have E : Hid ((if n ≤ 1048576 then 1048576 - (n : Int) else -1) = 1048576 - (n : Int)) := by rw [Hid, if_pos hn]
    have d : decide ((1048576 : Int) - (n : Int) < 0) = false := by simp; omega
    have HSz := fun w => Lib.hid (E.out ▸ c_szOrderS A0 n cap0 w hm)
    go_enter Try.func4, Try.ntmps4
    go_wp2_with (first
      | (go_at_call 20; ((with_reducible refine (HSz _).out.mono ?_); rintro e w1 ⟨rfl, rfl⟩))
      | (go_at_call 22; ((with_reducible refine (c_toOrderS A0 n cap0 s g _ H.out hn).mono ?_); rintro e w1 ⟨b, rfl, hL, hb⟩; have H := Lib.hid (H.out.below hb); (try have HX := Lib.hid (HY.out.below hb)); have HY := Lib.hid hL; clear hL))
      | (go_at_call 21; ((with_reducible refine (sVO _ n _ s g _ HY.out hn HG.out).mono ?_); rintro e w1 ⟨rfl, rfl⟩))
      | (go_at_call 23; ((with_reducible refine (c_iValidOrders _ n _ s g _ HY.out hn HG.out).mono ?_); rintro e w1 ⟨rfl, hb⟩; have H := Lib.hid (H.out.below hb); have HY := Lib.hid (HY.out.below hb)))
      | (go_at_call 24; ((with_reducible refine (c_eqOrderS _ _ n _ _ s g _ HX.out HY.out hn).mono ?_); rintro e w1 ⟨rfl, hb⟩)))
    go_ret
    exact ⟨rfl, by (repeat (first | with_reducible exact Below.refl _ _ | with_reducible refine below_alloc ?_ _ | with_reducible refine below_drew ?_ | with_reducible refine below_drewN ?_ _ | with_reducible refine below_then ?_ (by assumption)))⟩
  · have E : Hid ((if n ≤ 1048576 then 1048576 - (n : Int) else -1) = -1) := by rw [Hid, if_neg hn]
    have HSz := fun w => Lib.hid (E.out ▸ c_szOrderS A0 n cap0 w hm)
    go_enter Try.func4, Try.ntmps4
    go_wp2_with (go_at_call 20; ((with_reducible refine (HSz _).out.mono ?_); rintro e w1 ⟨rfl, rfl⟩))
    go_ret
    exact ⟨rfl, by (repeat (first | with_reducible exact Below.refl _ _ | with_reducible refine below_alloc ?_ _ | with_reducible refine below_drew ?_ | with_reducible refine below_drewN ?_ _ | with_reducible refine below_then ?_ (by assumption)))⟩
end Go.Proofs.Ytfgfhafppdclmaa
