/- areAll at int64: for any closure. -/
import Derived.Test.YtepdgbgolopejaaInt64S
import Derived.Test.YtepdgbgolopejaaLotLaw
namespace Go.Proofs.Ytepdgbgolopejaa
open Go.RowKit
set_option linter.unusedVariables false
set_option linter.unusedSimpArgs false
set_option maxRecDepth 100000

set_option maxHeartbeats 800000 in
theorem c_indexI64 (F : Nat) (caps : Array Value) (he : ∀ args w, (callFunc F args).run Try.prog w = .ok (.enter F args) w) (q : Nat → Bool) (A : Option Addr) (n c : Nat) (zs : List Int) (w : World) (h : RdRow w A (nums .i64 zs)) (hl : zs.length = n) (hn : n ≤ 1048576)
    (hstep : ∀ j, j < n → ∀ w1, Below w.heap.size w w1 → Calls Try.prog F (#[.int .i64 (gi zs j)] ++ caps) w1 fun e w2 => e = .returned (.bool (q j)) ∧ Below w1.heap.size w1 w2) :
    Calls Try.prog 80 #[.slice A n c, .func (.func F) #[] caps] w fun e w' => ∃ r : Int, e = .returned (.int .i64 r) ∧ decide (0 ≤ r) = (!(allB n fun j => !q j)) ∧ Below w.heap.size w w' := by
  have H := Lib.hid h
  have HL := Lib.hid hl
  have HS := Lib.hid hstep
  clear h hstep hl
  go_enter Try.func80, Try.ntmps80
  go_wp2
  go_loopw [8] (fun i wr => ∃ k : Nat, k ≤ n ∧ i = .int .i64 k ∧ Hid (allB k (fun j => !q j) = true) ∧ Hid (Below w.heap.size w wr)) (fun i _ => n - (intOf i).toNat)
  case atStart => exact ⟨0, by omega, rfl, rfl, Below.refl _ _⟩
  case round =>
    obtain ⟨k, hk, rfl, hI, hB⟩ := hrel
    by_cases hlt : k < n
    · have d1 : decide ((k : Int) < (n : Int)) = true := by simp; omega
      obtain ⟨ad, rfl, c0⟩ := (RdRow.below H.out hB.out) k _ (nums_get (by rw [HL.out]; exact hlt))
      have k0 : (0 : Int) ≤ (k : Int) := by omega
      have k1 : (k : Int) < (n : Int) := by omega
      go_wp2
      refine (HS.out k hlt wr hB.out).mono ?_
      rintro e w1 ⟨rfl, hb⟩
      have hB1 := Lib.hid (Below.trans hB.out (hb.mono hB.out.size))
      cases hq : q k
      · have E : Hid (allB (k + 1) (fun j => !q j) = true) := by rw [Hid, allB, hI.out, hq]; rfl
        go_wp2
        go_roundw
        case rel => exact ⟨k + 1, by omega, by go_num, E, hB1⟩
        case measure => simp [intOf]; omega
      · have E := Lib.hid (allB_stop (p := fun j => !q j) (k := k) (n := n) (by simp [hq]) hlt)
        go_wp2
        go_ret
        exact ⟨_, rfl, by rw [E.out]; simp, hB1.out⟩
    · obtain rfl : k = n := by omega
      have d1 : decide ((k : Int) < (k : Int)) = false := by simp
      go_wp2
      go_ret
      exact ⟨_, rfl, by rw [hI.out]; rfl, hB.out⟩
theorem c_areAllI641 (F : Nat) (caps : Array Value) (he : ∀ args w, (callFunc F args).run Try.prog w = .ok (.enter F args) w) (x : Int) (r : Bool) (b : Nat) (w : World) (hc : w.cell? ⟨b, 0, none⟩ = some (.func (.func F) #[] caps)) (hb : b < w.heap.size)
    (hcl : ∀ w1, Below w.heap.size w w1 → Calls Try.prog F (#[.int .i64 x] ++ caps) w1 fun e w2 => e = .returned (.bool r) ∧ Below w1.heap.size w1 w2) :
    Calls Try.prog 73 #[.int .i64 x, .pointer (some ⟨b, 0, none⟩)] w fun e w' => e = .returned (.bool (!r)) ∧ Below w.heap.size w w' := by
  have hne : ¬ b = w.heap.size := by omega
  have HCL := Lib.hid hcl
  clear hcl
  go_enter Try.func73, Try.ntmps73
  go_wp2
  refine (HCL.out _ (by (repeat (first | with_reducible exact Below.refl _ _ | with_reducible refine below_alloc ?_ _ | with_reducible refine below_drew ?_ | with_reducible refine below_drewN ?_ _ | with_reducible refine below_then ?_ (by assumption))))).mono ?_
  rintro e w1 ⟨rfl, hb⟩
  go_wp2
  go_ret
  exact ⟨rfl, by (repeat (first | with_reducible exact Below.refl _ _ | with_reducible refine below_alloc ?_ _ | with_reducible refine below_drew ?_ | with_reducible refine below_drewN ?_ _ | with_reducible refine below_then ?_ (by assumption)))⟩
theorem c_areAllI64 (F : Nat) (caps : Array Value) (hef : ∀ args w, (callFunc F args).run Try.prog w = .ok (.enter F args) w) (q : Nat → Bool) (A : Option Addr) (n c : Nat) (zs : List Int) (w : World) (h : RdRow w A (nums .i64 zs)) (hl : zs.length = n) (hn : n ≤ 1048576)
    (hcl : ∀ j, j < n → ∀ w1, Below w.heap.size w w1 → Calls Try.prog F (#[.int .i64 (gi zs j)] ++ caps) w1 fun e w2 => e = .returned (.bool (q j)) ∧ Below w1.heap.size w1 w2) :
    Calls Try.prog 58 #[.slice A n c, .func (.func F) #[] caps] w fun e w' => e = .returned (.bool (allB n q)) ∧ Below w.heap.size w w' := by
  have he : ∀ args w, (callFunc 73 args).run Try.prog w = .ok (.enter 73 args) w := enters_of Try.func73 (by kernel_rfl) rfl
  have hB : Below w.heap.size w (w.alloc (.cells #[.func (.func F) #[] caps] 81 (0, 0))) := by (repeat (first | with_reducible exact Below.refl _ _ | with_reducible refine below_alloc ?_ _ | with_reducible refine below_drew ?_ | with_reducible refine below_drewN ?_ _ | with_reducible refine below_then ?_ (by assumption)))
  have hcell := cell_of_row _ w.heap.size 0 _ _ _ (heap_alloc_new w (.cells #[.func (.func F) #[] caps] 81 (0, 0)))
  have hI := c_indexI64 73 #[.pointer (some ⟨w.heap.size, 0, none⟩)] he (fun j => !q j) A n c zs (w.alloc (.cells #[.func (.func F) #[] caps] 81 (0, 0))) (RdRow.below h hB) hl hn
    (fun j hj w1 hb => c_areAllI641 F caps hef (gi zs j) (q j) w.heap.size w1 ((hb.cell (p := ⟨w.heap.size, 0, none⟩) (by simp)).trans hcell) (Nat.lt_of_lt_of_le (by simp) hb.size) (fun w2 hb2 => hcl j hj w2 (Below.trans (Below.trans hB (hb.mono hB.size)) (hb2.mono (Nat.le_trans hB.size hb.size)))))
  have HI := Lib.hid hI
  have HB := Lib.hid hB
  have EN := allB_not n q
  have HE := Lib.hid EN
  clear hI hcell hB EN hcl
  have HC : Hid (Calls Try.prog 72 #[.slice A n c, .func (.func 73) #[] #[.pointer (some ⟨w.heap.size, 0, none⟩)]] (w.alloc (.cells #[.func (.func F) #[] caps] 81 (0, 0))) fun e w' => e = .returned (.bool (!(allB n q))) ∧ Below w.heap.size w w') := by
    show Calls _ _ _ _ _
    generalize w.alloc (.cells #[.func (.func F) #[] caps] 81 (0, 0)) = wa at *
    go_enter Try.func72, Try.ntmps72
    go_wp2_with (go_at_call 80; ((with_reducible refine HI.out.mono ?_); rintro e w1 ⟨r, rfl, hz, hb⟩; have HZ := Lib.hid hz; clear hz))
    go_ret
    exact ⟨by rw [← HE.out, ← HZ.out]; rfl, Below.trans HB.out (hb.mono HB.out.size)⟩
  clear HI
  go_enter Try.func58, Try.ntmps58
  go_wp2_with (go_at_call 72; ((with_reducible refine HC.out.mono ?_); rintro e w1 ⟨rfl, hb⟩))
  go_ret
  exact ⟨by simp, hb⟩
end Go.Proofs.Ytepdgbgolopejaa
