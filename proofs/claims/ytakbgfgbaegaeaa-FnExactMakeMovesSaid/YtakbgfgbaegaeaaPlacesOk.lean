/- Five places: what can be. -/
import Derived.Test.YtakbgfgbaegaeaaLotLaw
import Derived.Test.YtakbgfgbaegaeaaNetBase
namespace Go.Proofs.Ytakbgfgbaegaeaa
open Go.RowKit
set_option linter.unusedVariables false
set_option linter.unusedSimpArgs false
set_option maxRecDepth 100000

/-- n 32-bit numbers lie at A. -/
structure I32At (w : World) (A : Option Addr) (n : Nat) (z : Nat → Int) : Prop where
  at_ : ∀ j, j < n → ∃ ad, A = some ad ∧ w.cell? (ad.add j) = some (.int .i32 (z j))
theorem I32At.below {w w1 : World} {A : Option Addr} {n : Nat} {z : Nat → Int} (h : I32At w A n z) (hb : Below w.heap.size w w1) : I32At w1 A n z := by
  refine ⟨fun j hj => ?_⟩
  obtain ⟨ad, e, c0⟩ := h.at_ j hj
  exact ⟨ad, e, (hb.cell (World.block_lt_of_cell? w _ c0)).trans c0⟩
def okP1 (x : Int) : Bool := inB x 0 1000000
theorem c_l07Much (x : Int) (w : World) : Calls Try.prog 35 #[.int .i64 x] w fun e w' => e = .returned (.bool (okP1 x)) ∧ w = w' := by
  go_enter Try.func35, Try.ntmps35
  go_wp2_with (go_at_call 32; ((with_reducible refine (c_l00In _ _ _ _).mono ?_); rintro e w1 ⟨rfl, rfl⟩))
  go_ret
  exact ⟨rfl, rfl⟩
theorem c_okI32 (x : Int) (w : World) (hx : -2147483648 ≤ x ∧ x ≤ 2147483647) : Calls Try.prog 37 #[.int .i32 x] w fun e w' => e = .returned (.bool (okP1 x)) ∧ Below w.heap.size w w' := by
  obtain ⟨x0, x1⟩ := hx
  go_enter Try.func37, Try.ntmps37
  go_wp2_with (go_at_call 26; ((with_reducible refine (c_within _ _ _ _).mono ?_); rintro e w1 ⟨rfl, rfl⟩))
  go_ret
  exact ⟨rfl, Below.refl _ _⟩
set_option maxHeartbeats 800000 in
theorem c_indexI32 (F : Nat) (caps : Array Value) (he : ∀ args w, (callFunc F args).run Try.prog w = .ok (.enter F args) w) (q : Nat → Bool) (A : Option Addr) (n c : Nat) (z : Nat → Int) (w : World) (h : I32At w A n z) (hn : n ≤ 1048576)
    (hstep : ∀ j, j < n → ∀ w1, Below w.heap.size w w1 → Calls Try.prog F (#[.int .i32 (z j)] ++ caps) w1 fun e w2 => e = .returned (.bool (q j)) ∧ Below w1.heap.size w1 w2) :
    Calls Try.prog 42 #[.slice A n c, .func (.func F) #[] caps] w fun e w' => ∃ r : Int, e = .returned (.int .i64 r) ∧ decide (0 ≤ r) = (!(allB n fun j => !q j)) ∧ Below w.heap.size w w' := by
  have H := Lib.hid h
  have HS := Lib.hid hstep
  clear h hstep
  go_enter Try.func42, Try.ntmps42
  go_wp2
  go_loopw [8] (fun i wr => ∃ k : Nat, k ≤ n ∧ i = .int .i64 k ∧ Hid (allB k (fun j => !q j) = true) ∧ Hid (Below w.heap.size w wr)) (fun i _ => n - (intOf i).toNat)
  case atStart => exact ⟨0, by omega, rfl, rfl, Below.refl _ _⟩
  case round =>
    obtain ⟨k, hk, rfl, hI, hB⟩ := hrel
    by_cases hlt : k < n
    · have d1 : decide ((k : Int) < (n : Int)) = true := by simp; omega
      obtain ⟨ad, rfl, c0⟩ := (H.out.below hB.out).at_ k hlt
      have k0 : (0 : Int) ≤ (k : Int) := by omega
      have k1 : (k : Int) < (n : Int) := by omega
      go_wp2
      refine (HS.out k hlt wr hB.out).mono ?_
      rintro e w1 ⟨rfl, hb⟩
      have hB1 := Lib.hid (Below.trans hB.out (hb.mono hB.out.size))
      cases hq : q k
      · have E : Hid (allB (k + 1) (fun j => !q j) = true) := by rw [Hid, allB, hI.out, hq]; rfl
        go_wp2
        go_roundw
        case rel => exact ⟨k + 1, by omega, by go_num, E, hB1⟩
        case measure => simp [intOf]; omega
      · have E := Lib.hid (allB_stop (p := fun j => !q j) (k := k) (n := n) (by simp [hq]) hlt)
        go_wp2
        go_ret
        exact ⟨_, rfl, by rw [E.out]; simp, hB1.out⟩
    · obtain rfl : k = n := by omega
      have d1 : decide ((k : Int) < (k : Int)) = false := by simp
      go_wp2
      go_ret
      exact ⟨_, rfl, by rw [hI.out]; rfl, hB.out⟩
theorem c_areAllI321 (x : Int) (b : Nat) (w : World) (hx : -2147483648 ≤ x ∧ x ≤ 2147483647) (hc : w.cell? ⟨b, 0, none⟩ = some (.func (.func 37) #[] #[])) (hb : b < w.heap.size) :
    Calls Try.prog 41 #[.int .i32 x, .pointer (some ⟨b, 0, none⟩)] w fun e w' => e = .returned (.bool (!okP1 x)) ∧ Below w.heap.size w w' := by
  have he : ∀ args w, (callFunc 37 args).run Try.prog w = .ok (.enter 37 args) w := enters_of Try.func37 (by kernel_rfl) rfl
  have hne : ¬ b = w.heap.size := by omega
  go_enter Try.func41, Try.ntmps41
  go_wp2_with (go_at_call 37; ((with_reducible refine (c_okI32 _ _ hx).mono ?_); rintro e w1 ⟨rfl, hb⟩))
  go_ret
  exact ⟨rfl, by (repeat (first | with_reducible exact Below.refl _ _ | with_reducible refine below_alloc ?_ _ | with_reducible refine below_drew ?_ | with_reducible refine below_drewN ?_ _ | with_reducible refine below_then ?_ (by assumption)))⟩
theorem c_areAllI32 (A : Option Addr) (n c : Nat) (z : Nat → Int) (w : World) (h : I32At w A n z) (hn : n ≤ 1048576) (hg : ∀ j, j < n → -2147483648 ≤ z j ∧ z j ≤ 2147483647) :
    Calls Try.prog 36 #[.slice A n c, .func (.func 37) #[] #[]] w fun e w' => e = .returned (.bool (allB n fun j => okP1 (z j))) ∧ Below w.heap.size w w' := by
  have he : ∀ args w, (callFunc 41 args).run Try.prog w = .ok (.enter 41 args) w := enters_of Try.func41 (by kernel_rfl) rfl
  have hcell := cell_of_row _ w.heap.size 0 _ _ _ (heap_alloc_new w (.cells #[.func (.func 37) #[] #[]] 60 (0, 0)))
  have hI := c_indexI32 41 #[.pointer (some ⟨w.heap.size, 0, none⟩)] he (fun j => !okP1 (z j)) A n c z (w.alloc (.cells #[.func (.func 37) #[] #[]] 60 (0, 0))) (h.below (by (repeat (first | with_reducible exact Below.refl _ _ | with_reducible refine below_alloc ?_ _ | with_reducible refine below_drew ?_ | with_reducible refine below_drewN ?_ _ | with_reducible refine below_then ?_ (by assumption))))) hn
    (fun j hj w1 hb => c_areAllI321 (z j) w.heap.size w1 (hg j hj) ((hb.cell (p := ⟨w.heap.size, 0, none⟩) (by simp)).trans hcell) (Nat.lt_of_lt_of_le (by simp) hb.size))
  have HI := Lib.hid hI
  have hB : Below w.heap.size w (w.alloc (.cells #[.func (.func 37) #[] #[]] 60 (0, 0))) := by (repeat (first | with_reducible exact Below.refl _ _ | with_reducible refine below_alloc ?_ _ | with_reducible refine below_drew ?_ | with_reducible refine below_drewN ?_ _ | with_reducible refine below_then ?_ (by assumption)))
  have HB := Lib.hid hB
  have EN := allB_not n (fun j => okP1 (z j))
  have HE := Lib.hid EN
  clear hI hcell hB EN
  have HC : Hid (Calls Try.prog 40 #[.slice A n c, .func (.func 41) #[] #[.pointer (some ⟨w.heap.size, 0, none⟩)]] (w.alloc (.cells #[.func (.func 37) #[] #[]] 60 (0, 0))) fun e w' => e = .returned (.bool (!(allB n fun j => okP1 (z j)))) ∧ Below w.heap.size w w') := by
    show Calls _ _ _ _ _
    generalize w.alloc (.cells #[.func (.func 37) #[] #[]] 60 (0, 0)) = wa at *
    go_enter Try.func40, Try.ntmps40
    go_wp2_with (go_at_call 42; ((with_reducible refine HI.out.mono ?_); rintro e w1 ⟨r, rfl, hz, hb⟩; have HZ := Lib.hid hz; clear hz))
    go_ret
    exact ⟨by rw [← HE.out, ← HZ.out]; rfl, Below.trans HB.out (hb.mono HB.out.size)⟩
  clear HI
  go_enter Try.func36, Try.ntmps36
  go_wp2_with (go_at_call 40; ((with_reducible refine HC.out.mono ?_); rintro e w1 ⟨rfl, hb⟩))
  go_ret
  exact ⟨by simp, hb⟩
theorem c_l07Places (gb : Nat) (p : List Int) (w : World) (hl : p.length = 5) (hb : ∀ j, -2147483648 ≤ gi p j ∧ gi p j ≤ 2147483647) (hc : ∀ j, j < 5 → w.cell? ⟨gb, j, none⟩ = some (.int .i32 (gi p j))) :
    Calls Try.prog 27 #[.pointer (some ⟨gb, 0, none⟩)] w fun e w' => e = .returned (.bool (allB 5 fun j => okP1 (gi p j))) ∧ w = w' := by
  have HC := Lib.hid hc
  have HBd := Lib.hid hb
  clear hc hb
  go_enter Try.func27, Try.ntmps27
  go_wp2
  go_loop [3] (fun i => ∃ k : Nat, k ≤ 5 ∧ i = .int .i64 k ∧ Hid (allB k (fun j => okP1 (gi p j)) = true)) (fun i => 5 - (intOf i).toNat)
  case atStart => exact ⟨0, by omega, rfl, rfl⟩
  case round =>
    obtain ⟨k, hk, rfl, hI⟩ := hrel
    by_cases hlt : k < 5
    · have d1 : decide ((k : Int) < 5) = true := by simp; omega
      have c0 := HC.out k hlt
      obtain ⟨b0, b1⟩ := HBd.out k
      have k0 : (0 : Int) ≤ (k : Int) := by omega
      have k1 : (k : Int) < 5 := by omega
      cases q1 : okP1 (gi p k)
      · have E := Lib.hid (allB_stop (p := fun j => okP1 (gi p j)) (k := k) (n := 5) q1 hlt)
        go_wp2_with (go_at_call 35; ((with_reducible refine (c_l07Much _ _).mono ?_); rintro e w1 ⟨rfl, rfl⟩))
        go_ret
        exact ⟨by rw [E.out]; rfl, rfl⟩
      · have E : Hid (allB (k + 1) (fun j => okP1 (gi p j)) = true) := by rw [Hid, allB, hI.out, q1]; rfl
        go_wp2_with (go_at_call 35; ((with_reducible refine (c_l07Much _ _).mono ?_); rintro e w1 ⟨rfl, rfl⟩))
        go_round
        case rel => exact ⟨k + 1, by omega, by go_num, E⟩
        case measure => simp [intOf]; omega
    · obtain rfl : k = 5 := by omega
      go_wp2
      go_ret
      exact ⟨by rw [hI.out]; rfl, rfl⟩
theorem c_isPlaces (p : List Int) (w : World) (hl : p.length = 5) (hb : ∀ j, -2147483648 ≤ gi p j ∧ gi p j ≤ 2147483647) :
    Calls Try.prog 29 #[.agg (nums .i32 p).toArray] w fun e w' => e = .returned (.bool (allB 5 fun j => okP1 (gi p j))) ∧ Below w.heap.size w w' := by
  have hI : I32At (w.alloc (.cells (nums .i32 p).toArray 32 (0, 0))) (some ⟨w.heap.size, 0, none⟩) 5 (fun j => gi p j) := by
    refine ⟨fun j hj => ⟨_, rfl, ?_⟩⟩
    have e : (Addr.add ⟨w.heap.size, 0, none⟩ j) = ⟨w.heap.size, j, none⟩ := by unfold Addr.add; split <;> simp_all
    rw [e]
    exact nums_cell (heap_alloc_new w _) j (by rw [hl]; exact hj)
  have HI := Lib.hid hI
  have HBd : Hid (∀ j, j < 5 → -2147483648 ≤ (fun j => gi p j) j ∧ (fun j => gi p j) j ≤ 2147483647) := fun j _ => hb j
  clear hI hb
  go_enter Try.func29, Try.ntmps29
  go_wp2_with (go_at_call 36; ((with_reducible refine (c_areAllI32 _ 5 _ (fun j => gi p j) _ HI.out (by decide) HBd.out).mono ?_); rintro e w1 ⟨rfl, hb⟩))
  go_ret
  exact ⟨rfl, by (repeat (first | with_reducible exact Below.refl _ _ | with_reducible refine below_alloc ?_ _ | with_reducible refine below_drew ?_ | with_reducible refine below_drewN ?_ _ | with_reducible refine below_then ?_ (by assumption)))⟩
end Go.Proofs.Ytakbgfgbaegaeaa
