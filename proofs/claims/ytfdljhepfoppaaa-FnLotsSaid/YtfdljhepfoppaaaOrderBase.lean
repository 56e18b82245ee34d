/- Orders in a slice. -/
import Derived.Test.YtfdljhepfoppaaaLotBase
namespace Go.Proofs.Ytfdljhepfoppaaa
open Go.RowKit
set_option linter.unusedVariables false
set_option linter.unusedSimpArgs false
set_option maxRecDepth 100000

set_option maxHeartbeats 800000 in
theorem c_l07Orders (A : Option Addr) (n c : Nat) (s g : Nat → Int) (w : World) (h : LotsAt w A n s g) (hn : n ≤ 1048576) (hg : ∀ j, j < n → -32768 ≤ g j ∧ g j ≤ 32767) :
    Calls Try.prog 32 #[.slice A n c] w fun e w' => e = .returned (.bool (allB n (fun j => shade (s j) && inB (g j) 1 5000) && decide (n ≤ 7))) ∧ w = w' := by
  have H := Lib.hid h
  have HG := Lib.hid hg
  clear h hg
  go_enter Try.func32, Try.ntmps32
  go_wp2
  go_loop [3] (fun i => ∃ k : Nat, k ≤ n ∧ i = .int .i64 k ∧ Hid (allB k (fun j => shade (s j) && inB (g j) 1 5000) = true)) (fun i => n - (intOf i).toNat)
  case atStart => exact ⟨0, by omega, rfl, rfl⟩
  case round =>
    obtain ⟨k, hk, rfl, hI⟩ := hrel
    by_cases hlt : k < n
    · have d1 : decide ((k : Int) < (n : Int)) = true := by simp; omega
      obtain ⟨ad, rfl, c0, c1⟩ := H.out.at_ k hlt
      obtain ⟨g0, g1⟩ := HG.out k hlt
      have k0 : (0 : Int) ≤ (k : Int) := by omega
      have k1 : (k : Int) < (n : Int) := by omega
      cases q1 : shade (s k)
      · have E := Lib.hid (allB_stop (p := fun j => shade (s j) && inB (g j) 1 5000) (k := k) (n := n) (by simp [q1]) hlt)
        go_wp2_with (first | (go_at_call 56; ((with_reducible refine (c_l07Shade _ _).mono ?_); rintro e w1 ⟨rfl, rfl⟩)) | (go_at_call 45; ((with_reducible refine (c_l00In _ _ _ _).mono ?_); rintro e w1 ⟨rfl, rfl⟩)))
        go_ret
        exact ⟨by rw [E.out]; rfl, rfl⟩
      · cases q2 : inB (g k) 1 5000
        · have E := Lib.hid (allB_stop (p := fun j => shade (s j) && inB (g j) 1 5000) (k := k) (n := n) (by simp [q2]) hlt)
          go_wp2_with (first | (go_at_call 56; ((with_reducible refine (c_l07Shade _ _).mono ?_); rintro e w1 ⟨rfl, rfl⟩)) | (go_at_call 45; ((with_reducible refine (c_l00In _ _ _ _).mono ?_); rintro e w1 ⟨rfl, rfl⟩)))
          go_ret
          exact ⟨by rw [E.out]; rfl, rfl⟩
        · have E : Hid (allB (k + 1) (fun j => shade (s j) && inB (g j) 1 5000) = true) := by rw [Hid, allB, hI.out, q1, q2]; rfl
          go_wp2_with (first | (go_at_call 56; ((with_reducible refine (c_l07Shade _ _).mono ?_); rintro e w1 ⟨rfl, rfl⟩)) | (go_at_call 45; ((with_reducible refine (c_l00In _ _ _ _).mono ?_); rintro e w1 ⟨rfl, rfl⟩)))
          go_round
          case rel => exact ⟨k + 1, by omega, by go_num, E⟩
          case measure => simp [intOf]; omega
    · obtain rfl : k = n := by omega
      have d1 : decide ((k : Int) < (k : Int)) = false := by simp
      go_wp2
      go_ret
      exact ⟨by rw [hI.out, Bool.true_and, show decide (k ≤ 7) = decide ((k : Int) ≤ 7) by simp; omega]; rfl, rfl⟩

set_option maxHeartbeats 800000 in
theorem c_indexOrder (F : Nat) (caps : Array Value) (he : ∀ args w, (callFunc F args).run Try.prog w = .ok (.enter F args) w) (q : Nat → Bool) (A : Option Addr) (n c : Nat) (s g : Nat → Int) (w : World) (h : LotsAt w A n s g) (hn : n ≤ 1048576)
    (hstep : ∀ j, j < n → ∀ w1, Below w.heap.size w w1 → Calls Try.prog F (#[.agg #[.int .i8 (s j), .int .i16 (g j)]] ++ caps) w1 fun e w2 => e = .returned (.bool (q j)) ∧ Below w1.heap.size w1 w2) :
    Calls Try.prog 75 #[.slice A n c, .func (.func F) #[] caps] w fun e w' => ∃ z : Int, e = .returned (.int .i64 z) ∧ decide (0 ≤ z) = (!(allB n fun j => !q j)) ∧ Below w.heap.size w w' := by
  have H := Lib.hid h
  have HS := Lib.hid hstep
  clear h hstep
  go_enter Try.func75, Try.ntmps75
  go_wp2
  go_loopw [8] (fun i wr => ∃ k : Nat, k ≤ n ∧ i = .int .i64 k ∧ Hid (allB k (fun j => !q j) = true) ∧ Hid (Below w.heap.size w wr)) (fun i _ => n - (intOf i).toNat)
  case atStart => exact ⟨0, by omega, rfl, rfl, Below.refl _ _⟩
  case round =>
    obtain ⟨k, hk, rfl, hI, hB⟩ := hrel
    by_cases hlt : k < n
    · have d1 : decide ((k : Int) < (n : Int)) = true := by simp; omega
      obtain ⟨ad, rfl, c0, c1⟩ := (H.out.below hB.out).at_ k hlt
      have k0 : (0 : Int) ≤ (k : Int) := by omega
      have k1 : (k : Int) < (n : Int) := by omega
      go_wp2
      refine (HS.out k hlt wr hB.out).mono ?_
      rintro e w1 ⟨rfl, hb⟩
      have hB1 := Lib.hid (Below.trans hB.out (hb.mono hB.out.size))
      cases hq : q k
      · have E : Hid (allB (k + 1) (fun j => !q j) = true) := by rw [Hid, allB, hI.out, hq]; rfl
        go_wp2
        go_roundw
        case rel => exact ⟨k + 1, by omega, by go_num, E, hB1⟩
        case measure => simp [intOf]; omega
      · have E := Lib.hid (allB_stop (p := fun j => !q j) (k := k) (n := n) (by simp [hq]) hlt)
        go_wp2
        go_ret
        exact ⟨_, rfl, by rw [E.out]; simp, hB1.out⟩
    · obtain rfl : k = n := by omega
      have d1 : decide ((k : Int) < (k : Int)) = false := by simp
      go_wp2
      go_ret
      exact ⟨_, rfl, by rw [hI.out]; rfl, hB.out⟩
end Go.Proofs.Ytfdljhepfoppaaa
