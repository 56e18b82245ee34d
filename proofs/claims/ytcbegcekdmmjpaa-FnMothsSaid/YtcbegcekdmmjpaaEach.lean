/- each calls a function value at all 64 stitches, by rows. -/
import Derived.Test.YtcbegcekdmmjpaaProg
import Derived.Test.YtcbegcekdmmjpaaMem
import Derived.Shelf.Abstract
namespace Go.Proofs.Ytcbegcekdmmjpaa
open Go.RowKit
set_option linter.unusedVariables false
set_option linter.unusedSimpArgs false

theorem c_each (F : Nat) (caps : Array Value) (he : ∀ args w, (callFunc F args).run Try.prog w = .ok (.enter F args) w) (Inv : Nat → World → Prop)
    (hstep : ∀ (k j : Nat) (w1 : World), k < 8 → j < 8 → Inv (8 * k + j) w1 → Calls Try.prog F (#[.int .i64 j, .int .i64 k] ++ caps) w1 fun e w2 => e = .returned (.tuple #[]) ∧ Inv (8 * k + j + 1) w2)
    (w : World) (h0 : Inv 0 w) :
    Calls Try.prog 26 #[.func (.func F) #[] caps] w fun e w' => e = .returned (.tuple #[]) ∧ Inv 64 w' := by
  have HS := Lib.hid hstep
  have H0 := Lib.hid h0
  clear hstep h0
  go_enter Try.func26, Try.ntmps26
  go_wp2
  go_loopw [4] (fun i wr => ∃ k : Nat, k ≤ 8 ∧ i = .int .i64 k ∧ Hid (Inv (8 * k) wr)) (fun i _ => 8 - (intOf i).toNat)
  case atStart => exact ⟨0, by omega, rfl, H0.out⟩
  case round =>
    obtain ⟨k, hk, rfl, hI⟩ := hrel
    by_cases hlt : k < 8
    · have d1 : decide ((k : Int) < 8) = true := by simp; omega
      go_wp2
      obtain ⟨wo, rfl⟩ : ∃ wo : World, wo = wr := ⟨_, rfl⟩
      go_loopw [7] (fun i wr => ∃ j : Nat, j ≤ 8 ∧ i = .int .i64 j ∧ Hid (Inv (8 * k + j) wr)) (fun i _ => 8 - (intOf i).toNat)
      case atStart => exact ⟨0, by omega, rfl, hI.out⟩
      case round =>
        obtain ⟨j, hj, rfl, hJ⟩ := hrel
        by_cases hlt2 : j < 8
        · have d2 : decide ((j : Int) < 8) = true := by simp; omega
          go_wp2
          refine (HS.out k j wr hlt hlt2 hJ.out).mono ?_
          rintro e w2 ⟨rfl, hI2⟩
          have HI2 := Lib.hid hI2
          clear hI2
          go_wp2
          go_roundw
          case rel => exact ⟨j + 1, by omega, by go_num, by rw [show 8 * k + (j + 1) = 8 * k + j + 1 by omega]; exact HI2⟩
          case measure => simp [intOf]; omega
        · obtain rfl : j = 8 := by omega
          go_wp2
          go_roundw
          case rel => exact ⟨k + 1, by omega, by go_num, by rw [show 8 * (k + 1) = 8 * k + 8 by omega]; exact hJ⟩
          case measure => simp [intOf]; omega
    · obtain rfl : k = 8 := by omega
      go_wp2
      go_end0
      exact ⟨rfl, hI.out⟩
end Go.Proofs.Ytcbegcekdmmjpaa
