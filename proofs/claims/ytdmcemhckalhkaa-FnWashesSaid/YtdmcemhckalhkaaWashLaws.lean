/- The laws on valid cloths and programs, shrinking, and moves between places. -/
import Derived.Test.YtdmcemhckalhkaaWashBase
import Derived.Deep.RegionHeld3
namespace Go.Proofs.Ytdmcemhckalhkaa
open Go.RowKit
set_option linter.unusedVariables false
set_option linter.unusedSimpArgs false




def shrunkBy (a b c d e a' b' c' d' e' : Int) : Int × Int × Int :=
  if okCloth a b c d e && okCloth a' b' c' d' e' then (if a < a' ∨ b < b' ∨ d' < d then (0, 0, 4) else (a - a', b - b', 0)) else (0, 0, 1)
theorem okCloth_bounds {a b c d e : Int} (h : okCloth a b c d e = true) : 1 ≤ a ∧ a ≤ 1000 ∧ 1 ≤ b ∧ b ≤ 1000 := by
  simp [okCloth, inB] at h
  omega
theorem shrunk_if (a b c d e a' b' c' d' e' : Int) (ha : -32768 ≤ a ∧ a ≤ 32767) (hb : -32768 ≤ b ∧ b ≤ 32767) (ha' : -32768 ≤ a' ∧ a' ≤ 32767) (hb' : -32768 ≤ b' ∧ b' ≤ 32767) :
    ((okCloth a b c d e && okCloth a' b' c' d' e') = false → shrunkBy a b c d e a' b' c' d' e' = (0, 0, 1)) ∧
    ((okCloth a b c d e && okCloth a' b' c' d' e') = true → (a < a' ∨ b < b' ∨ d' < d) → shrunkBy a b c d e a' b' c' d' e' = (0, 0, 4)) ∧
    ((okCloth a b c d e && okCloth a' b' c' d' e') = true → ¬ (a < a' ∨ b < b' ∨ d' < d) → shrunkBy a b c d e a' b' c' d' e' = (a - a', b - b', 0)) := by
  refine ⟨fun h => ?_, fun h h2 => ?_, fun h h2 => ?_⟩
  · unfold shrunkBy; rw [h]; rfl
  · unfold shrunkBy; rw [h, if_pos rfl, if_pos h2]
  · unfold shrunkBy; rw [h, if_pos rfl, if_neg h2]
theorem c_iShrunkBy (a b c d e a' b' c' d' e' : Int) (w : World) (ha : -32768 ≤ a ∧ a ≤ 32767) (hb : -32768 ≤ b ∧ b ≤ 32767) (ha' : -32768 ≤ a' ∧ a' ≤ 32767) (hb' : -32768 ≤ b' ∧ b' ≤ 32767) :
    Calls Try.prog 26 #[.agg #[.int .i16 a, .int .i16 b, .int .i8 c, .int .i8 d, .int .i8 e], .agg #[.int .i16 a', .int .i16 b', .int .i8 c', .int .i8 d', .int .i8 e']] w fun r w' => r = .returned (.tuple #[.int .i64 (shrunkBy a b c d e a' b' c' d' e').1, .int .i64 (shrunkBy a b c d e a' b' c' d' e').2.1, .int .i64 (shrunkBy a b c d e a' b' c' d' e').2.2]) ∧ Below w.heap.size w w' := by
  have k := shrunk_if a b c d e a' b' c' d' e' ha hb ha' hb'
  cases k0 : okCloth a b c d e <;> cases k1 : okCloth a' b' c' d' e' <;> rw [k0, k1] at k
  · have K := Lib.hid k; clear k
    go_enter Try.func26, Try.ntmps26
    go_wp2_with (first | (go_at_call 19; ((with_reducible refine (c_iValidCloth a b c d e _ ha hb).mono ?_); rintro e w1 ⟨rfl, hb⟩; obtain ⟨hc_, hf_, hz_⟩ := bfacts hb; (try simp only [World.size_alloc, World.size_setCell, World.size_drew] at hc_ hf_ hz_); have hzz0 : w.heap.size < w1.heap.size := (by omega); have hzz1 : w.heap.size + 1 < w1.heap.size := (by omega))) | (go_at_call 19; ((with_reducible refine (c_iValidCloth a' b' c' d' e' _ ha' hb').mono ?_); rintro e w1 ⟨rfl, hb⟩; obtain ⟨hc_, hf_, hz_⟩ := bfacts hb; (try simp only [World.size_alloc, World.size_setCell, World.size_drew] at hc_ hf_ hz_); have hzz0 : w.heap.size < w1.heap.size := (by omega); have hzz1 : w.heap.size + 1 < w1.heap.size := (by omega))))
    go_ret3
    exact ⟨by rw [K.out.1 (by rfl)]; rfl, by (repeat (first | with_reducible exact Below.refl _ _ | with_reducible refine below_alloc ?_ _ | with_reducible refine below_drew ?_ | with_reducible refine below_drewN ?_ _ | with_reducible refine below_then ?_ (by assumption)))⟩
  · have K := Lib.hid k; clear k
    go_enter Try.func26, Try.ntmps26
    go_wp2_with (first | (go_at_call 19; ((with_reducible refine (c_iValidCloth a b c d e _ ha hb).mono ?_); rintro e w1 ⟨rfl, hb⟩; obtain ⟨hc_, hf_, hz_⟩ := bfacts hb; (try simp only [World.size_alloc, World.size_setCell, World.size_drew] at hc_ hf_ hz_); have hzz0 : w.heap.size < w1.heap.size := (by omega); have hzz1 : w.heap.size + 1 < w1.heap.size := (by omega))) | (go_at_call 19; ((with_reducible refine (c_iValidCloth a' b' c' d' e' _ ha' hb').mono ?_); rintro e w1 ⟨rfl, hb⟩; obtain ⟨hc_, hf_, hz_⟩ := bfacts hb; (try simp only [World.size_alloc, World.size_setCell, World.size_drew] at hc_ hf_ hz_); have hzz0 : w.heap.size < w1.heap.size := (by omega); have hzz1 : w.heap.size + 1 < w1.heap.size := (by omega))))
    go_ret3
    exact ⟨by rw [K.out.1 (by rfl)]; rfl, by (repeat (first | with_reducible exact Below.refl _ _ | with_reducible refine below_alloc ?_ _ | with_reducible refine below_drew ?_ | with_reducible refine below_drewN ?_ _ | with_reducible refine below_then ?_ (by assumption)))⟩
  · have K := Lib.hid k; clear k
    go_enter Try.func26, Try.ntmps26
    go_wp2_with (first | (go_at_call 19; ((with_reducible refine (c_iValidCloth a b c d e _ ha hb).mono ?_); rintro e w1 ⟨rfl, hb⟩; obtain ⟨hc_, hf_, hz_⟩ := bfacts hb; (try simp only [World.size_alloc, World.size_setCell, World.size_drew] at hc_ hf_ hz_); have hzz0 : w.heap.size < w1.heap.size := (by omega); have hzz1 : w.heap.size + 1 < w1.heap.size := (by omega))) | (go_at_call 19; ((with_reducible refine (c_iValidCloth a' b' c' d' e' _ ha' hb').mono ?_); rintro e w1 ⟨rfl, hb⟩; obtain ⟨hc_, hf_, hz_⟩ := bfacts hb; (try simp only [World.size_alloc, World.size_setCell, World.size_drew] at hc_ hf_ hz_); have hzz0 : w.heap.size < w1.heap.size := (by omega); have hzz1 : w.heap.size + 1 < w1.heap.size := (by omega))))
    go_ret3
    exact ⟨by rw [K.out.1 (by rfl)]; rfl, by (repeat (first | with_reducible exact Below.refl _ _ | with_reducible refine below_alloc ?_ _ | with_reducible refine below_drew ?_ | with_reducible refine below_drewN ?_ _ | with_reducible refine below_then ?_ (by assumption)))⟩
  · obtain ⟨ha0, ha1⟩ := id ha
    obtain ⟨hb0, hb1⟩ := id hb
    obtain ⟨ha0', ha1'⟩ := id ha'
    obtain ⟨hb0', hb1'⟩ := id hb'
    have K := Lib.hid k; clear k
    by_cases l1 : a < a'
    · go_enter Try.func26, Try.ntmps26
      go_wp2_with (first | (go_at_call 19; ((with_reducible refine (c_iValidCloth a b c d e _ ha hb).mono ?_); rintro e w1 ⟨rfl, hb⟩; obtain ⟨hc_, hf_, hz_⟩ := bfacts hb; (try simp only [World.size_alloc, World.size_setCell, World.size_drew] at hc_ hf_ hz_); have hzz0 : w.heap.size < w1.heap.size := (by omega); have hzz1 : w.heap.size + 1 < w1.heap.size := (by omega))) | (go_at_call 19; ((with_reducible refine (c_iValidCloth a' b' c' d' e' _ ha' hb').mono ?_); rintro e w1 ⟨rfl, hb⟩; obtain ⟨hc_, hf_, hz_⟩ := bfacts hb; (try simp only [World.size_alloc, World.size_setCell, World.size_drew] at hc_ hf_ hz_); have hzz0 : w.heap.size < w1.heap.size := (by omega); have hzz1 : w.heap.size + 1 < w1.heap.size := (by omega))))
      go_ret3
      exact ⟨by rw [K.out.2.1 rfl (.inl l1)]; rfl, by (repeat (first | with_reducible exact Below.refl _ _ | with_reducible refine below_alloc ?_ _ | with_reducible refine below_drew ?_ | with_reducible refine below_drewN ?_ _ | with_reducible refine below_then ?_ (by assumption)))⟩
    · by_cases l2 : b < b'
      · go_enter Try.func26, Try.ntmps26
        go_wp2_with (first | (go_at_call 19; ((with_reducible refine (c_iValidCloth a b c d e _ ha hb).mono ?_); rintro e w1 ⟨rfl, hb⟩; obtain ⟨hc_, hf_, hz_⟩ := bfacts hb; (try simp only [World.size_alloc, World.size_setCell, World.size_drew] at hc_ hf_ hz_); have hzz0 : w.heap.size < w1.heap.size := (by omega); have hzz1 : w.heap.size + 1 < w1.heap.size := (by omega))) | (go_at_call 19; ((with_reducible refine (c_iValidCloth a' b' c' d' e' _ ha' hb').mono ?_); rintro e w1 ⟨rfl, hb⟩; obtain ⟨hc_, hf_, hz_⟩ := bfacts hb; (try simp only [World.size_alloc, World.size_setCell, World.size_drew] at hc_ hf_ hz_); have hzz0 : w.heap.size < w1.heap.size := (by omega); have hzz1 : w.heap.size + 1 < w1.heap.size := (by omega))))
        go_ret3
        exact ⟨by rw [K.out.2.1 rfl (.inr (.inl l2))]; rfl, by (repeat (first | with_reducible exact Below.refl _ _ | with_reducible refine below_alloc ?_ _ | with_reducible refine below_drew ?_ | with_reducible refine below_drewN ?_ _ | with_reducible refine below_then ?_ (by assumption)))⟩
      · by_cases l3 : d' < d
        · go_enter Try.func26, Try.ntmps26
          go_wp2_with (first | (go_at_call 19; ((with_reducible refine (c_iValidCloth a b c d e _ ha hb).mono ?_); rintro e w1 ⟨rfl, hb⟩; obtain ⟨hc_, hf_, hz_⟩ := bfacts hb; (try simp only [World.size_alloc, World.size_setCell, World.size_drew] at hc_ hf_ hz_); have hzz0 : w.heap.size < w1.heap.size := (by omega); have hzz1 : w.heap.size + 1 < w1.heap.size := (by omega))) | (go_at_call 19; ((with_reducible refine (c_iValidCloth a' b' c' d' e' _ ha' hb').mono ?_); rintro e w1 ⟨rfl, hb⟩; obtain ⟨hc_, hf_, hz_⟩ := bfacts hb; (try simp only [World.size_alloc, World.size_setCell, World.size_drew] at hc_ hf_ hz_); have hzz0 : w.heap.size < w1.heap.size := (by omega); have hzz1 : w.heap.size + 1 < w1.heap.size := (by omega))))
          go_ret3
          exact ⟨by rw [K.out.2.1 rfl (.inr (.inr l3))]; rfl, by (repeat (first | with_reducible exact Below.refl _ _ | with_reducible refine below_alloc ?_ _ | with_reducible refine below_drew ?_ | with_reducible refine below_drewN ?_ _ | with_reducible refine below_then ?_ (by assumption)))⟩
        · go_enter Try.func26, Try.ntmps26
          go_wp2_with (first | (go_at_call 19; ((with_reducible refine (c_iValidCloth a b c d e _ ha hb).mono ?_); rintro e w1 ⟨rfl, hb⟩; obtain ⟨hc_, hf_, hz_⟩ := bfacts hb; (try simp only [World.size_alloc, World.size_setCell, World.size_drew] at hc_ hf_ hz_); have hzz0 : w.heap.size < w1.heap.size := (by omega); have hzz1 : w.heap.size + 1 < w1.heap.size := (by omega))) | (go_at_call 19; ((with_reducible refine (c_iValidCloth a' b' c' d' e' _ ha' hb').mono ?_); rintro e w1 ⟨rfl, hb⟩; obtain ⟨hc_, hf_, hz_⟩ := bfacts hb; (try simp only [World.size_alloc, World.size_setCell, World.size_drew] at hc_ hf_ hz_); have hzz0 : w.heap.size < w1.heap.size := (by omega); have hzz1 : w.heap.size + 1 < w1.heap.size := (by omega))))
          go_quiet (fail)
          go_wp2
          go_ret3
          obtain ⟨b0, b1, b2, b3⟩ := okCloth_bounds k0
          obtain ⟨b0', b1', b2', b3'⟩ := okCloth_bounds k1
          have e1 : wrap64 (IntKind.i16.wrap (a - a')) = a - a' := by rw [IntWalk.i16_in _ (by omega), IntWalk.wrap64_in _ (by omega)]
          have e2 : wrap64 (IntKind.i16.wrap (b - b')) = b - b' := by rw [IntWalk.i16_in _ (by omega), IntWalk.wrap64_in _ (by omega)]
          exact ⟨by rw [K.out.2.2 rfl (by omega)]; show Ending.returned (.tuple #[.int .i64 (wrap64 (IntKind.i16.wrap (a - a'))), .int .i64 (wrap64 (IntKind.i16.wrap (b - b'))), .int .i64 0]) = _; rw [e1, e2], by (repeat (first | with_reducible exact Below.refl _ _ | with_reducible refine below_alloc ?_ _ | with_reducible refine below_drew ?_ | with_reducible refine below_drewN ?_ _ | with_reducible refine below_then ?_ (by assumption)))⟩


end Go.Proofs.Ytdmcemhckalhkaa
