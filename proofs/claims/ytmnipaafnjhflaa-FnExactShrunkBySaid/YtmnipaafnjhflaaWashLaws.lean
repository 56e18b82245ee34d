/- The laws on valid cloths and programs, shrinking, and moves between places. -/
import Derived.Test.YtmnipaafnjhflaaWashBase
import Derived.Deep.RegionHeld3
namespace Go.Proofs.Ytmnipaafnjhflaa
open Go.RowKit
set_option linter.unusedVariables false
set_option linter.unusedSimpArgs false

theorem walk_FnExactValidProgram (W : World) (a0_0 a0_1 a0_2 : Int) (w0_0 : (Lit.int .i8 a0_0).wf = true) (w0_1 : (Lit.int .i8 a0_1).wf = true) (w0_2 : (Lit.int .i8 a0_2).wf = true) :
    Calls Try.prog 3 #[.agg #[.int .i8 a0_0, .int .i8 a0_1, .int .i8 a0_2]] W fun e w' => e = .returned (.bool true) ∧ Below W.heap.size W w' := by
  clear w0_0 w0_1 w0_2
  go_enter Try.func3, Try.ntmps3
  go_wp2_with (first | (go_at_call 10; ((with_reducible refine (c_toProgram _ _ _ _).mono ?_); rintro e w1 ⟨rfl, hb⟩; obtain ⟨hc_, hf_, hz_⟩ := bfacts hb; (try simp only [World.size_alloc, World.size_setCell, World.size_drew] at hc_ hf_ hz_); have hzz0 : W.heap.size < w1.heap.size := (by omega))) | (go_at_call 9; ((with_reducible refine (c_sValidProgram _ _ _ _).mono ?_); rintro e w1 ⟨rfl, hb⟩; obtain ⟨hc_, hf_, hz_⟩ := bfacts hb; (try simp only [World.size_alloc, World.size_setCell, World.size_drew] at hc_ hf_ hz_); have hzz0 : W.heap.size < w1.heap.size := (by omega))) | (go_at_call 11; ((with_reducible refine (c_iValidProgram _ _ _ _).mono ?_); rintro e w1 ⟨rfl, hb⟩; obtain ⟨hc_, hf_, hz_⟩ := bfacts hb; (try simp only [World.size_alloc, World.size_setCell, World.size_drew] at hc_ hf_ hz_); have hzz0 : W.heap.size < w1.heap.size := (by omega))))
  go_ret
  exact ⟨rfl, by (repeat (first | with_reducible exact Below.refl _ _ | with_reducible refine below_alloc ?_ _ | with_reducible refine below_drew ?_ | with_reducible refine below_drewN ?_ _ | with_reducible refine below_then ?_ (by assumption)))⟩

theorem walk_FnExactValidCloth (W : World) (a0_0 a0_1 a0_2 a0_3 a0_4 : Int) (w0_0 : (Lit.int .i16 a0_0).wf = true) (w0_1 : (Lit.int .i16 a0_1).wf = true) (w0_2 : (Lit.int .i8 a0_2).wf = true) (w0_3 : (Lit.int .i8 a0_3).wf = true) (w0_4 : (Lit.int .i8 a0_4).wf = true) :
    Calls Try.prog 5 #[.agg #[.int .i16 a0_0, .int .i16 a0_1, .int .i8 a0_2, .int .i8 a0_3, .int .i8 a0_4]] W fun e w' => e = .returned (.bool true) ∧ Below W.heap.size W w' := by
  have h0 := wf_i16 w0_0
  have h1 := wf_i16 w0_1
  clear w0_0 w0_1 w0_2 w0_3 w0_4
  go_enter Try.func5, Try.ntmps5
  go_wp2_with (first | (go_at_call 15; ((with_reducible refine (c_toCloth _ _ _ _ _ _).mono ?_); rintro e w1 ⟨rfl, hb⟩; obtain ⟨hc_, hf_, hz_⟩ := bfacts hb; (try simp only [World.size_alloc, World.size_setCell, World.size_drew] at hc_ hf_ hz_); have hzz0 : W.heap.size < w1.heap.size := (by omega))) | (go_at_call 14; ((with_reducible refine (c_sValidCloth _ _ _ _ _ _ h0 h1).mono ?_); rintro e w1 ⟨rfl, hb⟩; obtain ⟨hc_, hf_, hz_⟩ := bfacts hb; (try simp only [World.size_alloc, World.size_setCell, World.size_drew] at hc_ hf_ hz_); have hzz0 : W.heap.size < w1.heap.size := (by omega))) | (go_at_call 16; ((with_reducible refine (c_iValidCloth _ _ _ _ _ _ h0 h1).mono ?_); rintro e w1 ⟨rfl, hb⟩; obtain ⟨hc_, hf_, hz_⟩ := bfacts hb; (try simp only [World.size_alloc, World.size_setCell, World.size_drew] at hc_ hf_ hz_); have hzz0 : W.heap.size < w1.heap.size := (by omega))))
  go_ret
  exact ⟨rfl, by (repeat (first | with_reducible exact Below.refl _ _ | with_reducible refine below_alloc ?_ _ | with_reducible refine below_drew ?_ | with_reducible refine below_drewN ?_ _ | with_reducible refine below_then ?_ (by assumption)))⟩

def mayMove (a b : Int) : Bool := (a == 0 && (b == 1 || b == 3)) || (a == 1 && (b == 2 || b == 3 || b == 4)) || (a == 2 && (b == 3 || b == 4))
theorem c_sMayMove (a b : Int) (w : World) : Calls Try.prog 12 #[.int .i64 a, .int .i64 b] w fun e w' => e = .returned (.bool (mayMove a b)) ∧ w = w' := by
  by_cases h0 : a = 0
  · subst h0
    go_enter Try.func12, Try.ntmps12
    go_wp2
    all_goals go_ret
    all_goals simp_all [mayMove]
  · by_cases h1 : a = 1
    · subst h1
      go_enter Try.func12, Try.ntmps12
      go_wp2
      all_goals go_ret
      all_goals simp_all [mayMove]
    · by_cases h2 : a = 2
      · subst h2
        go_enter Try.func12, Try.ntmps12
        go_wp2
        all_goals go_ret
        all_goals simp_all [mayMove]
      · go_enter Try.func12, Try.ntmps12
        go_wp2
        all_goals go_ret
        all_goals simp_all [mayMove]
theorem c_iMayMove (a b : Int) (w : World) : Calls Try.prog 13 #[.int .i64 a, .int .i64 b] w fun e w' => e = .returned (.bool (mayMove a b)) ∧ w = w' := by
  by_cases h0 : a = 0
  · subst h0
    go_enter Try.func13, Try.ntmps13
    go_wp2
    all_goals go_ret
    all_goals simp_all [mayMove]
  · by_cases h1 : a = 1
    · subst h1
      have e : inB b 2 4 = mayMove 1 b := by
        unfold inB mayMove
        rw [Bool.eq_iff_iff]
        simp
        omega
      go_enter Try.func13, Try.ntmps13
      go_wp2_with (go_at_call 26; ((with_reducible refine (c_within _ _ _ _).mono ?_); rintro e w1 ⟨rfl, rfl⟩))
      all_goals go_ret
      all_goals exact ⟨rfl, rfl⟩
    · by_cases h2 : a = 2
      · subst h2
        go_enter Try.func13, Try.ntmps13
        go_wp2
        all_goals go_ret
        all_goals simp_all [mayMove]
      · go_enter Try.func13, Try.ntmps13
        go_wp2
        all_goals go_ret
        all_goals simp_all [mayMove]
theorem walk_FnExactMayMove (W : World) (a0 : Int) (w0 : (Lit.int .i64 a0).wf = true) (a1 : Int) (w1 : (Lit.int .i64 a1).wf = true) :
    Calls Try.prog 4 #[.int .i64 a0, .int .i64 a1] W fun e w' => e = .returned (.bool true) ∧ Below W.heap.size W w' := by
  clear w0 w1
  go_enter Try.func4, Try.ntmps4
  go_wp2_with (first | (go_at_call 12; ((with_reducible refine (c_sMayMove _ _ _).mono ?_); rintro e w1 ⟨rfl, rfl⟩)) | (go_at_call 13; ((with_reducible refine (c_iMayMove _ _ _).mono ?_); rintro e w1 ⟨rfl, rfl⟩)))
  go_ret
  exact ⟨rfl, Below.refl _ _⟩

def shrunkBy (a b c d e a' b' c' d' e' : Int) : Int × Int × Int :=
  if okCloth a b c d e && okCloth a' b' c' d' e' then (if a < a' ∨ b < b' ∨ d' < d then (0, 0, 4) else (a - a', b - b', 0)) else (0, 0, 1)
theorem okCloth_bounds {a b c d e : Int} (h : okCloth a b c d e = true) : 1 ≤ a ∧ a ≤ 1000 ∧ 1 ≤ b ∧ b ≤ 1000 := by
  simp [okCloth, inB] at h
  omega
theorem shrunk_if (a b c d e a' b' c' d' e' : Int) (ha : -32768 ≤ a ∧ a ≤ 32767) (hb : -32768 ≤ b ∧ b ≤ 32767) (ha' : -32768 ≤ a' ∧ a' ≤ 32767) (hb' : -32768 ≤ b' ∧ b' ≤ 32767) :
    ((okCloth a b c d e && okCloth a' b' c' d' e') = false → shrunkBy a b c d e a' b' c' d' e' = (0, 0, 1)) ∧
    ((okCloth a b c d e && okCloth a' b' c' d' e') = true → (a < a' ∨ b < b' ∨ d' < d) → shrunkBy a b c d e a' b' c' d' e' = (0, 0, 4)) ∧
    ((okCloth a b c d e && okCloth a' b' c' d' e') = true → ¬ (a < a' ∨ b < b' ∨ d' < d) → shrunkBy a b c d e a' b' c' d' e' = (a - a', b - b', 0)) := by
  refine ⟨fun h => ?_, fun h h2 => ?_, fun h h2 => ?_⟩
  · unfold shrunkBy; rw [h]; rfl
  · unfold shrunkBy; rw [h, if_pos rfl, if_pos h2]
  · unfold shrunkBy; rw [h, if_pos rfl, if_neg h2]
theorem c_sShrunkBy (a b c d e a' b' c' d' e' : Int) (w : World) (ha : -32768 ≤ a ∧ a ≤ 32767) (hb : -32768 ≤ b ∧ b ≤ 32767) (ha' : -32768 ≤ a' ∧ a' ≤ 32767) (hb' : -32768 ≤ b' ∧ b' ≤ 32767) :
    Calls Try.prog 20 #[.agg #[.int .i16 a, .int .i16 b, .int .i8 c, .int .i8 d, .int .i8 e], .agg #[.int .i16 a', .int .i16 b', .int .i8 c', .int .i8 d', .int .i8 e']] w fun r w' => r = .returned (.tuple #[.int .i64 (shrunkBy a b c d e a' b' c' d' e').1, .int .i64 (shrunkBy a b c d e a' b' c' d' e').2.1, .int .i64 (shrunkBy a b c d e a' b' c' d' e').2.2]) ∧ Below w.heap.size w w' := by
  have k := shrunk_if a b c d e a' b' c' d' e' ha hb ha' hb'
  cases k0 : okCloth a b c d e <;> cases k1 : okCloth a' b' c' d' e' <;> rw [k0, k1] at k
  · have K := Lib.hid k; clear k
    go_enter Try.func20, Try.ntmps20
    go_wp2_with (first | (go_at_call 27; ((with_reducible refine (c_l06Ok w.heap.size 0 a b c d e _ ha hb (by simp) (by simp) (by simp) (by simp) (by simp)).mono ?_); rintro e w1 ⟨rfl, rfl⟩)) | (go_at_call 27; ((with_reducible refine (c_l06Ok (w.heap.size + 1) 0 a' b' c' d' e' _ ha' hb' (by simp) (by simp) (by simp) (by simp) (by simp)).mono ?_); rintro e w1 ⟨rfl, rfl⟩)))
    go_ret3
    exact ⟨by rw [K.out.1 (by rfl)]; rfl, by (repeat (first | with_reducible exact Below.refl _ _ | with_reducible refine below_alloc ?_ _ | with_reducible refine below_drew ?_ | with_reducible refine below_drewN ?_ _ | with_reducible refine below_then ?_ (by assumption)))⟩
  · have K := Lib.hid k; clear k
    go_enter Try.func20, Try.ntmps20
    go_wp2_with (first | (go_at_call 27; ((with_reducible refine (c_l06Ok w.heap.size 0 a b c d e _ ha hb (by simp) (by simp) (by simp) (by simp) (by simp)).mono ?_); rintro e w1 ⟨rfl, rfl⟩)) | (go_at_call 27; ((with_reducible refine (c_l06Ok (w.heap.size + 1) 0 a' b' c' d' e' _ ha' hb' (by simp) (by simp) (by simp) (by simp) (by simp)).mono ?_); rintro e w1 ⟨rfl, rfl⟩)))
    go_ret3
    exact ⟨by rw [K.out.1 (by rfl)]; rfl, by (repeat (first | with_reducible exact Below.refl _ _ | with_reducible refine below_alloc ?_ _ | with_reducible refine below_drew ?_ | with_reducible refine below_drewN ?_ _ | with_reducible refine below_then ?_ (by assumption)))⟩
  · have K := Lib.hid k; clear k
    go_enter Try.func20, Try.ntmps20
    go_wp2_with (first | (go_at_call 27; ((with_reducible refine (c_l06Ok w.heap.size 0 a b c d e _ ha hb (by simp) (by simp) (by simp) (by simp) (by simp)).mono ?_); rintro e w1 ⟨rfl, rfl⟩)) | (go_at_call 27; ((with_reducible refine (c_l06Ok (w.heap.size + 1) 0 a' b' c' d' e' _ ha' hb' (by simp) (by simp) (by simp) (by simp) (by simp)).mono ?_); rintro e w1 ⟨rfl, rfl⟩)))
    go_ret3
    exact ⟨by rw [K.out.1 (by rfl)]; rfl, by (repeat (first | with_reducible exact Below.refl _ _ | with_reducible refine below_alloc ?_ _ | with_reducible refine below_drew ?_ | with_reducible refine below_drewN ?_ _ | with_reducible refine below_then ?_ (by assumption)))⟩
  · obtain ⟨ha0, ha1⟩ := id ha
    obtain ⟨hb0, hb1⟩ := id hb
    obtain ⟨ha0', ha1'⟩ := id ha'
    obtain ⟨hb0', hb1'⟩ := id hb'
    have K := Lib.hid k; clear k
    by_cases l1 : a < a'
    · go_enter Try.func20, Try.ntmps20
      go_wp2_with (first | (go_at_call 27; ((with_reducible refine (c_l06Ok w.heap.size 0 a b c d e _ ha hb (by simp) (by simp) (by simp) (by simp) (by simp)).mono ?_); rintro e w1 ⟨rfl, rfl⟩)) | (go_at_call 27; ((with_reducible refine (c_l06Ok (w.heap.size + 1) 0 a' b' c' d' e' _ ha' hb' (by simp) (by simp) (by simp) (by simp) (by simp)).mono ?_); rintro e w1 ⟨rfl, rfl⟩)))
      go_ret3
      exact ⟨by rw [K.out.2.1 rfl (.inl l1)]; rfl, by (repeat (first | with_reducible exact Below.refl _ _ | with_reducible refine below_alloc ?_ _ | with_reducible refine below_drew ?_ | with_reducible refine below_drewN ?_ _ | with_reducible refine below_then ?_ (by assumption)))⟩
    · by_cases l2 : b < b'
      · go_enter Try.func20, Try.ntmps20
        go_wp2_with (first | (go_at_call 27; ((with_reducible refine (c_l06Ok w.heap.size 0 a b c d e _ ha hb (by simp) (by simp) (by simp) (by simp) (by simp)).mono ?_); rintro e w1 ⟨rfl, rfl⟩)) | (go_at_call 27; ((with_reducible refine (c_l06Ok (w.heap.size + 1) 0 a' b' c' d' e' _ ha' hb' (by simp) (by simp) (by simp) (by simp) (by simp)).mono ?_); rintro e w1 ⟨rfl, rfl⟩)))
        go_ret3
        exact ⟨by rw [K.out.2.1 rfl (.inr (.inl l2))]; rfl, by (repeat (first | with_reducible exact Below.refl _ _ | with_reducible refine below_alloc ?_ _ | with_reducible refine below_drew ?_ | with_reducible refine below_drewN ?_ _ | with_reducible refine below_then ?_ (by assumption)))⟩
      · by_cases l3 : d' < d
        · go_enter Try.func20, Try.ntmps20
          go_wp2_with (first | (go_at_call 27; ((with_reducible refine (c_l06Ok w.heap.size 0 a b c d e _ ha hb (by simp) (by simp) (by simp) (by simp) (by simp)).mono ?_); rintro e w1 ⟨rfl, rfl⟩)) | (go_at_call 27; ((with_reducible refine (c_l06Ok (w.heap.size + 1) 0 a' b' c' d' e' _ ha' hb' (by simp) (by simp) (by simp) (by simp) (by simp)).mono ?_); rintro e w1 ⟨rfl, rfl⟩)))
          go_ret3
          exact ⟨by rw [K.out.2.1 rfl (.inr (.inr l3))]; rfl, by (repeat (first | with_reducible exact Below.refl _ _ | with_reducible refine below_alloc ?_ _ | with_reducible refine below_drew ?_ | with_reducible refine below_drewN ?_ _ | with_reducible refine below_then ?_ (by assumption)))⟩
        · go_enter Try.func20, Try.ntmps20
          go_wp2_with (first | (go_at_call 27; ((with_reducible refine (c_l06Ok w.heap.size 0 a b c d e _ ha hb (by simp) (by simp) (by simp) (by simp) (by simp)).mono ?_); rintro e w1 ⟨rfl, rfl⟩)) | (go_at_call 27; ((with_reducible refine (c_l06Ok (w.heap.size + 1) 0 a' b' c' d' e' _ ha' hb' (by simp) (by simp) (by simp) (by simp) (by simp)).mono ?_); rintro e w1 ⟨rfl, rfl⟩)))
          go_quiet (fail)
          go_wp2
          go_ret3
          exact ⟨by rw [K.out.2.2 rfl (by omega)]; rfl, by (repeat (first | with_reducible exact Below.refl _ _ | with_reducible refine below_alloc ?_ _ | with_reducible refine below_drew ?_ | with_reducible refine below_drewN ?_ _ | with_reducible refine below_then ?_ (by assumption)))⟩

theorem c_iShrunkBy (a b c d e a' b' c' d' e' : Int) (w : World) (ha : -32768 ≤ a ∧ a ≤ 32767) (hb : -32768 ≤ b ∧ b ≤ 32767) (ha' : -32768 ≤ a' ∧ a' ≤ 32767) (hb' : -32768 ≤ b' ∧ b' ≤ 32767) :
    Calls Try.prog 21 #[.agg #[.int .i16 a, .int .i16 b, .int .i8 c, .int .i8 d, .int .i8 e], .agg #[.int .i16 a', .int .i16 b', .int .i8 c', .int .i8 d', .int .i8 e']] w fun r w' => r = .returned (.tuple #[.int .i64 (shrunkBy a b c d e a' b' c' d' e').1, .int .i64 (shrunkBy a b c d e a' b' c' d' e').2.1, .int .i64 (shrunkBy a b c d e a' b' c' d' e').2.2]) ∧ Below w.heap.size w w' := by
  have k := shrunk_if a b c d e a' b' c' d' e' ha hb ha' hb'
  cases k0 : okCloth a b c d e <;> cases k1 : okCloth a' b' c' d' e' <;> rw [k0, k1] at k
  · have K := Lib.hid k; clear k
    go_enter Try.func21, Try.ntmps21
    go_wp2_with (first | (go_at_call 16; ((with_reducible refine (c_iValidCloth a b c d e _ ha hb).mono ?_); rintro e w1 ⟨rfl, hb⟩; obtain ⟨hc_, hf_, hz_⟩ := bfacts hb; (try simp only [World.size_alloc, World.size_setCell, World.size_drew] at hc_ hf_ hz_); have hzz0 : w.heap.size < w1.heap.size := (by omega); have hzz1 : w.heap.size + 1 < w1.heap.size := (by omega))) | (go_at_call 16; ((with_reducible refine (c_iValidCloth a' b' c' d' e' _ ha' hb').mono ?_); rintro e w1 ⟨rfl, hb⟩; obtain ⟨hc_, hf_, hz_⟩ := bfacts hb; (try simp only [World.size_alloc, World.size_setCell, World.size_drew] at hc_ hf_ hz_); have hzz0 : w.heap.size < w1.heap.size := (by omega); have hzz1 : w.heap.size + 1 < w1.heap.size := (by omega))))
    go_ret3
    exact ⟨by rw [K.out.1 (by rfl)]; rfl, by (repeat (first | with_reducible exact Below.refl _ _ | with_reducible refine below_alloc ?_ _ | with_reducible refine below_drew ?_ | with_reducible refine below_drewN ?_ _ | with_reducible refine below_then ?_ (by assumption)))⟩
  · have K := Lib.hid k; clear k
    go_enter Try.func21, Try.ntmps21
    go_wp2_with (first | (go_at_call 16; ((with_reducible refine (c_iValidCloth a b c d e _ ha hb).mono ?_); rintro e w1 ⟨rfl, hb⟩; obtain ⟨hc_, hf_, hz_⟩ := bfacts hb; (try simp only [World.size_alloc, World.size_setCell, World.size_drew] at hc_ hf_ hz_); have hzz0 : w.heap.size < w1.heap.size := (by omega); have hzz1 : w.heap.size + 1 < w1.heap.size := (by omega))) | (go_at_call 16; ((with_reducible refine (c_iValidCloth a' b' c' d' e' _ ha' hb').mono ?_); rintro e w1 ⟨rfl, hb⟩; obtain ⟨hc_, hf_, hz_⟩ := bfacts hb; (try simp only [World.size_alloc, World.size_setCell, World.size_drew] at hc_ hf_ hz_); have hzz0 : w.heap.size < w1.heap.size := (by omega); have hzz1 : w.heap.size + 1 < w1.heap.size := (by omega))))
    go_ret3
    exact ⟨by rw [K.out.1 (by rfl)]; rfl, by (repeat (first | with_reducible exact Below.refl _ _ | with_reducible refine below_alloc ?_ _ | with_reducible refine below_drew ?_ | with_reducible refine below_drewN ?_ _ | with_reducible refine below_then ?_ (by assumption)))⟩
  · have K := Lib.hid k; clear k
    go_enter Try.func21, Try.ntmps21
    go_wp2_with (first | (go_at_call 16; ((with_reducible refine (c_iValidCloth a b c d e _ ha hb).mono ?_); rintro e w1 ⟨rfl, hb⟩; obtain ⟨hc_, hf_, hz_⟩ := bfacts hb; (try simp only [World.size_alloc, World.size_setCell, World.size_drew] at hc_ hf_ hz_); have hzz0 : w.heap.size < w1.heap.size := (by omega); have hzz1 : w.heap.size + 1 < w1.heap.size := (by omega))) | (go_at_call 16; ((with_reducible refine (c_iValidCloth a' b' c' d' e' _ ha' hb').mono ?_); rintro e w1 ⟨rfl, hb⟩; obtain ⟨hc_, hf_, hz_⟩ := bfacts hb; (try simp only [World.size_alloc, World.size_setCell, World.size_drew] at hc_ hf_ hz_); have hzz0 : w.heap.size < w1.heap.size := (by omega); have hzz1 : w.heap.size + 1 < w1.heap.size := (by omega))))
    go_ret3
    exact ⟨by rw [K.out.1 (by rfl)]; rfl, by (repeat (first | with_reducible exact Below.refl _ _ | with_reducible refine below_alloc ?_ _ | with_reducible refine below_drew ?_ | with_reducible refine below_drewN ?_ _ | with_reducible refine below_then ?_ (by assumption)))⟩
  · obtain ⟨ha0, ha1⟩ := id ha
    obtain ⟨hb0, hb1⟩ := id hb
    obtain ⟨ha0', ha1'⟩ := id ha'
    obtain ⟨hb0', hb1'⟩ := id hb'
    have K := Lib.hid k; clear k
    by_cases l1 : a < a'
    · go_enter Try.func21, Try.ntmps21
      go_wp2_with (first | (go_at_call 16; ((with_reducible refine (c_iValidCloth a b c d e _ ha hb).mono ?_); rintro e w1 ⟨rfl, hb⟩; obtain ⟨hc_, hf_, hz_⟩ := bfacts hb; (try simp only [World.size_alloc, World.size_setCell, World.size_drew] at hc_ hf_ hz_); have hzz0 : w.heap.size < w1.heap.size := (by omega); have hzz1 : w.heap.size + 1 < w1.heap.size := (by omega))) | (go_at_call 16; ((with_reducible refine (c_iValidCloth a' b' c' d' e' _ ha' hb').mono ?_); rintro e w1 ⟨rfl, hb⟩; obtain ⟨hc_, hf_, hz_⟩ := bfacts hb; (try simp only [World.size_alloc, World.size_setCell, World.size_drew] at hc_ hf_ hz_); have hzz0 : w.heap.size < w1.heap.size := (by omega); have hzz1 : w.heap.size + 1 < w1.heap.size := (by omega))))
      go_ret3
      exact ⟨by rw [K.out.2.1 rfl (.inl l1)]; rfl, by (repeat (first | with_reducible exact Below.refl _ _ | with_reducible refine below_alloc ?_ _ | with_reducible refine below_drew ?_ | with_reducible refine below_drewN ?_ _ | with_reducible refine below_then ?_ (by assumption)))⟩
    · by_cases l2 : b < b'
      · go_enter Try.func21, Try.ntmps21
        go_wp2_with (first | (go_at_call 16; ((with_reducible refine (c_iValidCloth a b c d e _ ha hb).mono ?_); rintro e w1 ⟨rfl, hb⟩; obtain ⟨hc_, hf_, hz_⟩ := bfacts hb; (try simp only [World.size_alloc, World.size_setCell, World.size_drew] at hc_ hf_ hz_); have hzz0 : w.heap.size < w1.heap.size := (by omega); have hzz1 : w.heap.size + 1 < w1.heap.size := (by omega))) | (go_at_call 16; ((with_reducible refine (c_iValidCloth a' b' c' d' e' _ ha' hb').mono ?_); rintro e w1 ⟨rfl, hb⟩; obtain ⟨hc_, hf_, hz_⟩ := bfacts hb; (try simp only [World.size_alloc, World.size_setCell, World.size_drew] at hc_ hf_ hz_); have hzz0 : w.heap.size < w1.heap.size := (by omega); have hzz1 : w.heap.size + 1 < w1.heap.size := (by omega))))
        go_ret3
        exact ⟨by rw [K.out.2.1 rfl (.inr (.inl l2))]; rfl, by (repeat (first | with_reducible exact Below.refl _ _ | with_reducible refine below_alloc ?_ _ | with_reducible refine below_drew ?_ | with_reducible refine below_drewN ?_ _ | with_reducible refine below_then ?_ (by assumption)))⟩
      · by_cases l3 : d' < d
        · go_enter Try.func21, Try.ntmps21
          go_wp2_with (first | (go_at_call 16; ((with_reducible refine (c_iValidCloth a b c d e _ ha hb).mono ?_); rintro e w1 ⟨rfl, hb⟩; obtain ⟨hc_, hf_, hz_⟩ := bfacts hb; (try simp only [World.size_alloc, World.size_setCell, World.size_drew] at hc_ hf_ hz_); have hzz0 : w.heap.size < w1.heap.size := (by omega); have hzz1 : w.heap.size + 1 < w1.heap.size := (by omega))) | (go_at_call 16; ((with_reducible refine (c_iValidCloth a' b' c' d' e' _ ha' hb').mono ?_); rintro e w1 ⟨rfl, hb⟩; obtain ⟨hc_, hf_, hz_⟩ := bfacts hb; (try simp only [World.size_alloc, World.size_setCell, World.size_drew] at hc_ hf_ hz_); have hzz0 : w.heap.size < w1.heap.size := (by omega); have hzz1 : w.heap.size + 1 < w1.heap.size := (by omega))))
          go_ret3
          exact ⟨by rw [K.out.2.1 rfl (.inr (.inr l3))]; rfl, by (repeat (first | with_reducible exact Below.refl _ _ | with_reducible refine below_alloc ?_ _ | with_reducible refine below_drew ?_ | with_reducible refine below_drewN ?_ _ | with_reducible refine below_then ?_ (by assumption)))⟩
        · go_enter Try.func21, Try.ntmps21
          go_wp2_with (first | (go_at_call 16; ((with_reducible refine (c_iValidCloth a b c d e _ ha hb).mono ?_); rintro e w1 ⟨rfl, hb⟩; obtain ⟨hc_, hf_, hz_⟩ := bfacts hb; (try simp only [World.size_alloc, World.size_setCell, World.size_drew] at hc_ hf_ hz_); have hzz0 : w.heap.size < w1.heap.size := (by omega); have hzz1 : w.heap.size + 1 < w1.heap.size := (by omega))) | (go_at_call 16; ((with_reducible refine (c_iValidCloth a' b' c' d' e' _ ha' hb').mono ?_); rintro e w1 ⟨rfl, hb⟩; obtain ⟨hc_, hf_, hz_⟩ := bfacts hb; (try simp only [World.size_alloc, World.size_setCell, World.size_drew] at hc_ hf_ hz_); have hzz0 : w.heap.size < w1.heap.size := (by omega); have hzz1 : w.heap.size + 1 < w1.heap.size := (by omega))))
          go_quiet (fail)
          go_wp2
          go_ret3
          obtain ⟨b0, b1, b2, b3⟩ := okCloth_bounds k0
          obtain ⟨b0', b1', b2', b3'⟩ := okCloth_bounds k1
          have e1 : wrap64 (IntKind.i16.wrap (a - a')) = a - a' := by rw [IntWalk.i16_in _ (by omega), IntWalk.wrap64_in _ (by omega)]
          have e2 : wrap64 (IntKind.i16.wrap (b - b')) = b - b' := by rw [IntWalk.i16_in _ (by omega), IntWalk.wrap64_in _ (by omega)]
          exact ⟨by rw [K.out.2.2 rfl (by omega)]; show Ending.returned (.tuple #[.int .i64 (wrap64 (IntKind.i16.wrap (a - a'))), .int .i64 (wrap64 (IntKind.i16.wrap (b - b'))), .int .i64 0]) = _; rw [e1, e2], by (repeat (first | with_reducible exact Below.refl _ _ | with_reducible refine below_alloc ?_ _ | with_reducible refine below_drew ?_ | with_reducible refine below_drewN ?_ _ | with_reducible refine below_then ?_ (by assumption)))⟩


theorem walk_FnExactShrunkBy (W : World) (a0_0 a0_1 a0_2 a0_3 a0_4 : Int) (w0_0 : (Lit.int .i16 a0_0).wf = true) (w0_1 : (Lit.int .i16 a0_1).wf = true) (w0_2 : (Lit.int .i8 a0_2).wf = true) (w0_3 : (Lit.int .i8 a0_3).wf = true) (w0_4 : (Lit.int .i8 a0_4).wf = true) (a1_0 a1_1 a1_2 a1_3 a1_4 : Int) (w1_0 : (Lit.int .i16 a1_0).wf = true) (w1_1 : (Lit.int .i16 a1_1).wf = true) (w1_2 : (Lit.int .i8 a1_2).wf = true) (w1_3 : (Lit.int .i8 a1_3).wf = true) (w1_4 : (Lit.int .i8 a1_4).wf = true) :
    Calls Try.prog 7 #[.agg #[.int .i16 a0_0, .int .i16 a0_1, .int .i8 a0_2, .int .i8 a0_3, .int .i8 a0_4], .agg #[.int .i16 a1_0, .int .i16 a1_1, .int .i8 a1_2, .int .i8 a1_3, .int .i8 a1_4]] W fun e w' => e = .returned (.bool true) ∧ Below W.heap.size W w' := by
  have h0 := wf_i16 w0_0
  have h1 := wf_i16 w0_1
  have h2 := wf_i16 w1_0
  have h3 := wf_i16 w1_1
  clear w0_0 w0_1 w0_2 w0_3 w0_4 w1_0 w1_1 w1_2 w1_3 w1_4
  go_enter Try.func7, Try.ntmps7
  go_wp2
  go_region_held3 (fun w' => (w'.cell? ⟨W.heap.size, 0, none⟩ = some (.int .i16 a0_0) ∧ w'.cell? ⟨W.heap.size, 1, none⟩ = some (.int .i16 a0_1) ∧ w'.cell? ⟨W.heap.size, 2, none⟩ = some (.int .i8 a0_2) ∧ w'.cell? ⟨W.heap.size, 3, none⟩ = some (.int .i8 a0_3) ∧ w'.cell? ⟨W.heap.size, 4, none⟩ = some (.int .i8 a0_4) ∧ w'.cell? ⟨W.heap.size + 1, 0, none⟩ = some (.int .i16 a1_0) ∧ w'.cell? ⟨W.heap.size + 1, 1, none⟩ = some (.int .i16 a1_1) ∧ w'.cell? ⟨W.heap.size + 1, 2, none⟩ = some (.int .i8 a1_2) ∧ w'.cell? ⟨W.heap.size + 1, 3, none⟩ = some (.int .i8 a1_3) ∧ w'.cell? ⟨W.heap.size + 1, 4, none⟩ = some (.int .i8 a1_4))) (simp [*, go_sem])
    (first | (go_at_call 15; ((with_reducible refine (c_toCloth _ _ _ _ _ _).mono ?_); rintro e w1 ⟨rfl, hb⟩; obtain ⟨hc_, hf_, hz_⟩ := bfacts hb; (try simp only [World.size_alloc, World.size_setCell, World.size_drew] at hc_ hf_ hz_); have hzz0 : W.heap.size < w1.heap.size := (by omega); have hzz1 : W.heap.size + 1 < w1.heap.size := (by omega))) | (go_at_call 20; ((with_reducible refine (c_sShrunkBy _ _ _ _ _ _ _ _ _ _ _ h0 h1 h2 h3).mono ?_); rintro e w1 ⟨rfl, hb⟩; obtain ⟨hc_, hf_, hz_⟩ := bfacts hb; (try simp only [World.size_alloc, World.size_setCell, World.size_drew] at hc_ hf_ hz_); have hzz0 : W.heap.size < w1.heap.size := (by omega); have hzz1 : W.heap.size + 1 < w1.heap.size := (by omega))))
  go_wp2
  go_region_held3 (fun w' => (w'.cell? ⟨W.heap.size, 0, none⟩ = some (.int .i16 a0_0) ∧ w'.cell? ⟨W.heap.size, 1, none⟩ = some (.int .i16 a0_1) ∧ w'.cell? ⟨W.heap.size, 2, none⟩ = some (.int .i8 a0_2) ∧ w'.cell? ⟨W.heap.size, 3, none⟩ = some (.int .i8 a0_3) ∧ w'.cell? ⟨W.heap.size, 4, none⟩ = some (.int .i8 a0_4) ∧ w'.cell? ⟨W.heap.size + 1, 0, none⟩ = some (.int .i16 a1_0) ∧ w'.cell? ⟨W.heap.size + 1, 1, none⟩ = some (.int .i16 a1_1) ∧ w'.cell? ⟨W.heap.size + 1, 2, none⟩ = some (.int .i8 a1_2) ∧ w'.cell? ⟨W.heap.size + 1, 3, none⟩ = some (.int .i8 a1_3) ∧ w'.cell? ⟨W.heap.size + 1, 4, none⟩ = some (.int .i8 a1_4))) (simp [*, go_sem])
    (first | (go_at_call 15; ((with_reducible refine (c_toCloth _ _ _ _ _ _).mono ?_); rintro e w1 ⟨rfl, hb⟩; obtain ⟨hc_, hf_, hz_⟩ := bfacts hb; (try simp only [World.size_alloc, World.size_setCell, World.size_drew] at hc_ hf_ hz_); have hzz0 : W.heap.size < w1.heap.size := (by omega); have hzz1 : W.heap.size + 1 < w1.heap.size := (by omega))) | (go_at_call 21; ((with_reducible refine (c_iShrunkBy _ _ _ _ _ _ _ _ _ _ _ h0 h1 h2 h3).mono ?_); rintro e w1 ⟨rfl, hb⟩; obtain ⟨hc_, hf_, hz_⟩ := bfacts hb; (try simp only [World.size_alloc, World.size_setCell, World.size_drew] at hc_ hf_ hz_); have hzz0 : W.heap.size < w1.heap.size := (by omega); have hzz1 : W.heap.size + 1 < w1.heap.size := (by omega))))
  go_wp2
  all_goals go_ret
  exact ⟨rfl, by (repeat (first | with_reducible exact Below.refl _ _ | with_reducible refine below_alloc ?_ _ | with_reducible refine below_drew ?_ | with_reducible refine below_drewN ?_ _ | with_reducible refine below_then ?_ (by assumption)))⟩
end Go.Proofs.Ytmnipaafnjhflaa
