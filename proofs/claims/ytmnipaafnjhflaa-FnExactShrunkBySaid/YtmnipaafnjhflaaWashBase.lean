/- Cloths and programs of washing: what is valid. -/
import Derived.Test.YtmnipaafnjhflaaProg
import Derived.Test.YtmnipaafnjhflaaFlat2
import Derived.Deep.QuietTactic
import Derived.BigQuiet
namespace Go.Proofs.Ytmnipaafnjhflaa
open Go.RowKit
set_option linter.unusedVariables false
set_option linter.unusedSimpArgs false

def nine (n : Int) : Bool := decide (0 ≤ n) && decide (n ≤ 9)
def inB (n lo hi : Int) : Bool := decide (lo ≤ n) && decide (n ≤ hi)

theorem c_l00In (n lo hi : Int) (w : World) : Calls Try.prog 35 #[.int .i64 n, .int .i64 lo, .int .i64 hi] w fun e w' => e = .returned (.bool (inB n lo hi)) ∧ w = w' := by
  by_cases h1 : lo ≤ n
  · by_cases h2 : n ≤ hi
    · go_enter Try.func35, Try.ntmps35
      go_wp2
      go_ret
      simp [inB, h1, h2]
    · go_enter Try.func35, Try.ntmps35
      go_wp2
      go_ret
      simp [inB, h1, h2]
  · go_enter Try.func35, Try.ntmps35
    go_wp2
    go_ret
    simp [inB, h1] <;> omega

theorem c_within (n lo hi : Int) (w : World) : Calls Try.prog 26 #[.int .i64 n, .int .i64 lo, .int .i64 hi] w fun e w' => e = .returned (.bool (inB n lo hi)) ∧ w = w' := by
  by_cases h1 : lo ≤ n
  · by_cases h2 : n ≤ hi
    · go_enter Try.func26, Try.ntmps26
      go_wp2
      go_ret
      simp [inB, h1, h2]
    · go_enter Try.func26, Try.ntmps26
      go_wp2
      go_ret
      simp [inB, h1, h2]
  · go_enter Try.func26, Try.ntmps26
    go_wp2
    go_ret
    simp [inB, h1] <;> omega

theorem c_l06Nine (n : Int) (w : World) : Calls Try.prog 34 #[.int .i8 n] w fun e w' => e = .returned (.bool (nine n)) ∧ w = w' := by
  by_cases h1 : 0 ≤ n
  · by_cases h2 : n ≤ 9
    · go_enter Try.func34, Try.ntmps34
      go_wp2
      go_ret
      simp [nine, h1, h2]
    · go_enter Try.func34, Try.ntmps34
      go_wp2
      go_ret
      simp [nine, h1, h2]
  · go_enter Try.func34, Try.ntmps34
    go_wp2
    go_ret
    simp [nine, h1] <;> omega

theorem c_isDegree (n : Int) (w : World) : Calls Try.prog 25 #[.int .i8 n] w fun e w' => e = .returned (.bool (nine n)) ∧ w = w' := by
  by_cases h1 : 0 ≤ n
  · by_cases h2 : n ≤ 9
    · go_enter Try.func25, Try.ntmps25
      go_wp2
      go_ret
      simp [nine, h1, h2]
    · go_enter Try.func25, Try.ntmps25
      go_wp2
      go_ret
      simp [nine, h1, h2]
  · go_enter Try.func25, Try.ntmps25
    go_wp2
    go_ret
    simp [nine, h1] <;> omega

def okProgram (a b c : Int) : Bool := nine a && nine b && nine c
def okCloth (a b c d e : Int) : Bool := inB a 1 1000 && inB b 1 1000 && nine c && nine d && nine e

theorem c_l06Program (g o : Nat) (a b c : Int) (w : World) (h0 : w.cell? ⟨g, o, none⟩ = some (.int .i8 a)) (h1 : w.cell? ⟨g, o + 1, none⟩ = some (.int .i8 b)) (h2 : w.cell? ⟨g, o + 2, none⟩ = some (.int .i8 c)) :
    Calls Try.prog 24 #[.pointer (some ⟨g, o, none⟩)] w fun e w' => e = .returned (.bool (okProgram a b c)) ∧ w = w' := by
  go_enter Try.func24, Try.ntmps24
  go_wp2_with (go_at_call 34; ((with_reducible refine (c_l06Nine _ _).mono ?_); rintro e w1 ⟨rfl, rfl⟩))
  all_goals go_ret
  all_goals simp_all [okProgram]

theorem c_sValidProgram (a b c : Int) (w : World) :
    Calls Try.prog 9 #[.agg #[.int .i8 a, .int .i8 b, .int .i8 c]] w fun e w' => e = .returned (.bool (okProgram a b c)) ∧ Below w.heap.size w w' := by
  go_enter Try.func9, Try.ntmps9
  go_wp2_with (go_at_call 24; refine (c_l06Program _ _ a b c _ (by simp) (by simp) (by simp)).mono ?_; rintro e w' ⟨rfl, rfl⟩)
  go_ret
  exact ⟨rfl, by (repeat (first | with_reducible exact Below.refl _ _ | with_reducible refine below_alloc ?_ _ | with_reducible refine below_drew ?_ | with_reducible refine below_drewN ?_ _ | with_reducible refine below_then ?_ (by assumption)))⟩

theorem c_iValidProgram (a b c : Int) (w : World) :
    Calls Try.prog 11 #[.agg #[.int .i8 a, .int .i8 b, .int .i8 c]] w fun e w' => e = .returned (.bool (okProgram a b c)) ∧ Below w.heap.size w w' := by
  go_enter Try.func11, Try.ntmps11
  go_wp2_with (go_at_call 25; ((with_reducible refine (c_isDegree _ _).mono ?_); rintro e w1 ⟨rfl, rfl⟩))
  all_goals go_ret
  all_goals exact ⟨by simp_all [okProgram], by (repeat (first | with_reducible exact Below.refl _ _ | with_reducible refine below_alloc ?_ _ | with_reducible refine below_drew ?_ | with_reducible refine below_drewN ?_ _ | with_reducible refine below_then ?_ (by assumption)))⟩

theorem c_toProgram (a b c : Int) (w : World) :
    Calls Try.prog 10 #[.agg #[.int .i8 a, .int .i8 b, .int .i8 c]] w fun e w' => e = .returned (.agg #[.int .i8 a, .int .i8 b, .int .i8 c]) ∧ Below w.heap.size w w' := by
  go_enter Try.func10, Try.ntmps10
  go_wp2
  exact bodyPost_ret (v := .agg #[.int .i8 a, .int .i8 b, .int .i8 c]) (by simp [results, Try.results10, go_sem]) rfl ⟨rfl, by (repeat (first | with_reducible exact Below.refl _ _ | with_reducible refine below_alloc ?_ _ | with_reducible refine below_drew ?_ | with_reducible refine below_drewN ?_ _ | with_reducible refine below_then ?_ (by assumption)))⟩

theorem c_l06Ok (g o : Nat) (a b c d e : Int) (w : World) (ha : -32768 ≤ a ∧ a ≤ 32767) (hb : -32768 ≤ b ∧ b ≤ 32767) (h0 : w.cell? ⟨g, o, none⟩ = some (.int .i16 a)) (h1 : w.cell? ⟨g, o + 1, none⟩ = some (.int .i16 b)) (h2 : w.cell? ⟨g, o + 2, none⟩ = some (.int .i8 c)) (h3 : w.cell? ⟨g, o + 3, none⟩ = some (.int .i8 d)) (h4 : w.cell? ⟨g, o + 4, none⟩ = some (.int .i8 e)) :
    Calls Try.prog 27 #[.pointer (some ⟨g, o, none⟩)] w fun r w' => r = .returned (.bool (okCloth a b c d e)) ∧ w = w' := by
  obtain ⟨ha0, ha1⟩ := ha
  obtain ⟨hb0, hb1⟩ := hb
  go_enter Try.func27, Try.ntmps27
  go_wp2_with (first | (go_at_call 35; ((with_reducible refine (c_l00In _ _ _ _).mono ?_); rintro e w1 ⟨rfl, rfl⟩)) | (go_at_call 34; ((with_reducible refine (c_l06Nine _ _).mono ?_); rintro e w1 ⟨rfl, rfl⟩)))
  all_goals go_ret
  all_goals simp_all [okCloth]

theorem c_sValidCloth (a b c d e : Int) (w : World) (ha : -32768 ≤ a ∧ a ≤ 32767) (hb : -32768 ≤ b ∧ b ≤ 32767) :
    Calls Try.prog 14 #[.agg #[.int .i16 a, .int .i16 b, .int .i8 c, .int .i8 d, .int .i8 e]] w fun r w' => r = .returned (.bool (okCloth a b c d e)) ∧ Below w.heap.size w w' := by
  go_enter Try.func14, Try.ntmps14
  go_wp2_with (go_at_call 27; refine (c_l06Ok _ _ a b c d e _ ha hb (by simp) (by simp) (by simp) (by simp) (by simp)).mono ?_; rintro e w' ⟨rfl, rfl⟩)
  go_ret
  exact ⟨rfl, by (repeat (first | with_reducible exact Below.refl _ _ | with_reducible refine below_alloc ?_ _ | with_reducible refine below_drew ?_ | with_reducible refine below_drewN ?_ _ | with_reducible refine below_then ?_ (by assumption)))⟩

theorem c_iValidCloth (a b c d e : Int) (w : World) (ha : -32768 ≤ a ∧ a ≤ 32767) (hb : -32768 ≤ b ∧ b ≤ 32767) :
    Calls Try.prog 16 #[.agg #[.int .i16 a, .int .i16 b, .int .i8 c, .int .i8 d, .int .i8 e]] w fun r w' => r = .returned (.bool (okCloth a b c d e)) ∧ Below w.heap.size w w' := by
  obtain ⟨ha0, ha1⟩ := ha
  obtain ⟨hb0, hb1⟩ := hb
  go_enter Try.func16, Try.ntmps16
  go_wp2_with (first | (go_at_call 26; ((with_reducible refine (c_within _ _ _ _).mono ?_); rintro e w1 ⟨rfl, rfl⟩)) | (go_at_call 25; ((with_reducible refine (c_isDegree _ _).mono ?_); rintro e w1 ⟨rfl, rfl⟩)))
  all_goals go_ret
  all_goals exact ⟨by simp_all [okCloth], by (repeat (first | with_reducible exact Below.refl _ _ | with_reducible refine below_alloc ?_ _ | with_reducible refine below_drew ?_ | with_reducible refine below_drewN ?_ _ | with_reducible refine below_then ?_ (by assumption)))⟩

theorem c_toCloth (a b c d e : Int) (w : World) :
    Calls Try.prog 15 #[.agg #[.int .i16 a, .int .i16 b, .int .i8 c, .int .i8 d, .int .i8 e]] w fun r w' => r = .returned (.agg #[.int .i16 a, .int .i16 b, .int .i8 c, .int .i8 d, .int .i8 e]) ∧ Below w.heap.size w w' := by
  go_enter Try.func15, Try.ntmps15
  go_wp2
  exact bodyPost_ret (v := .agg #[.int .i16 a, .int .i16 b, .int .i8 c, .int .i8 d, .int .i8 e]) (by simp [results, Try.results15, go_sem]) rfl ⟨rfl, by (repeat (first | with_reducible exact Below.refl _ _ | with_reducible refine below_alloc ?_ _ | with_reducible refine below_drew ?_ | with_reducible refine below_drewN ?_ _ | with_reducible refine below_then ?_ (by assumption)))⟩
end Go.Proofs.Ytmnipaafnjhflaa
