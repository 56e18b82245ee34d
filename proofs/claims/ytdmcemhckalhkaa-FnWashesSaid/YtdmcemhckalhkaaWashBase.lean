/- Cloths and programs of washing: what is valid. -/
import Derived.Test.YtdmcemhckalhkaaProg
import Derived.Test.YtdmcemhckalhkaaFlat2
import Derived.Test.YtdmcemhckalhkaaScalars
namespace Go.Proofs.Ytdmcemhckalhkaa
open Go.RowKit
set_option linter.unusedVariables false
set_option linter.unusedSimpArgs false

def okProgram (a b c : Int) : Bool := nine a && nine b && nine c
def okCloth (a b c d e : Int) : Bool := inB a 1 1000 && inB b 1 1000 && nine c && nine d && nine e

theorem c_l06Program (g o : Nat) (a b c : Int) (w : World) (h0 : w.cell? ⟨g, o, none⟩ = some (.int .i8 a)) (h1 : w.cell? ⟨g, o + 1, none⟩ = some (.int .i8 b)) (h2 : w.cell? ⟨g, o + 2, none⟩ = some (.int .i8 c)) :
    Calls Try.prog 54 #[.pointer (some ⟨g, o, none⟩)] w fun e w' => e = .returned (.bool (okProgram a b c)) ∧ w = w' := by
  go_enter Try.func54, Try.ntmps54
  go_wp2_with (go_at_call 65; ((with_reducible refine (c_l06Nine _ _).mono ?_); rintro e w1 ⟨rfl, rfl⟩))
  all_goals go_ret
  all_goals simp_all [okProgram]


theorem c_iValidProgram (a b c : Int) (w : World) :
    Calls Try.prog 23 #[.agg #[.int .i8 a, .int .i8 b, .int .i8 c]] w fun e w' => e = .returned (.bool (okProgram a b c)) ∧ Below w.heap.size w w' := by
  go_enter Try.func23, Try.ntmps23
  go_wp2_with (go_at_call 52; ((with_reducible refine (c_isDegree _ _).mono ?_); rintro e w1 ⟨rfl, rfl⟩))
  all_goals go_ret
  all_goals exact ⟨by simp_all [okProgram], by (repeat (first | with_reducible exact Below.refl _ _ | with_reducible refine below_alloc ?_ _ | with_reducible refine below_drew ?_ | with_reducible refine below_drewN ?_ _ | with_reducible refine below_then ?_ (by assumption)))⟩


theorem c_l06Ok (g o : Nat) (a b c d e : Int) (w : World) (ha : -32768 ≤ a ∧ a ≤ 32767) (hb : -32768 ≤ b ∧ b ≤ 32767) (h0 : w.cell? ⟨g, o, none⟩ = some (.int .i16 a)) (h1 : w.cell? ⟨g, o + 1, none⟩ = some (.int .i16 b)) (h2 : w.cell? ⟨g, o + 2, none⟩ = some (.int .i8 c)) (h3 : w.cell? ⟨g, o + 3, none⟩ = some (.int .i8 d)) (h4 : w.cell? ⟨g, o + 4, none⟩ = some (.int .i8 e)) :
    Calls Try.prog 53 #[.pointer (some ⟨g, o, none⟩)] w fun r w' => r = .returned (.bool (okCloth a b c d e)) ∧ w = w' := by
  obtain ⟨ha0, ha1⟩ := ha
  obtain ⟨hb0, hb1⟩ := hb
  go_enter Try.func53, Try.ntmps53
  go_wp2_with (first | (go_at_call 38; ((with_reducible refine (c_l00In _ _ _ _).mono ?_); rintro e w1 ⟨rfl, rfl⟩)) | (go_at_call 65; ((with_reducible refine (c_l06Nine _ _).mono ?_); rintro e w1 ⟨rfl, rfl⟩)))
  all_goals go_ret
  all_goals simp_all [okCloth]


theorem c_iValidCloth (a b c d e : Int) (w : World) (ha : -32768 ≤ a ∧ a ≤ 32767) (hb : -32768 ≤ b ∧ b ≤ 32767) :
    Calls Try.prog 19 #[.agg #[.int .i16 a, .int .i16 b, .int .i8 c, .int .i8 d, .int .i8 e]] w fun r w' => r = .returned (.bool (okCloth a b c d e)) ∧ Below w.heap.size w w' := by
  obtain ⟨ha0, ha1⟩ := ha
  obtain ⟨hb0, hb1⟩ := hb
  go_enter Try.func19, Try.ntmps19
  go_wp2_with (first | (go_at_call 34; ((with_reducible refine (c_within _ _ _ _).mono ?_); rintro e w1 ⟨rfl, rfl⟩)) | (go_at_call 52; ((with_reducible refine (c_isDegree _ _).mono ?_); rintro e w1 ⟨rfl, rfl⟩)))
  all_goals go_ret
  all_goals exact ⟨by simp_all [okCloth], by (repeat (first | with_reducible exact Below.refl _ _ | with_reducible refine below_alloc ?_ _ | with_reducible refine below_drew ?_ | with_reducible refine below_drewN ?_ _ | with_reducible refine below_then ?_ (by assumption)))⟩

end Go.Proofs.Ytdmcemhckalhkaa
