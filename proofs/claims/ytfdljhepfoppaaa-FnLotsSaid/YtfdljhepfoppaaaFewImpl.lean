/- The plan that opens the fewest lots: the program's function. -/
import Derived.Test.YtfdljhepfoppaaaFewOpen
namespace Go.Proofs.Ytfdljhepfoppaaa
open Go.RowKit
set_option linter.unusedVariables false
set_option linter.unusedSimpArgs false
set_option maxRecDepth 100000

def fewO (nl no : Nat) (s g so go : Nat → Int) : Option Visit := bestV (fewF nl) none (allPlans nl no s g so go true)
/-- What FewestLots hands back. -/
def fewR (nl no : Nat) (s g so go : Nat → Int) : List Int × Int × Int :=
  if (lotsOk nl s g && ordersOk no so go) = true then (if (fewO nl no s g so go).isSome = true then (bestL (fewO nl no s g so go), leastL (fewF nl) (fewO nl no s g so go), 0) else ([], 0, 6)) else ([], 0, 1)
theorem fewR_le (nl no : Nat) (s g so go : Nat → Int) : (fewR nl no s g so go).1.length ≤ no := by
  unfold fewR
  split
  · split
    · exact best_len
    · exact Nat.zero_le _
  · exact Nat.zero_le _
set_option maxHeartbeats 2000000 in
theorem c_iFewestLots (A B : Option Addr) (nl no c c1 : Nat) (s g so go : Nat → Int) (w : World) (hL : LotsAt w A nl s g) (hO : LotsAt w B no so go) (hnl : nl ≤ 1048576) (hno : no ≤ 1048576)
    (hg : ∀ j, j < nl → -32768 ≤ g j ∧ g j ≤ 32767) (hgo : ∀ j, j < no → -32768 ≤ go j ∧ go j ≤ 32767) :
    Calls Try.prog 14 #[.slice A nl c, .slice B no c1] w fun e w' => ∃ v, e = .returned (.tuple #[v, .int .i64 (fewR nl no s g so go).2.1, .int .i64 (fewR nl no s g so go).2.2]) ∧ w'.ownsRow w.heap.size 2 1 v (fewR nl no s g so go).1.length (nums .i64 (fewR nl no s g so go).1) ∧ Below w.heap.size w w' := by
  have c0 := c_areValid A B nl no c c1 s g so go w hL hO hnl hno hg hgo
  have he : ∀ args w, (callFunc 40 args).run Try.prog w = .ok (.enter 40 args) w := enters_of Try.func40 (by kernel_rfl) rfl
  cases q1 : (lotsOk nl s g && ordersOk no so go)
  · have E : Hid (fewR nl no s g so go = ([], 0, 1)) := by rw [Hid, fewR, q1]; rfl
    rw [q1] at c0
    have C0 := Lib.hid c0
    clear c0 hL hO hg hgo q1 he
    go_enter Try.func14, Try.ntmps14
    go_wp2_with (go_at_call 35; ((with_reducible refine C0.out.mono ?_); rintro e w1 ⟨rfl, hb⟩))
    exact bodyPost_ret (v := .tuple #[.slice none 0 0, .int .i64 0, .int .i64 1]) (by simp [results, Try.results14, go_sem]) rfl ⟨_, by rw [E.out], by rw [E.out]; exact own_nil _ _ _ _, hb⟩
  · rw [q1] at c0
    have C0 := Lib.hid c0
    have q12 : lotsOk nl s g = true ∧ ordersOk no so go = true := by simpa only [Bool.and_eq_true] using q1
    obtain ⟨h6, hg'⟩ := lotsOk_bd q12.1
    obtain ⟨h7, hgo'⟩ := ordersOk_bd q12.2
    have E0 : fewR nl no s g so go = if (fewO nl no s g so go).isSome = true then (bestL (fewO nl no s g so go), leastL (fewF nl) (fewO nl no s g so go), 0) else ([], 0, 6) := by rw [fewR, q1]; rfl
    have CP := fun w1 (hb : Below w.heap.size w w1) => Lib.hid (c_leastPlan (fewF nl) A B nl no c c1 true s g so go 40 #[] [] w1 he (fun D P Lf o w _ h2 _ _ hP hG => c_fl1 h7 D P Lf o w h2 hP hG) (hL.below hb) (hO.below hb) h6 h7 hg' hgo' (fun p hp => by simp at hp))
    simp only [show bestV (fewF nl) none (allPlans nl no s g so go true) = fewO nl no s g so go from rfl] at CP
    have CP := Lib.hid CP
    clear c0 hL hO hg hgo q1 q12 hg' hgo' he
    generalize fewO nl no s g so go = o at *
    cases q2 : o.isSome
    · have E : Hid (fewR nl no s g so go = ([], 0, 6)) := by rw [Hid, E0, q2]; rfl
      clear E0
      go_enter Try.func14, Try.ntmps14
      go_wp2_with (first
        | (go_at_call 35; ((with_reducible refine C0.out.mono ?_); rintro e w1 ⟨rfl, hb⟩; have HB1 := Lib.hid hb; clear hb))
        | (go_at_call 36; ((refine ((CP.out _ HB1.out).out).mono ?_); rintro e w2 ⟨vb, rfl, hO2, hb2⟩; have HB2 := Lib.hid (below_then HB1.out hb2); clear hO2 hb2; rw [q2])))
      exact bodyPost_ret (v := .tuple #[.slice none 0 0, .int .i64 0, .int .i64 6]) (by simp [results, Try.results14, go_sem]) rfl ⟨_, by rw [E.out], by rw [E.out]; exact own_nil _ _ _ _, HB2.out⟩
    · have E : Hid (fewR nl no s g so go = (bestL o, leastL (fewF nl) o, 0)) := by rw [Hid, E0, q2]; rfl
      clear E0
      go_enter Try.func14, Try.ntmps14
      go_wp2_with (first
        | (go_at_call 35; ((with_reducible refine C0.out.mono ?_); rintro e w1 ⟨rfl, hb⟩; have HB1 := Lib.hid hb; clear hb))
        | (go_at_call 36; ((refine ((CP.out _ HB1.out).out).mono ?_); rintro e w2 ⟨vb, rfl, hO2, hb2⟩; have HO2 := Lib.hid (own_mono hO2 HB1.out.size); have HB2 := Lib.hid (below_then HB1.out hb2); clear hO2 hb2; rw [q2])))
      exact bodyPost_ret (v := .tuple #[vb, .int .i64 (leastL (fewF nl) o), .int .i64 0]) (by simp [results, Try.results14, go_sem]) rfl ⟨_, by rw [E.out], by rw [E.out]; exact HO2.out, HB2.out⟩
end Go.Proofs.Ytfdljhepfoppaaa
