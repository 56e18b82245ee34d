/- The plan that wastes the least: the reference's function. -/
import Derived.Test.YtfdljhepfoppaaaFewSpec
import Derived.Test.YtfdljhepfoppaaaWasteImpl
namespace Go.Proofs.Ytfdljhepfoppaaa
open Go.RowKit
set_option linter.unusedVariables false
set_option linter.unusedSimpArgs false
set_option maxRecDepth 100000

set_option maxHeartbeats 2000000 in
theorem c_sLeastWaste (A B : Option Addr) (nl no c c1 : Nat) (keep : Int) (s g so go : Nat → Int) (w : World) (hL : LotsAt w A nl s g) (hO : LotsAt w B no so go) (hnl : nl ≤ 1048576) (hno : no ≤ 1048576)
    (hg : ∀ j, j < nl → -32768 ≤ g j ∧ g j ≤ 32767) (hgo : ∀ j, j < no → -32768 ≤ go j ∧ go j ≤ 32767) :
    Calls Try.prog 17 #[.slice A nl c, .slice B no c1, .int .i64 keep] w fun e w' => ∃ v, e = .returned (.tuple #[v, .int .i64 (wasteR keep nl no s g so go).2.1, .int .i64 (wasteR keep nl no s g so go).2.2]) ∧ w'.ownsRow w.heap.size 2 1 v (wasteR keep nl no s g so go).1.length (nums .i64 (wasteR keep nl no s g so go).1) ∧ Below w.heap.size w w' := by
  have c0 : Calls Try.prog 31 #[.slice A nl c] w fun e w' => e = .returned (.bool (lotsOk nl s g)) ∧ w = w' := c_l07Lots A nl c s g w hL hnl hg
  have d0 : Calls Try.prog 32 #[.slice B no c1] w fun e w' => e = .returned (.bool (ordersOk no so go)) ∧ w = w' := c_l07Orders B no c1 so go w hO hno hgo
  have hE := heap_alloc_new w (.cells #[] 2 (0, 0))
  have HE := Lib.hid hE
  clear hE
  cases q1 : lotsOk nl s g
  · have E : Hid (wasteR keep nl no s g so go = ([], 0, 1)) := by rw [Hid, wasteR, q1]; rfl
    rw [q1] at c0
    have C0 := Lib.hid c0
    clear c0 d0 hL hO hg hgo q1
    go_enter Try.func17, Try.ntmps17
    go_wp2_with (go_at_call 31; ((with_reducible refine C0.out.mono ?_); rintro e w1 ⟨rfl, rfl⟩))
    exact bodyPost_ret (v := .tuple #[.slice (some ⟨w.heap.size, 0, none⟩) 0 0, .int .i64 0, .int .i64 1]) (by simp [results, Try.results17, go_sem]) rfl ⟨_, by rw [E.out], by rw [E.out]; exact own_empty HE.out (Nat.le_refl _), by (repeat (first | with_reducible exact Below.refl _ _ | with_reducible refine below_alloc ?_ _ | with_reducible refine below_drew ?_ | with_reducible refine below_drewN ?_ _ | with_reducible refine below_then ?_ (by assumption)))⟩
  · cases q2 : ordersOk no so go
    · have E : Hid (wasteR keep nl no s g so go = ([], 0, 1)) := by rw [Hid, wasteR, q1, q2]; rfl
      rw [q1] at c0
      rw [q2] at d0
      have C0 := Lib.hid c0
      have D0 := Lib.hid d0
      clear c0 d0 hL hO hg hgo q1 q2
      go_enter Try.func17, Try.ntmps17
      go_wp2_with (first
        | (go_at_call 31; ((with_reducible refine C0.out.mono ?_); rintro e w1 ⟨rfl, rfl⟩))
        | (go_at_call 32; ((with_reducible refine D0.out.mono ?_); rintro e w1 ⟨rfl, rfl⟩)))
      exact bodyPost_ret (v := .tuple #[.slice (some ⟨w.heap.size, 0, none⟩) 0 0, .int .i64 0, .int .i64 1]) (by simp [results, Try.results17, go_sem]) rfl ⟨_, by rw [E.out], by rw [E.out]; exact own_empty HE.out (Nat.le_refl _), by (repeat (first | with_reducible exact Below.refl _ _ | with_reducible refine below_alloc ?_ _ | with_reducible refine below_drew ?_ | with_reducible refine below_drewN ?_ _ | with_reducible refine below_then ?_ (by assumption)))⟩
    · rw [q1] at c0
      rw [q2] at d0
      have C0 := Lib.hid c0
      have D0 := Lib.hid d0
      obtain ⟨h6, hg'⟩ := lotsOk_bd q1
      obtain ⟨h7, hgo'⟩ := ordersOk_bd q2
      have hf : ∀ v ∈ allPlans nl no s g so go true, costF 2 keep nl v = wasteF keep nl v := fun v hv => by rw [costF, costK_two, negs_zero _ (allPlans_nn v hv)]; simp [wasteF]
      have eB : bestV (costF 2 keep nl) none (allPlans nl no s g so go true) = wasteO keep nl no s g so go := bestV_congr _ none hf (fun b hb => by cases hb)
      have eL : leastL (costF 2 keep nl) (wasteO keep nl no s g so go) = leastL (wasteF keep nl) (wasteO keep nl no s g so go) := by
        cases h : wasteO keep nl no s g so go with
        | none => rfl
        | some v => exact hf v (bestV_mem h)
      have E0 : wasteR keep nl no s g so go = if inB keep 0 5000 = true then (if (wasteO keep nl no s g so go).isSome = true then (bestL (wasteO keep nl no s g so go), leastL (wasteF keep nl) (wasteO keep nl no s g so go), 0) else ([], 0, 6)) else ([], 0, 2) := by rw [wasteR, q1, q2]; rfl
      cases q4 : inB keep 0 5000
      · have E : Hid (wasteR keep nl no s g so go = ([], 0, 2)) := by rw [Hid, E0, q4]; rfl
        have C1 := fun w => Lib.hid (q4 ▸ c_l00In keep 0 5000 w)
        clear c0 d0 hL hO hg hgo q1 q2 hg' hgo' eB eL hf E0 q4
        go_enter Try.func17, Try.ntmps17
        go_wp2_with (first
          | (go_at_call 31; ((with_reducible refine C0.out.mono ?_); rintro e w1 ⟨rfl, rfl⟩))
          | (go_at_call 32; ((with_reducible refine D0.out.mono ?_); rintro e w1 ⟨rfl, rfl⟩))
          | (go_at_call 45; ((with_reducible refine (C1 _).out.mono ?_); rintro e w3 ⟨rfl, rfl⟩)))
        exact bodyPost_ret (v := .tuple #[.slice (some ⟨w.heap.size, 0, none⟩) 0 0, .int .i64 0, .int .i64 2]) (by simp [results, Try.results17, go_sem]) rfl ⟨_, by rw [E.out], by rw [E.out]; exact own_empty HE.out (Nat.le_refl _), by (repeat (first | with_reducible exact Below.refl _ _ | with_reducible refine below_alloc ?_ _ | with_reducible refine below_drew ?_ | with_reducible refine below_drewN ?_ _ | with_reducible refine below_then ?_ (by assumption)))⟩
      rw [q4, if_pos rfl] at E0
      have C1 := fun w => Lib.hid (q4 ▸ c_l00In keep 0 5000 w)
      have cb := c_l07Best A B nl no c c1 2 keep s g so go w (.inr (.inr rfl)) hL hO h6 h7 hg' hgo'
      simp only [show (!((2 : Nat) == 0)) = true from rfl, eB, eL] at cb
      change Calls _ _ _ _ (fun e w' => ∃ vb, e = .returned (.tuple #[vb, .int .i64 (leastL (wasteF keep nl) (wasteO keep nl no s g so go)), .bool (wasteO keep nl no s g so go).isSome]) ∧ w'.ownsRow w.heap.size 2 1 vb (bestL (wasteO keep nl no s g so go)).length (nums .i64 (bestL (wasteO keep nl no s g so go))) ∧ Below w.heap.size w w') at cb
      clear eB eL hf
      generalize wasteO keep nl no s g so go = oo at *
      have CB := Lib.hid cb
      clear c0 d0 hL hO hg hgo q1 q2 hg' hgo' cb q4
      cases q3 : oo.isSome
      · have E : Hid (wasteR keep nl no s g so go = ([], 0, 6)) := by rw [Hid, E0, q3]; rfl
        clear E0
        go_enter Try.func17, Try.ntmps17
        go_wp2_with (first
          | (go_at_call 31; ((with_reducible refine C0.out.mono ?_); rintro e w1 ⟨rfl, rfl⟩))
          | (go_at_call 32; ((with_reducible refine D0.out.mono ?_); rintro e w1 ⟨rfl, rfl⟩))
          | (go_at_call 45; ((with_reducible refine (C1 _).out.mono ?_); rintro e w3 ⟨rfl, rfl⟩))
          | (go_at_call 39; ((refine CB.out.mono ?_); rintro e w2 ⟨vb, rfl, hO2, hb2⟩; have HB2 := Lib.hid hb2; clear hO2 hb2; rw [q3])))
        have hE2 := heap_alloc_new w2 (.cells #[] 2 (0, 0))
        exact bodyPost_ret (v := .tuple #[.slice (some ⟨w2.heap.size, 0, none⟩) 0 0, .int .i64 0, .int .i64 6]) (by simp [results, Try.results17, go_sem]) rfl ⟨_, by rw [E.out], by rw [E.out]; exact own_empty hE2 HB2.out.size, below_alloc HB2.out _⟩
      · have E : Hid (wasteR keep nl no s g so go = (bestL oo, leastL (wasteF keep nl) oo, 0)) := by rw [Hid, E0, q3]; rfl
        clear E0
        go_enter Try.func17, Try.ntmps17
        go_wp2_with (first
          | (go_at_call 31; ((with_reducible refine C0.out.mono ?_); rintro e w1 ⟨rfl, rfl⟩))
          | (go_at_call 32; ((with_reducible refine D0.out.mono ?_); rintro e w1 ⟨rfl, rfl⟩))
          | (go_at_call 45; ((with_reducible refine (C1 _).out.mono ?_); rintro e w3 ⟨rfl, rfl⟩))
          | (go_at_call 39; ((refine CB.out.mono ?_); rintro e w2 ⟨vb, rfl, hO2, hb2⟩; have HO2 := Lib.hid hO2; have HB2 := Lib.hid hb2; clear hO2 hb2; rw [q3])))
        exact bodyPost_ret (v := .tuple #[vb, .int .i64 (leastL (wasteF keep nl) oo), .int .i64 0]) (by simp [results, Try.results17, go_sem]) rfl ⟨_, by rw [E.out], by rw [E.out]; exact HO2.out, HB2.out⟩
end Go.Proofs.Ytfdljhepfoppaaa
