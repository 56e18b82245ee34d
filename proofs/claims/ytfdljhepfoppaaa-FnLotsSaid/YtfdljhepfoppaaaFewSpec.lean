/- The plan that opens the fewest lots: the reference's function. -/
import Derived.Test.YtfdljhepfoppaaaPlanSpec
import Derived.Test.YtfdljhepfoppaaaFewImpl
namespace Go.Proofs.Ytfdljhepfoppaaa
open Go.RowKit
set_option linter.unusedVariables false
set_option linter.unusedSimpArgs false
set_option maxRecDepth 100000

theorem lessO_congr {f h : Visit → Int} {o : Option Visit} {v : Visit} (ho : ∀ b, o = some b → f b = h b) (hv : f v = h v) : lessO f o v = lessO h o v := by
  cases o with
  | none => rfl
  | some b => simp only [lessO, ho b rfl, hv]
theorem lessO_mem {f : Visit → Int} {o : Option Visit} {v b : Visit} (h : lessO f o v = some b) : o = some b ∨ v = b := by
  cases o with
  | none => simp [lessO] at h; exact .inr h
  | some c =>
    simp only [lessO] at h
    split at h
    · exact .inr (by simpa using h)
    · exact .inl h
theorem bestV_congr {f h : Visit → Int} : ∀ (L : List Visit) (o : Option Visit), (∀ v ∈ L, f v = h v) → (∀ b, o = some b → f b = h b) → bestV f o L = bestV h o L
  | [], o, _, _ => rfl
  | v :: L, o, hL, ho => by
    have e := lessO_congr ho (hL v (by simp))
    show bestV f (lessO f o v) L = bestV h (lessO h o v) L
    rw [e]
    refine bestV_congr L _ (fun v hv => hL v (by simp [hv])) fun b hb => ?_
    rcases lessO_mem hb with hb | hb
    · exact ho b hb
    · exact hb ▸ hL v (by simp)
theorem negs_zero : ∀ (P : List Int), (∀ z ∈ P, 0 ≤ z) → negs P = 0
  | [], _ => rfl
  | z :: P, h => by
    have h1 := negs_zero P (fun z hz => h z (by simp [hz]))
    have h2 := h z (by simp)
    simp [negs] at *
    first | omega | (split <;> omega) | simp [h1, h2]
theorem allPlans_nn {nl no : Nat} {s g so go : Nat → Int} : ∀ v ∈ allPlans nl no s g so go true, ∀ z ∈ v.1, 0 ≤ z :=
  visits_mem (P := fun i plan left => ∀ z ∈ plan, (0 : Int) ≤ z) (no := no) (fun i plan left k _ _ _ h z hz => by
    rcases List.mem_append.1 hz with hz | hz
    · exact h z hz
    · simp at hz; omega) (fun e => by cases e) no 0 [] _ (by omega) (by simp)

set_option maxHeartbeats 2000000 in
theorem c_sFewestLots (A B : Option Addr) (nl no c c1 : Nat) (s g so go : Nat → Int) (w : World) (hL : LotsAt w A nl s g) (hO : LotsAt w B no so go) (hnl : nl ≤ 1048576) (hno : no ≤ 1048576)
    (hg : ∀ j, j < nl → -32768 ≤ g j ∧ g j ≤ 32767) (hgo : ∀ j, j < no → -32768 ≤ go j ∧ go j ≤ 32767) :
    Calls Try.prog 15 #[.slice A nl c, .slice B no c1] w fun e w' => ∃ v, e = .returned (.tuple #[v, .int .i64 (fewR nl no s g so go).2.1, .int .i64 (fewR nl no s g so go).2.2]) ∧ w'.ownsRow w.heap.size 2 1 v (fewR nl no s g so go).1.length (nums .i64 (fewR nl no s g so go).1) ∧ Below w.heap.size w w' := by
  have c0 : Calls Try.prog 31 #[.slice A nl c] w fun e w' => e = .returned (.bool (lotsOk nl s g)) ∧ w = w' := c_l07Lots A nl c s g w hL hnl hg
  have d0 : Calls Try.prog 32 #[.slice B no c1] w fun e w' => e = .returned (.bool (ordersOk no so go)) ∧ w = w' := c_l07Orders B no c1 so go w hO hno hgo
  have hE := heap_alloc_new w (.cells #[] 2 (0, 0))
  have HE := Lib.hid hE
  clear hE
  cases q1 : lotsOk nl s g
  · have E : Hid (fewR nl no s g so go = ([], 0, 1)) := by rw [Hid, fewR, q1]; rfl
    rw [q1] at c0
    have C0 := Lib.hid c0
    clear c0 d0 hL hO hg hgo q1
    go_enter Try.func15, Try.ntmps15
    go_wp2_with (go_at_call 31; ((with_reducible refine C0.out.mono ?_); rintro e w1 ⟨rfl, rfl⟩))
    exact bodyPost_ret (v := .tuple #[.slice (some ⟨w.heap.size, 0, none⟩) 0 0, .int .i64 0, .int .i64 1]) (by simp [results, Try.results15, go_sem]) rfl ⟨_, by rw [E.out], by rw [E.out]; exact own_empty HE.out (Nat.le_refl _), by (repeat (first | with_reducible exact Below.refl _ _ | with_reducible refine below_alloc ?_ _ | with_reducible refine below_drew ?_ | with_reducible refine below_drewN ?_ _ | with_reducible refine below_then ?_ (by assumption)))⟩
  · cases q2 : ordersOk no so go
    · have E : Hid (fewR nl no s g so go = ([], 0, 1)) := by rw [Hid, fewR, q1, q2]; rfl
      rw [q1] at c0
      rw [q2] at d0
      have C0 := Lib.hid c0
      have D0 := Lib.hid d0
      clear c0 d0 hL hO hg hgo q1 q2
      go_enter Try.func15, Try.ntmps15
      go_wp2_with (first
        | (go_at_call 31; ((with_reducible refine C0.out.mono ?_); rintro e w1 ⟨rfl, rfl⟩))
        | (go_at_call 32; ((with_reducible refine D0.out.mono ?_); rintro e w1 ⟨rfl, rfl⟩)))
      exact bodyPost_ret (v := .tuple #[.slice (some ⟨w.heap.size, 0, none⟩) 0 0, .int .i64 0, .int .i64 1]) (by simp [results, Try.results15, go_sem]) rfl ⟨_, by rw [E.out], by rw [E.out]; exact own_empty HE.out (Nat.le_refl _), by (repeat (first | with_reducible exact Below.refl _ _ | with_reducible refine below_alloc ?_ _ | with_reducible refine below_drew ?_ | with_reducible refine below_drewN ?_ _ | with_reducible refine below_then ?_ (by assumption)))⟩
    · rw [q1] at c0
      rw [q2] at d0
      have C0 := Lib.hid c0
      have D0 := Lib.hid d0
      obtain ⟨h6, hg'⟩ := lotsOk_bd q1
      obtain ⟨h7, hgo'⟩ := ordersOk_bd q2
      have hf : ∀ v ∈ allPlans nl no s g so go true, costF 1 0 nl v = fewF nl v := fun v hv => by rw [costF, costK_one, negs_zero _ (allPlans_nn v hv)]; simp [fewF]
      have eB : bestV (costF 1 0 nl) none (allPlans nl no s g so go true) = fewO nl no s g so go := bestV_congr _ none hf (fun b hb => by cases hb)
      have eL : leastL (costF 1 0 nl) (fewO nl no s g so go) = leastL (fewF nl) (fewO nl no s g so go) := by
        cases h : fewO nl no s g so go with
        | none => rfl
        | some v => exact hf v (bestV_mem h)
      have E0 : fewR nl no s g so go = if (fewO nl no s g so go).isSome = true then (bestL (fewO nl no s g so go), leastL (fewF nl) (fewO nl no s g so go), 0) else ([], 0, 6) := by rw [fewR, q1, q2]; rfl
      have cb := c_l07Best A B nl no c c1 1 0 s g so go w (.inr (.inl rfl)) hL hO h6 h7 hg' hgo'
      simp only [show (!((1 : Nat) == 0)) = true from rfl, eB, eL] at cb
      change Calls _ _ _ _ (fun e w' => ∃ vb, e = .returned (.tuple #[vb, .int .i64 (leastL (fewF nl) (fewO nl no s g so go)), .bool (fewO nl no s g so go).isSome]) ∧ w'.ownsRow w.heap.size 2 1 vb (bestL (fewO nl no s g so go)).length (nums .i64 (bestL (fewO nl no s g so go))) ∧ Below w.heap.size w w') at cb
      clear eB eL hf
      generalize fewO nl no s g so go = oo at *
      have CB := Lib.hid cb
      clear c0 d0 hL hO hg hgo q1 q2 hg' hgo' cb
      cases q3 : oo.isSome
      · have E : Hid (fewR nl no s g so go = ([], 0, 6)) := by rw [Hid, E0, q3]; rfl
        clear E0
        go_enter Try.func15, Try.ntmps15
        go_wp2_with (first
          | (go_at_call 31; ((with_reducible refine C0.out.mono ?_); rintro e w1 ⟨rfl, rfl⟩))
          | (go_at_call 32; ((with_reducible refine D0.out.mono ?_); rintro e w1 ⟨rfl, rfl⟩))
          | (go_at_call 39; ((refine CB.out.mono ?_); rintro e w2 ⟨vb, rfl, hO2, hb2⟩; have HB2 := Lib.hid hb2; clear hO2 hb2; rw [q3])))
        have hE2 := heap_alloc_new w2 (.cells #[] 2 (0, 0))
        exact bodyPost_ret (v := .tuple #[.slice (some ⟨w2.heap.size, 0, none⟩) 0 0, .int .i64 0, .int .i64 6]) (by simp [results, Try.results15, go_sem]) rfl ⟨_, by rw [E.out], by rw [E.out]; exact own_empty hE2 HB2.out.size, below_alloc HB2.out _⟩
      · have E : Hid (fewR nl no s g so go = (bestL oo, leastL (fewF nl) oo, 0)) := by rw [Hid, E0, q3]; rfl
        clear E0
        go_enter Try.func15, Try.ntmps15
        go_wp2_with (first
          | (go_at_call 31; ((with_reducible refine C0.out.mono ?_); rintro e w1 ⟨rfl, rfl⟩))
          | (go_at_call 32; ((with_reducible refine D0.out.mono ?_); rintro e w1 ⟨rfl, rfl⟩))
          | (go_at_call 39; ((refine CB.out.mono ?_); rintro e w2 ⟨vb, rfl, hO2, hb2⟩; have HO2 := Lib.hid hO2; have HB2 := Lib.hid hb2; clear hO2 hb2; rw [q3])))
        exact bodyPost_ret (v := .tuple #[vb, .int .i64 (leastL (fewF nl) oo), .int .i64 0]) (by simp [results, Try.results15, go_sem]) rfl ⟨_, by rw [E.out], by rw [E.out]; exact HO2.out, HB2.out⟩
end Go.Proofs.Ytfdljhepfoppaaa
