/- FirstFit and BestFit: the program's and the reference's answers. -/
import Derived.Test.YtfdljhepfoppaaaFitImpl
namespace Go.Proofs.Ytfdljhepfoppaaa
open Go.RowKit
set_option linter.unusedVariables false
set_option linter.unusedSimpArgs false
set_option maxRecDepth 100000

set_option maxHeartbeats 1000000 in
theorem c_sFirstFit (A B : Option Addr) (nl no c c1 : Nat) (s g so go : Nat → Int) (w : World) (hL : LotsAt w A nl s g) (hO : LotsAt w B no so go) (hnl : nl ≤ 1048576) (hno : no ≤ 1048576)
    (hg : ∀ j, j < nl → -32768 ≤ g j ∧ g j ≤ 32767) (hgo : ∀ j, j < no → -32768 ≤ go j ∧ go j ≤ 32767) :
    Calls Try.prog 9 #[.slice A nl c, .slice B no c1] w fun e w' => ∃ v, e = .returned (.tuple #[v, .int .i64 (fitF false nl no s g so go).2]) ∧ w'.ownsRow w.heap.size 2 1 v (fitF false nl no s g so go).1.length (nums .i64 (fitF false nl no s g so go).1) ∧ Below w.heap.size w w' := by
  have c0 := c_l07Lots A nl c s g w hL hnl hg
  have d0 := c_l07Orders B no c1 so go w hO hno hgo
  have E1 : (allB nl (fun j => shade (s j) && inB (g j) 0 5000) && decide (nl ≤ 6)) = lotsOk nl s g := rfl
  have E2 : (allB no (fun j => shade (so j) && inB (go j) 1 5000) && decide (no ≤ 7)) = ordersOk no so go := rfl
  rw [E1] at c0
  rw [E2] at d0
  clear E1 E2
  have HE := Lib.hid (own_empty (base := w.heap.size) (e := 2) (size := 1) (heap_alloc_new w (.cells #[] 2 (0, 0))) (Nat.le_refl _))
  cases q1 : lotsOk nl s g
  · have E : Hid (fitF false nl no s g so go = ([], 1)) := by rw [Hid, fitF, q1]; rfl
    rw [q1] at c0
    have C0 := Lib.hid c0
    clear c0 d0 hL hO hg hgo q1
    go_enter Try.func9, Try.ntmps9
    go_wp2_with (go_at_call 31; ((with_reducible refine C0.out.mono ?_); rintro e w1 ⟨rfl, rfl⟩))
    exact bodyPost_ret (v := .tuple #[.slice (some ⟨w.heap.size, 0, none⟩) 0 0, .int .i64 1]) (by simp [results, Try.results9, go_sem]) rfl ⟨_, by rw [E.out], by rw [E.out]; exact HE.out, by (repeat (first | with_reducible exact Below.refl _ _ | with_reducible refine below_alloc ?_ _ | with_reducible refine below_drew ?_ | with_reducible refine below_drewN ?_ _ | with_reducible refine below_then ?_ (by assumption)))⟩
  · rw [q1] at c0
    have C0 := Lib.hid c0
    cases q2 : ordersOk no so go
    · have E : Hid (fitF false nl no s g so go = ([], 1)) := by rw [Hid, fitF, q1, q2]; rfl
      rw [q2] at d0
      have D0 := Lib.hid d0
      clear c0 d0 hL hO hg hgo q1 q2
      go_enter Try.func9, Try.ntmps9
      go_wp2_with (first
        | (go_at_call 31; ((with_reducible refine C0.out.mono ?_); rintro e w1 ⟨rfl, rfl⟩))
        | (go_at_call 32; ((with_reducible refine D0.out.mono ?_); rintro e w1 ⟨rfl, rfl⟩)))
      exact bodyPost_ret (v := .tuple #[.slice (some ⟨w.heap.size, 0, none⟩) 0 0, .int .i64 1]) (by simp [results, Try.results9, go_sem]) rfl ⟨_, by rw [E.out], by rw [E.out]; exact HE.out, by (repeat (first | with_reducible exact Below.refl _ _ | with_reducible refine below_alloc ?_ _ | with_reducible refine below_drew ?_ | with_reducible refine below_drewN ?_ _ | with_reducible refine below_then ?_ (by assumption)))⟩
    · rw [q2] at d0
      have D0 := Lib.hid d0
      obtain ⟨h6, hg'⟩ := lotsOk_bd q1
      obtain ⟨h7, hgo'⟩ := ordersOk_bd q2
      have E : Hid (fitF false nl no s g so go = ((List.range no).map (fitA (leastB false) nl s g so go), 0)) := by rw [Hid, fitF, q1, q2]; rfl
      have CL := Lib.hid (c_l07Fit A B nl no c c1 s g so go false w hL hO h6 h7 hg' hgo')
      clear c0 d0 hL hO hg hgo q1 q2 hg' hgo'
      go_enter Try.func9, Try.ntmps9
      go_wp2_with (first
        | (go_at_call 31; ((with_reducible refine C0.out.mono ?_); rintro e w1 ⟨rfl, rfl⟩))
        | (go_at_call 32; ((with_reducible refine D0.out.mono ?_); rintro e w1 ⟨rfl, rfl⟩))
        | (go_at_call 33; ((with_reducible refine CL.out.mono ?_); rintro e w1 ⟨v, rfl, hO, hb⟩)))
      exact bodyPost_ret (v := .tuple #[v, .int .i64 0]) (by simp [results, Try.results9, go_sem]) rfl ⟨_, by rw [E.out], by rw [E.out]; simpa using hO, hb⟩
theorem c_iFirstFit (A B : Option Addr) (nl no c c1 : Nat) (s g so go : Nat → Int) (w : World) (hL : LotsAt w A nl s g) (hO : LotsAt w B no so go) (hnl : nl ≤ 1048576) (hno : no ≤ 1048576)
    (hg : ∀ j, j < nl → -32768 ≤ g j ∧ g j ≤ 32767) (hgo : ∀ j, j < no → -32768 ≤ go j ∧ go j ≤ 32767) :
    Calls Try.prog 8 #[.slice A nl c, .slice B no c1] w fun e w' => ∃ v, e = .returned (.tuple #[v, .int .i64 (fitF false nl no s g so go).2]) ∧ w'.ownsRow w.heap.size 2 1 v (fitF false nl no s g so go).1.length (nums .i64 (fitF false nl no s g so go).1) ∧ Below w.heap.size w w' := by
  have he : ∀ args w, (callFunc 30 args).run Try.prog w = .ok (.enter 30 args) w := enters_of Try.func30 (by kernel_rfl) rfl
  have CF := Lib.hid (c_fit 30 he false c_first1 A B nl no c c1 s g so go w hL hO hnl hno hg hgo)
  clear he hL hO hg hgo
  go_enter Try.func8, Try.ntmps8
  go_wp2_with (go_at_call 29; ((with_reducible refine CF.out.mono ?_); rintro e w1 ⟨v, rfl, hO, hb⟩))
  exact bodyPost_ret (v := .tuple #[v, .int .i64 (fitF false nl no s g so go).2]) (by simp [results, Try.results8, go_sem]) rfl ⟨_, rfl, hO, hb⟩

set_option maxHeartbeats 1000000 in
theorem c_sBestFit (A B : Option Addr) (nl no c c1 : Nat) (s g so go : Nat → Int) (w : World) (hL : LotsAt w A nl s g) (hO : LotsAt w B no so go) (hnl : nl ≤ 1048576) (hno : no ≤ 1048576)
    (hg : ∀ j, j < nl → -32768 ≤ g j ∧ g j ≤ 32767) (hgo : ∀ j, j < no → -32768 ≤ go j ∧ go j ≤ 32767) :
    Calls Try.prog 11 #[.slice A nl c, .slice B no c1] w fun e w' => ∃ v, e = .returned (.tuple #[v, .int .i64 (fitF true nl no s g so go).2]) ∧ w'.ownsRow w.heap.size 2 1 v (fitF true nl no s g so go).1.length (nums .i64 (fitF true nl no s g so go).1) ∧ Below w.heap.size w w' := by
  have c0 := c_l07Lots A nl c s g w hL hnl hg
  have d0 := c_l07Orders B no c1 so go w hO hno hgo
  have E1 : (allB nl (fun j => shade (s j) && inB (g j) 0 5000) && decide (nl ≤ 6)) = lotsOk nl s g := rfl
  have E2 : (allB no (fun j => shade (so j) && inB (go j) 1 5000) && decide (no ≤ 7)) = ordersOk no so go := rfl
  rw [E1] at c0
  rw [E2] at d0
  clear E1 E2
  have HE := Lib.hid (own_empty (base := w.heap.size) (e := 2) (size := 1) (heap_alloc_new w (.cells #[] 2 (0, 0))) (Nat.le_refl _))
  cases q1 : lotsOk nl s g
  · have E : Hid (fitF true nl no s g so go = ([], 1)) := by rw [Hid, fitF, q1]; rfl
    rw [q1] at c0
    have C0 := Lib.hid c0
    clear c0 d0 hL hO hg hgo q1
    go_enter Try.func11, Try.ntmps11
    go_wp2_with (go_at_call 31; ((with_reducible refine C0.out.mono ?_); rintro e w1 ⟨rfl, rfl⟩))
    exact bodyPost_ret (v := .tuple #[.slice (some ⟨w.heap.size, 0, none⟩) 0 0, .int .i64 1]) (by simp [results, Try.results11, go_sem]) rfl ⟨_, by rw [E.out], by rw [E.out]; exact HE.out, by (repeat (first | with_reducible exact Below.refl _ _ | with_reducible refine below_alloc ?_ _ | with_reducible refine below_drew ?_ | with_reducible refine below_drewN ?_ _ | with_reducible refine below_then ?_ (by assumption)))⟩
  · rw [q1] at c0
    have C0 := Lib.hid c0
    cases q2 : ordersOk no so go
    · have E : Hid (fitF true nl no s g so go = ([], 1)) := by rw [Hid, fitF, q1, q2]; rfl
      rw [q2] at d0
      have D0 := Lib.hid d0
      clear c0 d0 hL hO hg hgo q1 q2
      go_enter Try.func11, Try.ntmps11
      go_wp2_with (first
        | (go_at_call 31; ((with_reducible refine C0.out.mono ?_); rintro e w1 ⟨rfl, rfl⟩))
        | (go_at_call 32; ((with_reducible refine D0.out.mono ?_); rintro e w1 ⟨rfl, rfl⟩)))
      exact bodyPost_ret (v := .tuple #[.slice (some ⟨w.heap.size, 0, none⟩) 0 0, .int .i64 1]) (by simp [results, Try.results11, go_sem]) rfl ⟨_, by rw [E.out], by rw [E.out]; exact HE.out, by (repeat (first | with_reducible exact Below.refl _ _ | with_reducible refine below_alloc ?_ _ | with_reducible refine below_drew ?_ | with_reducible refine below_drewN ?_ _ | with_reducible refine below_then ?_ (by assumption)))⟩
    · rw [q2] at d0
      have D0 := Lib.hid d0
      obtain ⟨h6, hg'⟩ := lotsOk_bd q1
      obtain ⟨h7, hgo'⟩ := ordersOk_bd q2
      have E : Hid (fitF true nl no s g so go = ((List.range no).map (fitA (leastB true) nl s g so go), 0)) := by rw [Hid, fitF, q1, q2]; rfl
      have CL := Lib.hid (c_l07Fit A B nl no c c1 s g so go true w hL hO h6 h7 hg' hgo')
      clear c0 d0 hL hO hg hgo q1 q2 hg' hgo'
      go_enter Try.func11, Try.ntmps11
      go_wp2_with (first
        | (go_at_call 31; ((with_reducible refine C0.out.mono ?_); rintro e w1 ⟨rfl, rfl⟩))
        | (go_at_call 32; ((with_reducible refine D0.out.mono ?_); rintro e w1 ⟨rfl, rfl⟩))
        | (go_at_call 33; ((with_reducible refine CL.out.mono ?_); rintro e w1 ⟨v, rfl, hO, hb⟩)))
      exact bodyPost_ret (v := .tuple #[v, .int .i64 0]) (by simp [results, Try.results11, go_sem]) rfl ⟨_, by rw [E.out], by rw [E.out]; simpa using hO, hb⟩
theorem c_iBestFit (A B : Option Addr) (nl no c c1 : Nat) (s g so go : Nat → Int) (w : World) (hL : LotsAt w A nl s g) (hO : LotsAt w B no so go) (hnl : nl ≤ 1048576) (hno : no ≤ 1048576)
    (hg : ∀ j, j < nl → -32768 ≤ g j ∧ g j ≤ 32767) (hgo : ∀ j, j < no → -32768 ≤ go j ∧ go j ≤ 32767) :
    Calls Try.prog 10 #[.slice A nl c, .slice B no c1] w fun e w' => ∃ v, e = .returned (.tuple #[v, .int .i64 (fitF true nl no s g so go).2]) ∧ w'.ownsRow w.heap.size 2 1 v (fitF true nl no s g so go).1.length (nums .i64 (fitF true nl no s g so go).1) ∧ Below w.heap.size w w' := by
  have he : ∀ args w, (callFunc 34 args).run Try.prog w = .ok (.enter 34 args) w := enters_of Try.func34 (by kernel_rfl) rfl
  have CF := Lib.hid (c_fit 34 he true c_best1 A B nl no c c1 s g so go w hL hO hnl hno hg hgo)
  clear he hL hO hg hgo
  go_enter Try.func10, Try.ntmps10
  go_wp2_with (go_at_call 29; ((with_reducible refine CF.out.mono ?_); rintro e w1 ⟨v, rfl, hO, hb⟩))
  exact bodyPost_ret (v := .tuple #[v, .int .i64 (fitF true nl no s g so go).2]) (by simp [results, Try.results10, go_sem]) rfl ⟨_, rfl, hO, hb⟩
end Go.Proofs.Ytfdljhepfoppaaa
