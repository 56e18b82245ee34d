/- Moves: the implementation's test, and the law. -/
import Derived.Test.YtdcemmhfbfogdaaDoorMoveBase
import Derived.Test.YtdcemmhfbfogdaaDoorLotLaw
namespace Go.Proofs.YtdcemmhfbfogdaaDoor
open Go.RowKit
set_option linter.unusedVariables false
set_option linter.unusedSimpArgs false
set_option maxRecDepth 100000

theorem c_okMove (s t g : Int) (w : World) (hg : (-32768 ≤ g ∧ g ≤ 32767) ∧ (-128 ≤ s ∧ s ≤ 127) ∧ (-128 ≤ t ∧ t ≤ 127)) :
    Calls Tryd.prog 59 #[.agg #[.int .i8 s, .int .i8 t, .int .i16 g]] w fun e w' => e = .returned (.bool (okMove s t g)) ∧ Below w.heap.size w w' := by
  obtain ⟨⟨g0, g1⟩, ⟨s0, s1⟩, ⟨t0, t1⟩⟩ := hg
  cases q1 : mayMove s t
  · go_enter Tryd.func59, Tryd.ntmps59
    go_wp2_with (first | (go_at_call 60; ((with_reducible refine (c_iMayMove _ _ _).mono ?_); rintro e w1 ⟨rfl, rfl⟩)) | (go_at_call 61; ((with_reducible refine (c_within _ _ _ _).mono ?_); rintro e w1 ⟨rfl, rfl⟩)))
    go_ret
    exact ⟨by rw [okMove, q1]; rfl, by (repeat (first | with_reducible exact Below.refl _ _ | with_reducible refine below_alloc ?_ _ | with_reducible refine below_drew ?_ | with_reducible refine below_drewN ?_ _ | with_reducible refine below_then ?_ (by assumption)))⟩
  · go_enter Tryd.func59, Tryd.ntmps59
    go_wp2_with (first | (go_at_call 60; ((with_reducible refine (c_iMayMove _ _ _).mono ?_); rintro e w1 ⟨rfl, rfl⟩)) | (go_at_call 61; ((with_reducible refine (c_within _ _ _ _).mono ?_); rintro e w1 ⟨rfl, rfl⟩)))
    go_ret
    exact ⟨by rw [okMove, q1]; rfl, by (repeat (first | with_reducible exact Below.refl _ _ | with_reducible refine below_alloc ?_ _ | with_reducible refine below_drew ?_ | with_reducible refine below_drewN ?_ _ | with_reducible refine below_then ?_ (by assumption)))⟩
theorem c_areAllMove1 (s t g : Int) (b : Nat) (w : World) (hg : (-32768 ≤ g ∧ g ≤ 32767) ∧ (-128 ≤ s ∧ s ≤ 127) ∧ (-128 ≤ t ∧ t ≤ 127)) (hc : w.cell? ⟨b, 0, none⟩ = some (.func (.func 59) #[] #[])) (hb : b < w.heap.size) :
    Calls Tryd.prog 77 #[.agg #[.int .i8 s, .int .i8 t, .int .i16 g], .pointer (some ⟨b, 0, none⟩)] w fun e w' => e = .returned (.bool (!okMove s t g)) ∧ Below w.heap.size w w' := by
  have he : ∀ args w, (callFunc 59 args).run Tryd.prog w = .ok (.enter 59 args) w := enters_of Tryd.func59 (by kernel_rfl) rfl
  have hne : ¬ b = w.heap.size := by omega
  go_enter Tryd.func77, Tryd.ntmps77
  go_wp2_with (go_at_call 59; ((with_reducible refine (c_okMove _ _ _ _ hg).mono ?_); rintro e w1 ⟨rfl, hb⟩))
  go_ret
  exact ⟨rfl, by (repeat (first | with_reducible exact Below.refl _ _ | with_reducible refine below_alloc ?_ _ | with_reducible refine below_drew ?_ | with_reducible refine below_drewN ?_ _ | with_reducible refine below_then ?_ (by assumption)))⟩
theorem c_areAllMove (A : Option Addr) (n c : Nat) (s t g : Nat → Int) (w : World) (h : MovesAt w A n s t g) (hn : n ≤ 1048576) (hg : ∀ j, j < n → (-32768 ≤ g j ∧ g j ≤ 32767) ∧ (-128 ≤ s j ∧ s j ≤ 127) ∧ (-128 ≤ t j ∧ t j ≤ 127)) :
    Calls Tryd.prog 58 #[.slice A n c, .func (.func 59) #[] #[]] w fun e w' => e = .returned (.bool (allB n fun j => okMove (s j) (t j) (g j))) ∧ Below w.heap.size w w' := by
  have he : ∀ args w, (callFunc 77 args).run Tryd.prog w = .ok (.enter 77 args) w := enters_of Tryd.func77 (by kernel_rfl) rfl
  have hcell := cell_of_row _ w.heap.size 0 _ _ _ (heap_alloc_new w (.cells #[.func (.func 59) #[] #[]] 66 (0, 0)))
  have hI := c_indexMove 77 #[.pointer (some ⟨w.heap.size, 0, none⟩)] he (fun j => !okMove (s j) (t j) (g j)) A n c s t g (w.alloc (.cells #[.func (.func 59) #[] #[]] 66 (0, 0))) (h.below (by (repeat (first | with_reducible exact Below.refl _ _ | with_reducible refine below_alloc ?_ _ | with_reducible refine below_drew ?_ | with_reducible refine below_drewN ?_ _ | with_reducible refine below_then ?_ (by assumption))))) hn
    (fun j hj w1 hb => c_areAllMove1 (s j) (t j) (g j) w.heap.size w1 (hg j hj) ((hb.cell (p := ⟨w.heap.size, 0, none⟩) (by simp)).trans hcell) (Nat.lt_of_lt_of_le (by simp) hb.size))
  have HI := Lib.hid hI
  have hB : Below w.heap.size w (w.alloc (.cells #[.func (.func 59) #[] #[]] 66 (0, 0))) := by (repeat (first | with_reducible exact Below.refl _ _ | with_reducible refine below_alloc ?_ _ | with_reducible refine below_drew ?_ | with_reducible refine below_drewN ?_ _ | with_reducible refine below_then ?_ (by assumption)))
  have HB := Lib.hid hB
  have EN := allB_not n (fun j => okMove (s j) (t j) (g j))
  have HE := Lib.hid EN
  clear hI hcell hB EN
  have HC : Hid (Calls Tryd.prog 76 #[.slice A n c, .func (.func 77) #[] #[.pointer (some ⟨w.heap.size, 0, none⟩)]] (w.alloc (.cells #[.func (.func 59) #[] #[]] 66 (0, 0))) fun e w' => e = .returned (.bool (!(allB n fun j => okMove (s j) (t j) (g j)))) ∧ Below w.heap.size w w') := by
    show Calls _ _ _ _ _
    generalize w.alloc (.cells #[.func (.func 59) #[] #[]] 66 (0, 0)) = wa at *
    go_enter Tryd.func76, Tryd.ntmps76
    go_wp2_with (go_at_call 95; ((with_reducible refine HI.out.mono ?_); rintro e w1 ⟨z, rfl, hz, hb⟩; have HZ := Lib.hid hz; clear hz))
    go_ret
    exact ⟨by rw [← HE.out, ← HZ.out]; rfl, Below.trans HB.out (hb.mono HB.out.size)⟩
  clear HI
  go_enter Tryd.func58, Tryd.ntmps58
  go_wp2_with (go_at_call 76; ((with_reducible refine HC.out.mono ?_); rintro e w1 ⟨rfl, hb⟩))
  go_ret
  exact ⟨by simp, hb⟩
theorem c_iValidMoves (A : Option Addr) (n c : Nat) (s t g : Nat → Int) (w : World) (h : MovesAt w A n s t g) (hn : n ≤ 1048576) (hg : ∀ j, j < n → (-32768 ≤ g j ∧ g j ≤ 32767) ∧ (-128 ≤ s j ∧ s j ≤ 127) ∧ (-128 ≤ t j ∧ t j ≤ 127)) :
    Calls Tryd.prog 43 #[.slice A n c] w fun e w' => e = .returned (.bool (allB n (fun j => okMove (s j) (t j) (g j)) && decide (n ≤ 60))) ∧ Below w.heap.size w w' := by
  by_cases h6 : n ≤ 60
  · have d1 : decide ((n : Int) ≤ 60) = true := by simp; omega
    have E : Hid (decide (n ≤ 60) = true) := by simp [Hid, h6]
    go_enter Tryd.func43, Tryd.ntmps43
    go_wp2_with (go_at_call 58; ((with_reducible refine (c_areAllMove A n c s t g _ h hn hg).mono ?_); rintro e w1 ⟨rfl, hb⟩))
    go_ret
    exact ⟨by first | (rw [E.out, Bool.and_true]; rfl) | (simp only [E.out, Bool.and_true]; rfl) | simp, hb⟩
  · have d1 : decide ((n : Int) ≤ 60) = false := by simp; omega
    have E : Hid (decide (n ≤ 60) = false) := by simp [Hid, h6]
    go_enter Tryd.func43, Tryd.ntmps43
    go_wp2
    go_ret
    exact ⟨by first | (rw [E.out, Bool.and_false]; rfl) | simp, by (repeat (first | with_reducible exact Below.refl _ _ | with_reducible refine below_alloc ?_ _ | with_reducible refine below_drew ?_ | with_reducible refine below_drewN ?_ _ | with_reducible refine below_then ?_ (by assumption)))⟩
theorem moves_of {W : World} {A : Option Addr} : ∀ {es : List (List Value)}, (∀ c ∈ es, IntCells [.i8, .i8, .i16] c) → ∃ zs : List (Int × Int × Int), es = zs.map (fun z => [Value.int .i8 z.1, Value.int .i8 z.2.1, Value.int .i16 z.2.2]) ∧ ∀ z ∈ zs, (-32768 ≤ z.2.2 ∧ z.2.2 ≤ 32767) ∧ (-128 ≤ z.1 ∧ z.1 ≤ 127) ∧ (-128 ≤ z.2.1 ∧ z.2.1 ≤ 127)
  | [], _ => ⟨[], rfl, by simp⟩
  | c :: es, h => by
    obtain ⟨a0, a1, a2, e, w0, w1, w2⟩ := intCells3 (h c (by simp))
    obtain ⟨zs, h1, h2⟩ := moves_of (W := W) (A := A) (es := es) (fun c hc => h c (by simp [hc]))
    refine ⟨(a0, a1, a2) :: zs, by rw [e, h1]; rfl, fun z hz => ?_⟩
    rcases List.mem_cons.1 hz with rfl | hz
    · exact ⟨wf_i16 w2, wf_i8 w0, wf_i8 w1⟩
    · exact h2 z hz
theorem movesAt_of {W : World} {A : Option Addr} {zs : List (Int × Int × Int)} (h : RdRow W A (zs.map (fun z => [Value.int .i8 z.1, Value.int .i8 z.2.1, Value.int .i16 z.2.2])).flatten) : MovesAt W A zs.length (fun j => (zs.getD j (0, 0, 0)).1) (fun j => (zs.getD j (0, 0, 0)).2.1) (fun j => (zs.getD j (0, 0, 0)).2.2) := by
  refine ⟨fun j hj => ?_⟩
  have hf := flatten_get (sz := 3) (es := zs.map (fun z => [Value.int .i8 z.1, Value.int .i8 z.2.1, Value.int .i16 z.2.2])) (by intro c hc; obtain ⟨z, _, rfl⟩ := List.mem_map.1 hc; rfl) j (by simpa using hj)
  have g0 := hf 0 (by omega)
  have g1 := hf 1 (by omega)
  have g2 := hf 2 (by omega)
  have ez : zs[j]? = some (zs[j]'hj) := by simp [hj]
  have ed : zs.getD j (0, 0, 0) = zs[j]'hj := by simp [List.getD, ez]
  simp [ez] at g0 g1 g2
  obtain ⟨ad, e, c0⟩ := h _ _ g0
  obtain ⟨ad', e', c1⟩ := h _ _ g1
  obtain ⟨ad2, e2, c2⟩ := h _ _ g2
  have hadd : ad' = ad := by rw [e] at e'; exact (Option.some.inj e').symm
  have hadd2 : ad2 = ad := by rw [e] at e2; exact (Option.some.inj e2).symm
  subst hadd
  subst hadd2
  have e1 : ∀ m, m ≠ 0 → ad2.add (j * 3 + m) = ⟨(ad2.add (j * 3)).block, (ad2.add (j * 3)).off + m, none⟩ := by
    intro m hm
    unfold Addr.add
    by_cases hj0 : j * 3 = 0
    · rw [if_pos hj0, if_neg (by omega), hj0, Nat.zero_add]
    · rw [if_neg hj0, if_neg (by omega)]; simp [Nat.add_assoc]
  refine ⟨ad2, e, by rw [ed]; exact c0, ?_, ?_⟩
  · rw [ed, ← e1 1 (by omega)]
    exact c1
  · rw [ed, ← e1 2 (by omega)]
    exact c2
end Go.Proofs.YtdcemmhfbfogdaaDoor
