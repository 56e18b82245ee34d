/- The law on moves without one. -/
import Derived.Test.YtfgfhafppdclmaaUndo
namespace Go.Proofs.Ytfgfhafppdclmaa
open Go.RowKit
set_option linter.unusedVariables false
set_option linter.unusedSimpArgs false
set_option maxRecDepth 100000

set_option maxHeartbeats 2000000 in
theorem walk_FnExactUndoMove (W : World) (A0 : Option Addr) (cap0 : Nat) (es0 : List (List Value)) (w0 : ∀ c ∈ es0, IntCells [.i8, .i8, .i16] c) (r0 : RdRow W A0 es0.flatten) (s0 : es0.length * 4 ≤ 140737488351232) (m0 : es0.length ≤ maxLen) (a1 : Int) (w1 : (Lit.int .i64 a1).wf = true) :
    Calls Try.prog 13 #[.slice A0 es0.length cap0, .int .i64 a1] W fun e w' => e = .returned (.bool true) ∧ Below W.heap.size W w' := by
  obtain ⟨fs0, ft0, fg0, hL0, hg0⟩ := moves_open w0 r0
  have hm0 : es0.length ≤ 9223372036854775807 := by omega
  clear w0 r0
  generalize es0.length = n0 at *
  have HG0 := Lib.hid hg0
  have hbw : Below W.heap.size W W := Below.refl _ _
  have HBW := Lib.hid hbw
  have H0 := Lib.hid (hL0.below hbw)
  have HB : Hid (Below W.heap.size W W) := Below.refl _ _
  clear hbw hg0 s0 m0 hL0
  by_cases hs0 : n0 ≤ 1048576
  · have E0 : Hid ((if (n0 : Int) ≤ (1048576 : Int) then (1048576 : Int) - (n0 : Int) else -1) = (1048576 : Int) - (n0 : Int)) := by rw [Hid, if_pos (by omega)]
    have HSz0 := fun w => Lib.hid (E0.out ▸ c_szMoveL A0 n0 cap0 ((1048576 : Int)) w hm0 (by omega) (by omega))
    have ds0 : decide ((1048576 : Int) - (n0 : Int) < 0) = false := by simp; omega
    have hn0 := hs0
    have HLE : Hid ((undoF n0 fs0 ft0 fg0 a1).1.length ≤ 1048576) := undoF_le n0 fs0 ft0 fg0 a1
    have qm : decide ((1 : Int) + (((undoF n0 fs0 ft0 fg0 a1).1.length * 3 : Nat) : Int) < 0) = false := by simp; omega
    have sa0 := Lib.hid True.intro
    have sc := Lib.hid True.intro
    go_enter Try.func13, Try.ntmps13
    go_wp2_with (first
      | (go_at_call 25; ((with_reducible refine (HSz0 _).out.mono ?_); rintro e w1 ⟨rfl, rfl⟩))
      | (go_at_call 27; clear sa0; ((with_reducible refine (c_toMoveX A0 n0 cap0 fs0 ft0 fg0 _ (H0.out.below HB.out) hn0).mono ?_); rintro e w1 ⟨b, xs, rfl, hL, hO, hb⟩; have HB := Lib.hid (below_then HB.out hb); (try have HT0 := Lib.hid (HT0.out.below hb)); (try have HX0 := Lib.hid (HX0.out.below hb)); (try have HC0 := Lib.hid (HC0.out.below hb)); (try have HR0 := Lib.hid (own_below HR0.out hb)); (try have HV := Lib.hid (own_below HV.out hb)); (try have HU := Lib.hid (own_below HU.out hb)); clear hb; have HT0 := Lib.hid hL; clear hL hO))
      | (go_at_call 27; clear sb0; ((with_reducible refine (c_toMoveX A0 n0 cap0 fs0 ft0 fg0 _ (H0.out.below HB.out) hn0).mono ?_); rintro e w1 ⟨b, xs, rfl, hL, hO, hb⟩; have AV0 := Lib.hid (apart_of (own_lo HV.out (Nat.le_refl _)) (own_up hO)); have hO := own_mono hO HB.out.size; have HB := Lib.hid (below_then HB.out hb); (try have HT0 := Lib.hid (HT0.out.below hb)); (try have HX0 := Lib.hid (HX0.out.below hb)); (try have HC0 := Lib.hid (HC0.out.below hb)); (try have HR0 := Lib.hid (own_below HR0.out hb)); (try have HV := Lib.hid (own_below HV.out hb)); (try have HU := Lib.hid (own_below HU.out hb)); clear hb; have HX0 := Lib.hid hL; have HR0 := Lib.hid hO; clear hL hO))
      | (go_at_call 27; ((with_reducible refine (c_toMoveX A0 n0 cap0 fs0 ft0 fg0 _ (H0.out.below HB.out) hn0).mono ?_); rintro e w1 ⟨b, xs, rfl, hL, hO, hb⟩; have HB := Lib.hid (below_then HB.out hb); (try have HT0 := Lib.hid (HT0.out.below hb)); (try have HX0 := Lib.hid (HX0.out.below hb)); (try have HC0 := Lib.hid (HC0.out.below hb)); (try have HR0 := Lib.hid (own_below HR0.out hb)); (try have HV := Lib.hid (own_below HV.out hb)); (try have HU := Lib.hid (own_below HU.out hb)); clear hb; have HC0 := Lib.hid hL; clear hL hO))
      | (go_at_call 59; clear sc; ((with_reducible refine (c_sUndoMove _ n0 fs0 ft0 fg0 a1 _ HT0.out hn0 HG0.out).mono ?_); rintro e w1 ⟨v, rfl, hO, hb⟩; have hO := own_mono hO HB.out.size; have HB := Lib.hid (below_then HB.out hb); (try have HT0 := Lib.hid (HT0.out.below hb)); (try have HX0 := Lib.hid (HX0.out.below hb)); (try have HC0 := Lib.hid (HC0.out.below hb)); (try have HR0 := Lib.hid (own_below HR0.out hb)); (try have HV := Lib.hid (own_below HV.out hb)); (try have HU := Lib.hid (own_below HU.out hb)); clear hb; have HV := Lib.hid hO; clear hO; have sb0 := Lib.hid True.intro; clear HT0))
      | (go_at_call 60; have KU := HU; ((with_reducible refine (c_iUndoMove _ n0 fs0 ft0 fg0 a1 _ HC0.out hn0 HG0.out).mono ?_); rintro e w1 ⟨v3, rfl, hO, hb⟩; have HB := Lib.hid (below_then HB.out hb); (try have HT0 := Lib.hid (HT0.out.below hb)); (try have HX0 := Lib.hid (HX0.out.below hb)); (try have HC0 := Lib.hid (HC0.out.below hb)); (try have HR0 := Lib.hid (own_below HR0.out hb)); (try have HV := Lib.hid (own_below HV.out hb)); (try have HU := Lib.hid (own_below HU.out hb)); clear hb; have HH := Lib.hid hO; clear hO KU))
      | (go_at_call 60; ((with_reducible refine (c_iUndoMove _ n0 fs0 ft0 fg0 a1 _ HX0.out hn0 HG0.out).mono ?_); rintro e w1 ⟨v2, rfl, hO, hb⟩; have AU0 := Lib.hid (apart_of (own_lo HR0.out (Nat.le_refl _)) (own_up hO)); have AVU := Lib.hid (apart_of (own_lo HV.out (Nat.le_refl _)) (own_up hO)); have hO := own_mono hO HB.out.size; have HB := Lib.hid (below_then HB.out hb); (try have HT0 := Lib.hid (HT0.out.below hb)); (try have HX0 := Lib.hid (HX0.out.below hb)); (try have HC0 := Lib.hid (HC0.out.below hb)); (try have HR0 := Lib.hid (own_below HR0.out hb)); (try have HV := Lib.hid (own_below HV.out hb)); (try have HU := Lib.hid (own_below HU.out hb)); clear hb; have HU := Lib.hid hO; clear hO))
      | (go_at_call 29; ((with_reducible refine (c_eqMoveS _ _ n0 _ _ fs0 ft0 fg0 _ HX0.out HC0.out hn0).mono ?_); rintro e w1 ⟨rfl, hb⟩; have HB := Lib.hid (below_then HB.out hb); (try have HT0 := Lib.hid (HT0.out.below hb)); (try have HX0 := Lib.hid (HX0.out.below hb)); (try have HC0 := Lib.hid (HC0.out.below hb)); (try have HR0 := Lib.hid (own_below HR0.out hb)); (try have HV := Lib.hid (own_below HV.out hb)); (try have HU := Lib.hid (own_below HU.out hb)); clear hb; clear HC0))
      | (go_at_call 29; ((with_reducible refine (c_eqOwnMove _ _ _ _ _ _ HH.out HV.out HLE.out).mono ?_); rintro e w1 ⟨rfl, hb⟩; have HB := Lib.hid (below_then HB.out hb); (try have HT0 := Lib.hid (HT0.out.below hb)); (try have HX0 := Lib.hid (HX0.out.below hb)); (try have HC0 := Lib.hid (HC0.out.below hb)); (try have HR0 := Lib.hid (own_below HR0.out hb)); (try have HV := Lib.hid (own_below HV.out hb)); (try have HU := Lib.hid (own_below HU.out hb)); clear hb))
      | (go_at_call 29; ((with_reducible refine (c_eqOwnMove _ _ _ _ _ _ HU.out HV.out HLE.out).mono ?_); rintro e w1 ⟨rfl, hb⟩; have HB := Lib.hid (below_then HB.out hb); (try have HT0 := Lib.hid (HT0.out.below hb)); (try have HX0 := Lib.hid (HX0.out.below hb)); (try have HC0 := Lib.hid (HC0.out.below hb)); (try have HR0 := Lib.hid (own_below HR0.out hb)); (try have HV := Lib.hid (own_below HV.out hb)); (try have HU := Lib.hid (own_below HU.out hb)); clear hb))
      | (go_at_call 39; ((with_reducible refine (c_markMoveE _ _ _ _ _ _ HR0.out hn0 ?_ ?_).mono ?_); (omega); (omega); rintro e w1 ⟨r0, rfl, ra0, rb0, ⟨ys, hO⟩, ht⟩; have dr0 : decide (r0 < 0) = false := (by simp; omega); have HB := Lib.hid (HB.out.trans (ht.below (own_up hO))); have HV := Lib.hid (own_touV HV.out ht AV0.out.ne); have HU := Lib.hid (own_touV HU.out ht AU0.out.symm.ne); clear hO ht HR0 HX0))
      | (go_at_call 39; ((with_reducible refine (c_markMove1 _ _ _ _ _ HU.out HLE.out).mono ?_); rintro e w1 ⟨rfl, hO, ht⟩; have HB := Lib.hid (HB.out.trans (ht.below (own_up hO))); have HV := Lib.hid (own_touV HV.out ht AVU.out.ne); have HU := Lib.hid hO; clear hO ht))
      | (go_at_call 61; ((with_reducible refine (c_heldMove1 _ _ _ _ HU.out HLE.out).mono ?_); rintro e w1 ⟨rfl, rfl⟩)))
    go_ret
    exact ⟨rfl, below_then HBW.out HB.out⟩
  · have E0 : Hid ((if (n0 : Int) ≤ (1048576 : Int) then (1048576 : Int) - (n0 : Int) else -1) = -1) := by rw [Hid, if_neg (by omega)]
    have HSz0 := fun w => Lib.hid (E0.out ▸ c_szMoveL A0 n0 cap0 ((1048576 : Int)) w hm0 (by omega) (by omega))
    go_enter Try.func13, Try.ntmps13
    go_wp2_with (go_at_call 25; ((with_reducible refine (HSz0 _).out.mono ?_); rintro e w1 ⟨rfl, rfl⟩))
    go_ret
    exact ⟨rfl, by (repeat (first | with_reducible exact Below.refl _ _ | with_reducible refine below_alloc ?_ _ | with_reducible refine below_drew ?_ | with_reducible refine below_drewN ?_ _ | with_reducible refine below_then ?_ (by assumption)))⟩
end Go.Proofs.Ytfgfhafppdclmaa
