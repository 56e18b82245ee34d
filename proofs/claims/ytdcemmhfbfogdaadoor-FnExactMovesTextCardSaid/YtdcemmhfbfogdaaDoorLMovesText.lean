/- The law on the text of moves. -/
import Derived.Test.YtdcemmhfbfogdaaDoorMovJoin
namespace Go.Proofs.YtdcemmhfbfogdaaDoor
open Go.RowKit
set_option linter.unusedVariables false
set_option linter.unusedSimpArgs false
set_option maxRecDepth 100000

set_option maxHeartbeats 2000000 in
theorem walk_FnExactMovesText (W : World) (A0 : Option Addr) (cap0 : Nat) (es0 : List (List Value)) (w0 : ∀ c ∈ es0, IntCells [.i8, .i8, .i16] c) (r0 : RdRow W A0 es0.flatten) (s0 : es0.length * 4 ≤ 140737488351232) (m0 : es0.length ≤ maxLen) (htab : TabW W) :
    Calls Tryd.prog 5 #[.slice A0 es0.length cap0] W fun e w' => e = .returned (.bool true) ∧ Below W.heap.size W w' := by
  have HTAB : Hid (TabW W) := htab
  clear htab
  obtain ⟨fs0, ft0, fg0, hL0, hg0⟩ := moves_open w0 r0
  have hm0 : es0.length ≤ 9223372036854775807 := by omega
  clear w0 r0
  generalize es0.length = n0 at *
  have HG0 := Lib.hid hg0
  have hbw : Below W.heap.size W W := Below.refl _ _
  have HBW := Lib.hid hbw
  have H0 := Lib.hid (hL0.below hbw)
  have HB : Hid (Below W.heap.size W W) := Below.refl _ _
  clear hbw hg0 s0 m0 hL0
  by_cases hs0 : n0 ≤ 1048576
  · have E0 : Hid ((if (n0 : Int) ≤ (1048576 : Int) then (1048576 : Int) - (n0 : Int) else -1) = (1048576 : Int) - (n0 : Int)) := by rw [Hid, if_pos (by omega)]
    have HSz0 := fun w => Lib.hid (E0.out ▸ c_szMoveL A0 n0 cap0 ((1048576 : Int)) w hm0 (by omega) (by omega))
    have ds0 : decide ((1048576 : Int) - (n0 : Int) < 0) = false := by simp; omega
    have hn0 := hs0
    have sa0 := Lib.hid True.intro
    have sc := Lib.hid True.intro
    go_enter Tryd.func5, Tryd.ntmps5
    go_wp2_with (first
      | (go_at_call 16; ((with_reducible refine (HSz0 _).out.mono ?_); rintro e w1 ⟨rfl, rfl⟩))
      | (go_at_call 18; clear sa0; ((with_reducible refine (c_toMoveX A0 n0 cap0 fs0 ft0 fg0 _ (H0.out.below HB.out) hn0).mono ?_); rintro e w1 ⟨b, xs, rfl, hL, hO, hb⟩; have HB := Lib.hid (below_then HB.out hb); (try have HT0 := Lib.hid (HT0.out.below hb)); (try have HX0 := Lib.hid (HX0.out.below hb)); (try have HC0 := Lib.hid (HC0.out.below hb)); clear hb; have HT0 := Lib.hid hL; clear hL hO))
      | (go_at_call 18; clear sb0; ((with_reducible refine (c_toMoveX A0 n0 cap0 fs0 ft0 fg0 _ (H0.out.below HB.out) hn0).mono ?_); rintro e w1 ⟨b, xs, rfl, hL, hO, hb⟩; have HB := Lib.hid (below_then HB.out hb); (try have HT0 := Lib.hid (HT0.out.below hb)); (try have HX0 := Lib.hid (HX0.out.below hb)); (try have HC0 := Lib.hid (HC0.out.below hb)); clear hb; have HX0 := Lib.hid hL; clear hL hO))
      | (go_at_call 18; ((with_reducible refine (c_toMoveX A0 n0 cap0 fs0 ft0 fg0 _ (H0.out.below HB.out) hn0).mono ?_); rintro e w1 ⟨b, xs, rfl, hL, hO, hb⟩; have HB := Lib.hid (below_then HB.out hb); (try have HT0 := Lib.hid (HT0.out.below hb)); (try have HX0 := Lib.hid (HX0.out.below hb)); (try have HC0 := Lib.hid (HC0.out.below hb)); clear hb; have HC0 := Lib.hid hL; clear hL hO))
      | (go_at_call 17; clear sc; ((with_reducible refine (c_sMovesText _ n0 _ fs0 ft0 fg0 _ HT0.out hn0 HG0.out).mono ?_); rintro e w1 ⟨rfl, hb⟩; have HB := Lib.hid (below_then HB.out hb); (try have HT0 := Lib.hid (HT0.out.below hb)); (try have HX0 := Lib.hid (HX0.out.below hb)); (try have HC0 := Lib.hid (HC0.out.below hb)); clear hb; have sb0 := Lib.hid True.intro; clear HT0))
      | (go_at_call 19; ((with_reducible refine (c_iMovesText _ n0 _ fs0 ft0 fg0 _ HX0.out hn0 HG0.out (tab_below HTAB.out HB.out)).mono ?_); rintro e w1 ⟨rfl, hb⟩; have HB := Lib.hid (below_then HB.out hb); (try have HT0 := Lib.hid (HT0.out.below hb)); (try have HX0 := Lib.hid (HX0.out.below hb)); (try have HC0 := Lib.hid (HC0.out.below hb)); clear hb))
      | (go_at_call 20; ((with_reducible refine (c_eqMoveS _ _ n0 _ _ fs0 ft0 fg0 _ HX0.out HC0.out hn0).mono ?_); rintro e w1 ⟨rfl, hb⟩; have HB := Lib.hid (below_then HB.out hb); (try have HT0 := Lib.hid (HT0.out.below hb)); (try have HX0 := Lib.hid (HX0.out.below hb)); (try have HC0 := Lib.hid (HC0.out.below hb)); clear hb; clear HC0)))
    go_ret
    exact ⟨rfl, below_then HBW.out HB.out⟩
  · have E0 : Hid ((if (n0 : Int) ≤ (1048576 : Int) then (1048576 : Int) - (n0 : Int) else -1) = -1) := by rw [Hid, if_neg (by omega)]
    have HSz0 := fun w => Lib.hid (E0.out ▸ c_szMoveL A0 n0 cap0 ((1048576 : Int)) w hm0 (by omega) (by omega))
    go_enter Tryd.func5, Tryd.ntmps5
    go_wp2_with (go_at_call 16; ((with_reducible refine (HSz0 _).out.mono ?_); rintro e w1 ⟨rfl, rfl⟩))
    go_ret
    exact ⟨rfl, by (repeat (first | with_reducible exact Below.refl _ _ | with_reducible refine below_alloc ?_ _ | with_reducible refine below_drew ?_ | with_reducible refine below_drewN ?_ _ | with_reducible refine below_then ?_ (by assumption)))⟩
end Go.Proofs.YtdcemmhfbfogdaaDoor
