/- The law on right plans. -/
import Derived.Test.YtfgfhafppdclmaaLeftIn
namespace Go.Proofs.Ytfgfhafppdclmaa
open Go.RowKit
set_option linter.unusedVariables false
set_option linter.unusedSimpArgs false
set_option maxRecDepth 100000

set_option maxHeartbeats 2000000 in
theorem walk_FnExactServedBy (W : World) (A0 : Option Addr) (cap0 : Nat) (es0 : List (List Value)) (w0 : ∀ c ∈ es0, IntCells [.i8, .i16] c) (r0 : RdRow W A0 es0.flatten) (s0 : es0.length * 4 ≤ 140737488351232) (m0 : es0.length ≤ maxLen) (A1 : Option Addr) (cap1 : Nat) (es1 : List (List Value)) (w1 : ∀ c ∈ es1, IntCells [.i8, .i16] c) (r1 : RdRow W A1 es1.flatten) (s1 : es1.length * 4 ≤ 140737488351232) (m1 : es1.length ≤ maxLen) (A2 : Option Addr) (cap2 : Nat) (a2 : List Int) (w2 : ∀ z ∈ a2, (Lit.int .i64 z).wf = true) (r2 : RdRow W A2 (nums .i64 a2)) (s2 : a2.length * 8 ≤ 140737488351232) (m2 : a2.length ≤ maxLen) :
    Calls Try.prog 12 #[.slice A0 es0.length cap0, .slice A1 es1.length cap1, .slice A2 a2.length cap2] W fun e w' => e = .returned (.bool true) ∧ Below W.heap.size W w' := by
  obtain ⟨fs0, fg0, hL0, hg0⟩ := lots_open w0 r0
  have hm0 : es0.length ≤ 9223372036854775807 := by omega
  clear w0 r0
  generalize es0.length = n0 at *
  have HG0 := Lib.hid hg0
  obtain ⟨fs1, fg1, hL1, hg1⟩ := lots_open w1 r1
  have hm1 : es1.length ≤ 9223372036854775807 := by omega
  clear w1 r1
  generalize es1.length = n1 at *
  have HG1 := Lib.hid hg1
  have HZ2 := Lib.hid (gi_bd64 w2)
  have hm2 : a2.length ≤ 9223372036854775807 := by omega
  have hL2 := r2
  obtain ⟨n2, hl2⟩ : ∃ n, a2.length = n := ⟨_, rfl⟩
  rw [hl2] at hm2 s2 m2 ⊢
  have HL2 := Lib.hid hl2
  have hbw : Below W.heap.size W W := Below.refl _ _
  have HBW := Lib.hid hbw
  have H0 := Lib.hid (hL0.below hbw)
  have H1 := Lib.hid (hL1.below hbw)
  have H2 := Lib.hid (hL2.below hbw)
  have HB : Hid (Below W.heap.size W W) := Below.refl _ _
  clear hbw hg0 s0 m0 hg1 s1 m1 w2 r2 hl2 s2 m2 hL0 hL1 hL2
  by_cases hn2 : n2 ≤ 1048576
  · have dl2 : decide ((1048576 : Int) < (n2 : Int)) = false := by simp; omega
    by_cases hs0 : n0 ≤ 1048576
    · have E0 : Hid ((if (n0 : Int) ≤ (1048576 : Int) then (1048576 : Int) - (n0 : Int) else -1) = (1048576 : Int) - (n0 : Int)) := by rw [Hid, if_pos (by omega)]
      have HSz0 := fun w => Lib.hid (E0.out ▸ c_szLotL A0 n0 cap0 ((1048576 : Int)) w hm0 (by omega) (by omega))
      have ds0 : decide ((1048576 : Int) - (n0 : Int) < 0) = false := by simp; omega
      have hn0 := hs0
      by_cases hs1 : n0 + n1 ≤ 1048576
      · have E1 : Hid ((if (n1 : Int) ≤ (1048576 : Int) - (n0 : Int) then (1048576 : Int) - (n0 : Int) - (n1 : Int) else -1) = (1048576 : Int) - (n0 : Int) - (n1 : Int)) := by rw [Hid, if_pos (by omega)]
        have HSz1 := fun w => Lib.hid (E1.out ▸ c_szOrderL A1 n1 cap1 ((1048576 : Int) - (n0 : Int)) w hm1 (by omega) (by omega))
        have ds1 : decide ((1048576 : Int) - (n0 : Int) - (n1 : Int) < 0) = false := by simp; omega
        have hn1 : n1 ≤ 1048576 := by omega
        have sa0 := Lib.hid True.intro
        have sa1 := Lib.hid True.intro
        have sa2 := Lib.hid True.intro
        have sc := Lib.hid True.intro
        go_enter Try.func12, Try.ntmps12
        go_wp2_with (first
          | (go_at_call 15; ((with_reducible refine (HSz0 _).out.mono ?_); rintro e w1 ⟨rfl, rfl⟩))
          | (go_at_call 20; ((with_reducible refine (HSz1 _).out.mono ?_); rintro e w1 ⟨rfl, rfl⟩))
          | (go_at_call 17; clear sa0; ((with_reducible refine (c_toLotX A0 n0 cap0 fs0 fg0 _ (H0.out.below HB.out) hn0).mono ?_); rintro e w1 ⟨b, xs, rfl, hL, hO, hb⟩; have HB := Lib.hid (below_then HB.out hb); (try have HT0 := Lib.hid (HT0.out.below hb)); (try have HX0 := Lib.hid (HX0.out.below hb)); (try have HC0 := Lib.hid (HC0.out.below hb)); (try have HT1 := Lib.hid (HT1.out.below hb)); (try have HX1 := Lib.hid (HX1.out.below hb)); (try have HC1 := Lib.hid (HC1.out.below hb)); (try have HT2 := Lib.hid (HT2.out.below hb)); (try have HX2 := Lib.hid (HX2.out.below hb)); (try have HC2 := Lib.hid (HC2.out.below hb)); clear hb; have HT0 := Lib.hid hL; clear hL hO))
          | (go_at_call 17; clear sb0; ((with_reducible refine (c_toLotX A0 n0 cap0 fs0 fg0 _ (H0.out.below HB.out) hn0).mono ?_); rintro e w1 ⟨b, xs, rfl, hL, hO, hb⟩; have HB := Lib.hid (below_then HB.out hb); (try have HT0 := Lib.hid (HT0.out.below hb)); (try have HX0 := Lib.hid (HX0.out.below hb)); (try have HC0 := Lib.hid (HC0.out.below hb)); (try have HT1 := Lib.hid (HT1.out.below hb)); (try have HX1 := Lib.hid (HX1.out.below hb)); (try have HC1 := Lib.hid (HC1.out.below hb)); (try have HT2 := Lib.hid (HT2.out.below hb)); (try have HX2 := Lib.hid (HX2.out.below hb)); (try have HC2 := Lib.hid (HC2.out.below hb)); clear hb; have HX0 := Lib.hid hL; clear hL hO))
          | (go_at_call 17; ((with_reducible refine (c_toLotX A0 n0 cap0 fs0 fg0 _ (H0.out.below HB.out) hn0).mono ?_); rintro e w1 ⟨b, xs, rfl, hL, hO, hb⟩; have HB := Lib.hid (below_then HB.out hb); (try have HT0 := Lib.hid (HT0.out.below hb)); (try have HX0 := Lib.hid (HX0.out.below hb)); (try have HC0 := Lib.hid (HC0.out.below hb)); (try have HT1 := Lib.hid (HT1.out.below hb)); (try have HX1 := Lib.hid (HX1.out.below hb)); (try have HC1 := Lib.hid (HC1.out.below hb)); (try have HT2 := Lib.hid (HT2.out.below hb)); (try have HX2 := Lib.hid (HX2.out.below hb)); (try have HC2 := Lib.hid (HC2.out.below hb)); clear hb; have HC0 := Lib.hid hL; clear hL hO))
          | (go_at_call 22; clear sa1; ((with_reducible refine (c_toOrderX A1 n1 cap1 fs1 fg1 _ (H1.out.below HB.out) hn1).mono ?_); rintro e w1 ⟨b, xs, rfl, hL, hO, hb⟩; have HB := Lib.hid (below_then HB.out hb); (try have HT0 := Lib.hid (HT0.out.below hb)); (try have HX0 := Lib.hid (HX0.out.below hb)); (try have HC0 := Lib.hid (HC0.out.below hb)); (try have HT1 := Lib.hid (HT1.out.below hb)); (try have HX1 := Lib.hid (HX1.out.below hb)); (try have HC1 := Lib.hid (HC1.out.below hb)); (try have HT2 := Lib.hid (HT2.out.below hb)); (try have HX2 := Lib.hid (HX2.out.below hb)); (try have HC2 := Lib.hid (HC2.out.below hb)); clear hb; have HT1 := Lib.hid hL; clear hL hO))
          | (go_at_call 22; clear sb1; ((with_reducible refine (c_toOrderX A1 n1 cap1 fs1 fg1 _ (H1.out.below HB.out) hn1).mono ?_); rintro e w1 ⟨b, xs, rfl, hL, hO, hb⟩; have HB := Lib.hid (below_then HB.out hb); (try have HT0 := Lib.hid (HT0.out.below hb)); (try have HX0 := Lib.hid (HX0.out.below hb)); (try have HC0 := Lib.hid (HC0.out.below hb)); (try have HT1 := Lib.hid (HT1.out.below hb)); (try have HX1 := Lib.hid (HX1.out.below hb)); (try have HC1 := Lib.hid (HC1.out.below hb)); (try have HT2 := Lib.hid (HT2.out.below hb)); (try have HX2 := Lib.hid (HX2.out.below hb)); (try have HC2 := Lib.hid (HC2.out.below hb)); clear hb; have HX1 := Lib.hid hL; clear hL hO))
          | (go_at_call 22; ((with_reducible refine (c_toOrderX A1 n1 cap1 fs1 fg1 _ (H1.out.below HB.out) hn1).mono ?_); rintro e w1 ⟨b, xs, rfl, hL, hO, hb⟩; have HB := Lib.hid (below_then HB.out hb); (try have HT0 := Lib.hid (HT0.out.below hb)); (try have HX0 := Lib.hid (HX0.out.below hb)); (try have HC0 := Lib.hid (HC0.out.below hb)); (try have HT1 := Lib.hid (HT1.out.below hb)); (try have HX1 := Lib.hid (HX1.out.below hb)); (try have HC1 := Lib.hid (HC1.out.below hb)); (try have HT2 := Lib.hid (HT2.out.below hb)); (try have HX2 := Lib.hid (HX2.out.below hb)); (try have HC2 := Lib.hid (HC2.out.below hb)); clear hb; have HC1 := Lib.hid hL; clear hL hO))
          | (go_at_call 45; clear sa2; ((with_reducible refine (c_toInt64X A2 n2 cap2 a2 _ (H2.out.below HB.out) HL2.out hn2).mono ?_); rintro e w1 ⟨b, xs, rfl, hL, hO, hb⟩; have HB := Lib.hid (below_then HB.out hb); (try have HT0 := Lib.hid (HT0.out.below hb)); (try have HX0 := Lib.hid (HX0.out.below hb)); (try have HC0 := Lib.hid (HC0.out.below hb)); (try have HT1 := Lib.hid (HT1.out.below hb)); (try have HX1 := Lib.hid (HX1.out.below hb)); (try have HC1 := Lib.hid (HC1.out.below hb)); (try have HT2 := Lib.hid (HT2.out.below hb)); (try have HX2 := Lib.hid (HX2.out.below hb)); (try have HC2 := Lib.hid (HC2.out.below hb)); clear hb; have HT2 := Lib.hid hL; clear hL hO))
          | (go_at_call 45; clear sb2; ((with_reducible refine (c_toInt64X A2 n2 cap2 a2 _ (H2.out.below HB.out) HL2.out hn2).mono ?_); rintro e w1 ⟨b, xs, rfl, hL, hO, hb⟩; have HB := Lib.hid (below_then HB.out hb); (try have HT0 := Lib.hid (HT0.out.below hb)); (try have HX0 := Lib.hid (HX0.out.below hb)); (try have HC0 := Lib.hid (HC0.out.below hb)); (try have HT1 := Lib.hid (HT1.out.below hb)); (try have HX1 := Lib.hid (HX1.out.below hb)); (try have HC1 := Lib.hid (HC1.out.below hb)); (try have HT2 := Lib.hid (HT2.out.below hb)); (try have HX2 := Lib.hid (HX2.out.below hb)); (try have HC2 := Lib.hid (HC2.out.below hb)); clear hb; have HX2 := Lib.hid hL; clear hL hO))
          | (go_at_call 45; ((with_reducible refine (c_toInt64X A2 n2 cap2 a2 _ (H2.out.below HB.out) HL2.out hn2).mono ?_); rintro e w1 ⟨b, xs, rfl, hL, hO, hb⟩; have HB := Lib.hid (below_then HB.out hb); (try have HT0 := Lib.hid (HT0.out.below hb)); (try have HX0 := Lib.hid (HX0.out.below hb)); (try have HC0 := Lib.hid (HC0.out.below hb)); (try have HT1 := Lib.hid (HT1.out.below hb)); (try have HX1 := Lib.hid (HX1.out.below hb)); (try have HC1 := Lib.hid (HC1.out.below hb)); (try have HT2 := Lib.hid (HT2.out.below hb)); (try have HX2 := Lib.hid (HX2.out.below hb)); (try have HC2 := Lib.hid (HC2.out.below hb)); clear hb; have HC2 := Lib.hid hL; clear hL hO))
          | (go_at_call 57; clear sc; ((with_reducible refine (c_sServedBy _ _ _ n0 n1 n2 _ _ _ fs0 fg0 fs1 fg1 a2 _ HT0.out HT1.out HT2.out HL2.out hn0 hn1 hn2 HG0.out HG1.out HZ2.out).mono ?_); rintro e w1 ⟨rfl, hb⟩; have HB := Lib.hid (below_then HB.out hb); (try have HT0 := Lib.hid (HT0.out.below hb)); (try have HX0 := Lib.hid (HX0.out.below hb)); (try have HC0 := Lib.hid (HC0.out.below hb)); (try have HT1 := Lib.hid (HT1.out.below hb)); (try have HX1 := Lib.hid (HX1.out.below hb)); (try have HC1 := Lib.hid (HC1.out.below hb)); (try have HT2 := Lib.hid (HT2.out.below hb)); (try have HX2 := Lib.hid (HX2.out.below hb)); (try have HC2 := Lib.hid (HC2.out.below hb)); clear hb; have sb0 := Lib.hid True.intro; have sb1 := Lib.hid True.intro; have sb2 := Lib.hid True.intro; clear HT0 HT1 HT2))
          | (go_at_call 58; ((with_reducible refine (c_iServedBy _ _ _ n0 n1 n2 _ _ _ fs0 fg0 fs1 fg1 a2 _ HX0.out HX1.out HX2.out HL2.out hn0 hn1 hn2 HG0.out HG1.out HZ2.out).mono ?_); rintro e w1 ⟨rfl, hb⟩; have HB := Lib.hid (below_then HB.out hb); (try have HT0 := Lib.hid (HT0.out.below hb)); (try have HX0 := Lib.hid (HX0.out.below hb)); (try have HC0 := Lib.hid (HC0.out.below hb)); (try have HT1 := Lib.hid (HT1.out.below hb)); (try have HX1 := Lib.hid (HX1.out.below hb)); (try have HC1 := Lib.hid (HC1.out.below hb)); (try have HT2 := Lib.hid (HT2.out.below hb)); (try have HX2 := Lib.hid (HX2.out.below hb)); (try have HC2 := Lib.hid (HC2.out.below hb)); clear hb))
          | (go_at_call 19; ((with_reducible refine (c_eqLotS _ _ n0 _ _ fs0 fg0 _ HX0.out HC0.out hn0).mono ?_); rintro e w1 ⟨rfl, hb⟩; have HB := Lib.hid (below_then HB.out hb); (try have HT0 := Lib.hid (HT0.out.below hb)); (try have HX0 := Lib.hid (HX0.out.below hb)); (try have HC0 := Lib.hid (HC0.out.below hb)); (try have HT1 := Lib.hid (HT1.out.below hb)); (try have HX1 := Lib.hid (HX1.out.below hb)); (try have HC1 := Lib.hid (HC1.out.below hb)); (try have HT2 := Lib.hid (HT2.out.below hb)); (try have HX2 := Lib.hid (HX2.out.below hb)); (try have HC2 := Lib.hid (HC2.out.below hb)); clear hb; clear HC0))
          | (go_at_call 24; ((with_reducible refine (c_eqOrderS _ _ n1 _ _ fs1 fg1 _ HX1.out HC1.out hn1).mono ?_); rintro e w1 ⟨rfl, hb⟩; have HB := Lib.hid (below_then HB.out hb); (try have HT0 := Lib.hid (HT0.out.below hb)); (try have HX0 := Lib.hid (HX0.out.below hb)); (try have HC0 := Lib.hid (HC0.out.below hb)); (try have HT1 := Lib.hid (HT1.out.below hb)); (try have HX1 := Lib.hid (HX1.out.below hb)); (try have HC1 := Lib.hid (HC1.out.below hb)); (try have HT2 := Lib.hid (HT2.out.below hb)); (try have HX2 := Lib.hid (HX2.out.below hb)); (try have HC2 := Lib.hid (HC2.out.below hb)); clear hb; clear HC1))
          | (go_at_call 47; ((with_reducible refine (c_eqInt64S _ _ n2 _ _ a2 _ HX2.out HC2.out HL2.out hn2).mono ?_); rintro e w1 ⟨rfl, hb⟩; have HB := Lib.hid (below_then HB.out hb); (try have HT0 := Lib.hid (HT0.out.below hb)); (try have HX0 := Lib.hid (HX0.out.below hb)); (try have HC0 := Lib.hid (HC0.out.below hb)); (try have HT1 := Lib.hid (HT1.out.below hb)); (try have HX1 := Lib.hid (HX1.out.below hb)); (try have HC1 := Lib.hid (HC1.out.below hb)); (try have HT2 := Lib.hid (HT2.out.below hb)); (try have HX2 := Lib.hid (HX2.out.below hb)); (try have HC2 := Lib.hid (HC2.out.below hb)); clear hb; clear HC2)))
        go_ret
        exact ⟨rfl, below_then HBW.out HB.out⟩
      · have E1 : Hid ((if (n1 : Int) ≤ (1048576 : Int) - (n0 : Int) then (1048576 : Int) - (n0 : Int) - (n1 : Int) else -1) = -1) := by rw [Hid, if_neg (by omega)]
        have HSz1 := fun w => Lib.hid (E1.out ▸ c_szOrderL A1 n1 cap1 ((1048576 : Int) - (n0 : Int)) w hm1 (by omega) (by omega))
        go_enter Try.func12, Try.ntmps12
        go_wp2_with (first
          | (go_at_call 15; ((with_reducible refine (HSz0 _).out.mono ?_); rintro e w1 ⟨rfl, rfl⟩))
          | (go_at_call 20; ((with_reducible refine (HSz1 _).out.mono ?_); rintro e w1 ⟨rfl, rfl⟩)))
        go_ret
        exact ⟨rfl, by (repeat (first | with_reducible exact Below.refl _ _ | with_reducible refine below_alloc ?_ _ | with_reducible refine below_drew ?_ | with_reducible refine below_drewN ?_ _ | with_reducible refine below_then ?_ (by assumption)))⟩
    · have E0 : Hid ((if (n0 : Int) ≤ (1048576 : Int) then (1048576 : Int) - (n0 : Int) else -1) = -1) := by rw [Hid, if_neg (by omega)]
      have HSz0 := fun w => Lib.hid (E0.out ▸ c_szLotL A0 n0 cap0 ((1048576 : Int)) w hm0 (by omega) (by omega))
      go_enter Try.func12, Try.ntmps12
      go_wp2_with (go_at_call 15; ((with_reducible refine (HSz0 _).out.mono ?_); rintro e w1 ⟨rfl, rfl⟩))
      go_ret
      exact ⟨rfl, by (repeat (first | with_reducible exact Below.refl _ _ | with_reducible refine below_alloc ?_ _ | with_reducible refine below_drew ?_ | with_reducible refine below_drewN ?_ _ | with_reducible refine below_then ?_ (by assumption)))⟩
  · have dl2 : decide ((1048576 : Int) < (n2 : Int)) = true := by simp; omega
    go_enter Try.func12, Try.ntmps12
    go_wp2
    go_ret
    exact ⟨rfl, by (repeat (first | with_reducible exact Below.refl _ _ | with_reducible refine below_alloc ?_ _ | with_reducible refine below_drew ?_ | with_reducible refine below_drewN ?_ _ | with_reducible refine below_then ?_ (by assumption)))⟩
end Go.Proofs.Ytfgfhafppdclmaa
