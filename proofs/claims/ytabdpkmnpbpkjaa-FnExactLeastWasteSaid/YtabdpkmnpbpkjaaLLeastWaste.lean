/- The law on the plan that wastes the least. -/
import Derived.Test.YtabdpkmnpbpkjaaWasteSpec
namespace Go.Proofs.Ytabdpkmnpbpkjaa
open Go.RowKit
set_option linter.unusedVariables false
set_option linter.unusedSimpArgs false
set_option maxRecDepth 100000

set_option maxHeartbeats 2000000 in
theorem walk_FnExactLeastWaste (W : World) (A0 : Option Addr) (cap0 : Nat) (es0 : List (List Value)) (w0 : ∀ c ∈ es0, IntCells [.i8, .i16] c) (r0 : RdRow W A0 es0.flatten) (s0 : es0.length * 4 ≤ 140737488351232) (m0 : es0.length ≤ maxLen) (A1 : Option Addr) (cap1 : Nat) (es1 : List (List Value)) (w1 : ∀ c ∈ es1, IntCells [.i8, .i16] c) (r1 : RdRow W A1 es1.flatten) (s1 : es1.length * 4 ≤ 140737488351232) (m1 : es1.length ≤ maxLen) (a2 : Int) (w2 : (Lit.int .i64 a2).wf = true) :
    Calls Try.prog 8 #[.slice A0 es0.length cap0, .slice A1 es1.length cap1, .int .i64 a2] W fun e w' => e = .returned (.bool true) ∧ Below W.heap.size W w' := by
  obtain ⟨fs0, fg0, hL0, hg0⟩ := lots_open w0 r0
  have hm0 : es0.length ≤ 9223372036854775807 := by omega
  clear w0 r0
  generalize es0.length = n0 at *
  have HG0 := Lib.hid hg0
  obtain ⟨fs1, fg1, hL1, hg1⟩ := lots_open w1 r1
  have hm1 : es1.length ≤ 9223372036854775807 := by omega
  clear w1 r1
  generalize es1.length = n1 at *
  have HG1 := Lib.hid hg1
  have hbw : Below W.heap.size W W := Below.refl _ _
  have HBW := Lib.hid hbw
  have H0 := Lib.hid (hL0.below hbw)
  have H1 := Lib.hid (hL1.below hbw)
  have HB : Hid (Below W.heap.size W W) := Below.refl _ _
  clear hbw hg0 s0 m0 hg1 s1 m1 hL0 hL1
  by_cases hs0 : n0 ≤ 1048576
  · have E0 : Hid ((if (n0 : Int) ≤ (1048576 : Int) then (1048576 : Int) - (n0 : Int) else -1) = (1048576 : Int) - (n0 : Int)) := by rw [Hid, if_pos (by omega)]
    have HSz0 := fun w => Lib.hid (E0.out ▸ c_szLotL A0 n0 cap0 ((1048576 : Int)) w hm0 (by omega) (by omega))
    have ds0 : decide ((1048576 : Int) - (n0 : Int) < 0) = false := by simp; omega
    have hn0 := hs0
    by_cases hs1 : n0 + n1 ≤ 1048576
    · have E1 : Hid ((if (n1 : Int) ≤ (1048576 : Int) - (n0 : Int) then (1048576 : Int) - (n0 : Int) - (n1 : Int) else -1) = (1048576 : Int) - (n0 : Int) - (n1 : Int)) := by rw [Hid, if_pos (by omega)]
      have HSz1 := fun w => Lib.hid (E1.out ▸ c_szOrderL A1 n1 cap1 ((1048576 : Int) - (n0 : Int)) w hm1 (by omega) (by omega))
      have ds1 : decide ((1048576 : Int) - (n0 : Int) - (n1 : Int) < 0) = false := by simp; omega
      have hn1 : n1 ≤ 1048576 := by omega
      have HLE : Hid ((wasteR a2 n0 n1 fs0 fg0 fs1 fg1).1.length ≤ 1048576) := Nat.le_trans (wasteR_le a2 n0 n1 fs0 fg0 fs1 fg1) hn1
      have qm : decide ((1 : Int) + (((wasteR a2 n0 n1 fs0 fg0 fs1 fg1).1.length : Nat) : Int) < 0) = false := by simp; omega
      have sa0 := Lib.hid True.intro
      have sa1 := Lib.hid True.intro
      have sc := Lib.hid True.intro
      go_enter Try.func8, Try.ntmps8
      go_wp2_with (first
        | (go_at_call 10; ((with_reducible refine (HSz0 _).out.mono ?_); rintro e w1 ⟨rfl, rfl⟩))
        | (go_at_call 11; ((with_reducible refine (HSz1 _).out.mono ?_); rintro e w1 ⟨rfl, rfl⟩))
        | (go_at_call 13; clear sa0; ((with_reducible refine (c_toLotX A0 n0 cap0 fs0 fg0 _ (H0.out.below HB.out) hn0).mono ?_); rintro e w1 ⟨b, xs, rfl, hL, hO, hb⟩; have HB := Lib.hid (below_then HB.out hb); (try have HT0 := Lib.hid (HT0.out.below hb)); (try have HX0 := Lib.hid (HX0.out.below hb)); (try have HC0 := Lib.hid (HC0.out.below hb)); (try have HR0 := Lib.hid (own_below HR0.out hb)); (try have HT1 := Lib.hid (HT1.out.below hb)); (try have HX1 := Lib.hid (HX1.out.below hb)); (try have HC1 := Lib.hid (HC1.out.below hb)); (try have HR1 := Lib.hid (own_below HR1.out hb)); (try have HV := Lib.hid (own_below HV.out hb)); (try have HU := Lib.hid (own_below HU.out hb)); clear hb; have HT0 := Lib.hid hL; clear hL hO))
        | (go_at_call 13; clear sb0; ((with_reducible refine (c_toLotX A0 n0 cap0 fs0 fg0 _ (H0.out.below HB.out) hn0).mono ?_); rintro e w1 ⟨b, xs, rfl, hL, hO, hb⟩; have AV0 := Lib.hid (apart_of (own_lo HV.out (Nat.le_refl _)) (own_up hO)); have hO := own_mono hO HB.out.size; have HB := Lib.hid (below_then HB.out hb); (try have HT0 := Lib.hid (HT0.out.below hb)); (try have HX0 := Lib.hid (HX0.out.below hb)); (try have HC0 := Lib.hid (HC0.out.below hb)); (try have HR0 := Lib.hid (own_below HR0.out hb)); (try have HT1 := Lib.hid (HT1.out.below hb)); (try have HX1 := Lib.hid (HX1.out.below hb)); (try have HC1 := Lib.hid (HC1.out.below hb)); (try have HR1 := Lib.hid (own_below HR1.out hb)); (try have HV := Lib.hid (own_below HV.out hb)); (try have HU := Lib.hid (own_below HU.out hb)); clear hb; have HX0 := Lib.hid hL; have HR0 := Lib.hid hO; clear hL hO))
        | (go_at_call 13; ((with_reducible refine (c_toLotX A0 n0 cap0 fs0 fg0 _ (H0.out.below HB.out) hn0).mono ?_); rintro e w1 ⟨b, xs, rfl, hL, hO, hb⟩; have HB := Lib.hid (below_then HB.out hb); (try have HT0 := Lib.hid (HT0.out.below hb)); (try have HX0 := Lib.hid (HX0.out.below hb)); (try have HC0 := Lib.hid (HC0.out.below hb)); (try have HR0 := Lib.hid (own_below HR0.out hb)); (try have HT1 := Lib.hid (HT1.out.below hb)); (try have HX1 := Lib.hid (HX1.out.below hb)); (try have HC1 := Lib.hid (HC1.out.below hb)); (try have HR1 := Lib.hid (own_below HR1.out hb)); (try have HV := Lib.hid (own_below HV.out hb)); (try have HU := Lib.hid (own_below HU.out hb)); clear hb; have HC0 := Lib.hid hL; clear hL hO))
        | (go_at_call 14; clear sa1; ((with_reducible refine (c_toOrderX A1 n1 cap1 fs1 fg1 _ (H1.out.below HB.out) hn1).mono ?_); rintro e w1 ⟨b, xs, rfl, hL, hO, hb⟩; have HB := Lib.hid (below_then HB.out hb); (try have HT0 := Lib.hid (HT0.out.below hb)); (try have HX0 := Lib.hid (HX0.out.below hb)); (try have HC0 := Lib.hid (HC0.out.below hb)); (try have HR0 := Lib.hid (own_below HR0.out hb)); (try have HT1 := Lib.hid (HT1.out.below hb)); (try have HX1 := Lib.hid (HX1.out.below hb)); (try have HC1 := Lib.hid (HC1.out.below hb)); (try have HR1 := Lib.hid (own_below HR1.out hb)); (try have HV := Lib.hid (own_below HV.out hb)); (try have HU := Lib.hid (own_below HU.out hb)); clear hb; have HT1 := Lib.hid hL; clear hL hO))
        | (go_at_call 14; clear sb1; ((with_reducible refine (c_toOrderX A1 n1 cap1 fs1 fg1 _ (H1.out.below HB.out) hn1).mono ?_); rintro e w1 ⟨b, xs, rfl, hL, hO, hb⟩; have AV1 := Lib.hid (apart_of (own_lo HV.out (Nat.le_refl _)) (own_up hO)); have AX0_1 := Lib.hid (apart_of (own_lo HR0.out (Nat.le_refl _)) (own_up hO)); have hO := own_mono hO HB.out.size; have HB := Lib.hid (below_then HB.out hb); (try have HT0 := Lib.hid (HT0.out.below hb)); (try have HX0 := Lib.hid (HX0.out.below hb)); (try have HC0 := Lib.hid (HC0.out.below hb)); (try have HR0 := Lib.hid (own_below HR0.out hb)); (try have HT1 := Lib.hid (HT1.out.below hb)); (try have HX1 := Lib.hid (HX1.out.below hb)); (try have HC1 := Lib.hid (HC1.out.below hb)); (try have HR1 := Lib.hid (own_below HR1.out hb)); (try have HV := Lib.hid (own_below HV.out hb)); (try have HU := Lib.hid (own_below HU.out hb)); clear hb; have HX1 := Lib.hid hL; have HR1 := Lib.hid hO; clear hL hO))
        | (go_at_call 14; ((with_reducible refine (c_toOrderX A1 n1 cap1 fs1 fg1 _ (H1.out.below HB.out) hn1).mono ?_); rintro e w1 ⟨b, xs, rfl, hL, hO, hb⟩; have HB := Lib.hid (below_then HB.out hb); (try have HT0 := Lib.hid (HT0.out.below hb)); (try have HX0 := Lib.hid (HX0.out.below hb)); (try have HC0 := Lib.hid (HC0.out.below hb)); (try have HR0 := Lib.hid (own_below HR0.out hb)); (try have HT1 := Lib.hid (HT1.out.below hb)); (try have HX1 := Lib.hid (HX1.out.below hb)); (try have HC1 := Lib.hid (HC1.out.below hb)); (try have HR1 := Lib.hid (own_below HR1.out hb)); (try have HV := Lib.hid (own_below HV.out hb)); (try have HU := Lib.hid (own_below HU.out hb)); clear hb; have HC1 := Lib.hid hL; clear hL hO))
        | (go_at_call 34; clear sc; ((with_reducible refine (c_sLeastWaste _ _ n0 n1 _ _ a2 fs0 fg0 fs1 fg1 _ HT0.out HT1.out hn0 hn1 HG0.out HG1.out).mono ?_); rintro e w1 ⟨v, rfl, hO, hb⟩; have hO := own_mono hO HB.out.size; have HB := Lib.hid (below_then HB.out hb); (try have HT0 := Lib.hid (HT0.out.below hb)); (try have HX0 := Lib.hid (HX0.out.below hb)); (try have HC0 := Lib.hid (HC0.out.below hb)); (try have HR0 := Lib.hid (own_below HR0.out hb)); (try have HT1 := Lib.hid (HT1.out.below hb)); (try have HX1 := Lib.hid (HX1.out.below hb)); (try have HC1 := Lib.hid (HC1.out.below hb)); (try have HR1 := Lib.hid (own_below HR1.out hb)); (try have HV := Lib.hid (own_below HV.out hb)); (try have HU := Lib.hid (own_below HU.out hb)); clear hb; have HV := Lib.hid hO; clear hO; have sb0 := Lib.hid True.intro; have sb1 := Lib.hid True.intro; clear HT0 HT1))
        | (go_at_call 35; have KU := HU; ((with_reducible refine (c_iLeastWaste _ _ n0 n1 _ _ a2 fs0 fg0 fs1 fg1 _ HC0.out HC1.out hn0 hn1 HG0.out HG1.out).mono ?_); rintro e w1 ⟨v3, rfl, hO, hb⟩; have HB := Lib.hid (below_then HB.out hb); (try have HT0 := Lib.hid (HT0.out.below hb)); (try have HX0 := Lib.hid (HX0.out.below hb)); (try have HC0 := Lib.hid (HC0.out.below hb)); (try have HR0 := Lib.hid (own_below HR0.out hb)); (try have HT1 := Lib.hid (HT1.out.below hb)); (try have HX1 := Lib.hid (HX1.out.below hb)); (try have HC1 := Lib.hid (HC1.out.below hb)); (try have HR1 := Lib.hid (own_below HR1.out hb)); (try have HV := Lib.hid (own_below HV.out hb)); (try have HU := Lib.hid (own_below HU.out hb)); clear hb; have HH := Lib.hid hO; clear hO KU))
        | (go_at_call 35; ((with_reducible refine (c_iLeastWaste _ _ n0 n1 _ _ a2 fs0 fg0 fs1 fg1 _ HX0.out HX1.out hn0 hn1 HG0.out HG1.out).mono ?_); rintro e w1 ⟨v2, rfl, hO, hb⟩; have AU0 := Lib.hid (apart_of (own_lo HR0.out (Nat.le_refl _)) (own_up hO)); have AU1 := Lib.hid (apart_of (own_lo HR1.out (Nat.le_refl _)) (own_up hO)); have AVU := Lib.hid (apart_of (own_lo HV.out (Nat.le_refl _)) (own_up hO)); have hO := own_mono hO HB.out.size; have HB := Lib.hid (below_then HB.out hb); (try have HT0 := Lib.hid (HT0.out.below hb)); (try have HX0 := Lib.hid (HX0.out.below hb)); (try have HC0 := Lib.hid (HC0.out.below hb)); (try have HR0 := Lib.hid (own_below HR0.out hb)); (try have HT1 := Lib.hid (HT1.out.below hb)); (try have HX1 := Lib.hid (HX1.out.below hb)); (try have HC1 := Lib.hid (HC1.out.below hb)); (try have HR1 := Lib.hid (own_below HR1.out hb)); (try have HV := Lib.hid (own_below HV.out hb)); (try have HU := Lib.hid (own_below HU.out hb)); clear hb; have HU := Lib.hid hO; clear hO))
        | (go_at_call 17; ((with_reducible refine (c_eqLotS _ _ n0 _ _ fs0 fg0 _ HX0.out HC0.out hn0).mono ?_); rintro e w1 ⟨rfl, hb⟩; have HB := Lib.hid (below_then HB.out hb); (try have HT0 := Lib.hid (HT0.out.below hb)); (try have HX0 := Lib.hid (HX0.out.below hb)); (try have HC0 := Lib.hid (HC0.out.below hb)); (try have HR0 := Lib.hid (own_below HR0.out hb)); (try have HT1 := Lib.hid (HT1.out.below hb)); (try have HX1 := Lib.hid (HX1.out.below hb)); (try have HC1 := Lib.hid (HC1.out.below hb)); (try have HR1 := Lib.hid (own_below HR1.out hb)); (try have HV := Lib.hid (own_below HV.out hb)); (try have HU := Lib.hid (own_below HU.out hb)); clear hb; clear HC0))
        | (go_at_call 18; ((with_reducible refine (c_eqOrderS _ _ n1 _ _ fs1 fg1 _ HX1.out HC1.out hn1).mono ?_); rintro e w1 ⟨rfl, hb⟩; have HB := Lib.hid (below_then HB.out hb); (try have HT0 := Lib.hid (HT0.out.below hb)); (try have HX0 := Lib.hid (HX0.out.below hb)); (try have HC0 := Lib.hid (HC0.out.below hb)); (try have HR0 := Lib.hid (own_below HR0.out hb)); (try have HT1 := Lib.hid (HT1.out.below hb)); (try have HX1 := Lib.hid (HX1.out.below hb)); (try have HC1 := Lib.hid (HC1.out.below hb)); (try have HR1 := Lib.hid (own_below HR1.out hb)); (try have HV := Lib.hid (own_below HV.out hb)); (try have HU := Lib.hid (own_below HU.out hb)); clear hb; clear HC1))
        | (go_at_call 25; ((with_reducible refine (c_eqOwn64 _ _ _ _ _ _ _ HH.out HV.out HLE.out).mono ?_); rintro e w1 ⟨rfl, hb⟩; have HB := Lib.hid (below_then HB.out hb); (try have HT0 := Lib.hid (HT0.out.below hb)); (try have HX0 := Lib.hid (HX0.out.below hb)); (try have HC0 := Lib.hid (HC0.out.below hb)); (try have HR0 := Lib.hid (own_below HR0.out hb)); (try have HT1 := Lib.hid (HT1.out.below hb)); (try have HX1 := Lib.hid (HX1.out.below hb)); (try have HC1 := Lib.hid (HC1.out.below hb)); (try have HR1 := Lib.hid (own_below HR1.out hb)); (try have HV := Lib.hid (own_below HV.out hb)); (try have HU := Lib.hid (own_below HU.out hb)); clear hb))
        | (go_at_call 25; ((with_reducible refine (c_eqOwn64 _ _ _ _ _ _ _ HU.out HV.out HLE.out).mono ?_); rintro e w1 ⟨rfl, hb⟩; have HB := Lib.hid (below_then HB.out hb); (try have HT0 := Lib.hid (HT0.out.below hb)); (try have HX0 := Lib.hid (HX0.out.below hb)); (try have HC0 := Lib.hid (HC0.out.below hb)); (try have HR0 := Lib.hid (own_below HR0.out hb)); (try have HT1 := Lib.hid (HT1.out.below hb)); (try have HX1 := Lib.hid (HX1.out.below hb)); (try have HC1 := Lib.hid (HC1.out.below hb)); (try have HR1 := Lib.hid (own_below HR1.out hb)); (try have HV := Lib.hid (own_below HV.out hb)); (try have HU := Lib.hid (own_below HU.out hb)); clear hb))
        | (go_at_call 19; ((with_reducible refine (c_markLotE _ _ _ _ _ _ HR0.out hn0 ?_ ?_).mono ?_); (omega); (omega); rintro e w1 ⟨r0, rfl, ra0, rb0, ⟨ys, hO⟩, ht⟩; have dr0 : decide (r0 < 0) = false := (by simp; omega); have HB := Lib.hid (HB.out.trans (ht.below (own_up hO))); have HV := Lib.hid (own_touV HV.out ht AV0.out.ne); have HU := Lib.hid (own_touV HU.out ht AU0.out.symm.ne); have HR1 := Lib.hid (own_touV HR1.out ht AX0_1.out.symm.ne); clear hO ht HR0 HX0))
        | (go_at_call 20; ((with_reducible refine (c_markOrderE _ _ _ _ _ _ HR1.out hn1 ?_ ?_).mono ?_); (omega); (omega); rintro e w1 ⟨r1, rfl, ra1, rb1, ⟨ys, hO⟩, ht⟩; have dr1 : decide (r1 < 0) = false := (by simp; omega); have HB := Lib.hid (HB.out.trans (ht.below (own_up hO))); have HV := Lib.hid (own_touV HV.out ht AV1.out.ne); have HU := Lib.hid (own_touV HU.out ht AU1.out.symm.ne); clear hO ht HR1 HX1))
        | (go_at_call 26; ((with_reducible refine (c_markInt641 _ _ _ _ _ HU.out HLE.out).mono ?_); rintro e w1 ⟨rfl, hO, ht⟩; have HB := Lib.hid (HB.out.trans (ht.below (own_up hO))); have HV := Lib.hid (own_touV HV.out ht AVU.out.ne); have HU := Lib.hid hO; clear hO ht))
        | (go_at_call 27; ((with_reducible refine (c_heldInt641 _ _ _ _ HU.out HLE.out).mono ?_); rintro e w1 ⟨rfl, rfl⟩)))
      go_ret
      exact ⟨rfl, below_then HBW.out HB.out⟩
    · have E1 : Hid ((if (n1 : Int) ≤ (1048576 : Int) - (n0 : Int) then (1048576 : Int) - (n0 : Int) - (n1 : Int) else -1) = -1) := by rw [Hid, if_neg (by omega)]
      have HSz1 := fun w => Lib.hid (E1.out ▸ c_szOrderL A1 n1 cap1 ((1048576 : Int) - (n0 : Int)) w hm1 (by omega) (by omega))
      go_enter Try.func8, Try.ntmps8
      go_wp2_with (first
        | (go_at_call 10; ((with_reducible refine (HSz0 _).out.mono ?_); rintro e w1 ⟨rfl, rfl⟩))
        | (go_at_call 11; ((with_reducible refine (HSz1 _).out.mono ?_); rintro e w1 ⟨rfl, rfl⟩)))
      go_ret
      exact ⟨rfl, by (repeat (first | with_reducible exact Below.refl _ _ | with_reducible refine below_alloc ?_ _ | with_reducible refine below_drew ?_ | with_reducible refine below_drewN ?_ _ | with_reducible refine below_then ?_ (by assumption)))⟩
  · have E0 : Hid ((if (n0 : Int) ≤ (1048576 : Int) then (1048576 : Int) - (n0 : Int) else -1) = -1) := by rw [Hid, if_neg (by omega)]
    have HSz0 := fun w => Lib.hid (E0.out ▸ c_szLotL A0 n0 cap0 ((1048576 : Int)) w hm0 (by omega) (by omega))
    go_enter Try.func8, Try.ntmps8
    go_wp2_with (go_at_call 10; ((with_reducible refine (HSz0 _).out.mono ?_); rintro e w1 ⟨rfl, rfl⟩))
    go_ret
    exact ⟨rfl, by (repeat (first | with_reducible exact Below.refl _ _ | with_reducible refine below_alloc ?_ _ | with_reducible refine below_drew ?_ | with_reducible refine below_drewN ?_ _ | with_reducible refine below_then ?_ (by assumption)))⟩
end Go.Proofs.Ytabdpkmnpbpkjaa
