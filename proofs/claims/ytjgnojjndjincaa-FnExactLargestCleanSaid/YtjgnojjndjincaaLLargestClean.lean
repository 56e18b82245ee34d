/- The law on LargestClean. -/
import Derived.Test.YtjgnojjndjincaaTreeThree
import Derived.Test.YtjgnojjndjincaaInt64S
import Derived.Test.YtjgnojjndjincaaGentle
namespace Go.Proofs.Ytjgnojjndjincaa
open Go.RowKit
set_option linter.unusedVariables false
set_option linter.unusedSimpArgs false
set_option maxRecDepth 100000

set_option maxHeartbeats 2000000 in
theorem walk_FnExactLargestClean (W : World) (a0_0 a0_1 a0_2 a0_3 a0_4 : Int) (w0_0 : (Lit.int .i16 a0_0).wf = true) (w0_1 : (Lit.int .i16 a0_1).wf = true) (w0_2 : (Lit.int .i8 a0_2).wf = true) (w0_3 : (Lit.int .i8 a0_3).wf = true) (w0_4 : (Lit.int .i8 a0_4).wf = true) (A1 : Option Addr) (cap1 : Nat) (es1 : List (List Value)) (w1 : ∀ c ∈ es1, IntCells [.i8, .i8, .i8] c) (r1 : RdRow W A1 es1.flatten) (s1 : es1.length * 3 ≤ 140737488351232) (m1 : es1.length ≤ maxLen) (a2 : Int) (w2 : (Lit.int .i64 a2).wf = true) :
    Calls Try.prog 5 #[.agg #[.int .i16 a0_0, .int .i16 a0_1, .int .i8 a0_2, .int .i8 a0_3, .int .i8 a0_4], .slice A1 es1.length cap1, .int .i64 a2] W fun e w' => e = .returned (.bool true) ∧ Below W.heap.size W w' := by
  obtain ⟨fs1, ft1, fg1, hL1, hg1⟩ := progs_open w1 r1
  have hm1 : es1.length ≤ 9223372036854775807 := by omega
  clear w1 r1
  generalize es1.length = n1 at *
  have HG1 := Lib.hid hg1
  have ha0 := Lib.hid (wf_i16 w0_0)
  have hb0 := Lib.hid (wf_i16 w0_1)
  have HI0 : Hid ((Try.prog.info? 25).map (·.size) = some 5) := by show (Try.prog.info? 25).map (·.size) = some 5; kernel_rfl
  have hbw : Below W.heap.size W (W.alloc (.cells #[.int .i16 a0_0, .int .i16 a0_1, .int .i8 a0_2, .int .i8 a0_3, .int .i8 a0_4] 25 (0, 0))) := below_alloc (Below.refl _ _) _
  have HBW := Lib.hid hbw
  have H1 := Lib.hid (hL1.below hbw)
  have hA0 := heap_alloc_new W (.cells #[.int .i16 a0_0, .int .i16 a0_1, .int .i8 a0_2, .int .i8 a0_3, .int .i8 a0_4] 25 (0, 0))
  have HA0 : Hid ((W.alloc (.cells #[.int .i16 a0_0, .int .i16 a0_1, .int .i8 a0_2, .int .i8 a0_3, .int .i8 a0_4] 25 (0, 0))).heap[W.heap.size]? = some (.cells #[.int .i16 a0_0, .int .i16 a0_1, .int .i8 a0_2, .int .i8 a0_3, .int .i8 a0_4] 25 (0, 0))) := hA0
  have HB : Hid (Below (W.alloc (.cells #[.int .i16 a0_0, .int .i16 a0_1, .int .i8 a0_2, .int .i8 a0_3, .int .i8 a0_4] 25 (0, 0))).heap.size (W.alloc (.cells #[.int .i16 a0_0, .int .i16 a0_1, .int .i8 a0_2, .int .i8 a0_3, .int .i8 a0_4] 25 (0, 0))) (W.alloc (.cells #[.int .i16 a0_0, .int .i16 a0_1, .int .i8 a0_2, .int .i8 a0_3, .int .i8 a0_4] 25 (0, 0)))) := Below.refl _ _
  clear hbw hg1 s1 m1 w0_0 w0_1 w0_2 w0_3 w0_4 hL1 hA0
  by_cases hs1 : n1 ≤ 1048576
  · have E1 : Hid ((if (n1 : Int) ≤ (1048576 : Int) then (1048576 : Int) - (n1 : Int) else -1) = (1048576 : Int) - (n1 : Int)) := by rw [Hid, if_pos (by omega)]
    have HSz1 := fun w => Lib.hid (E1.out ▸ c_szProgramL A1 n1 cap1 ((1048576 : Int)) w hm1 (by omega) (by omega))
    have ds1 : decide ((1048576 : Int) - (n1 : Int) < 0) = false := by simp; omega
    have hn1 := hs1
    have HLE : Hid ((bestR areaF a0_0 a0_1 a0_2 a0_3 a0_4 n1 fs1 ft1 fg1 a2).1.o.length ≤ 1048576) := bestR_le
    have qm : decide ((1 : Int) + (((bestR areaF a0_0 a0_1 a0_2 a0_3 a0_4 n1 fs1 ft1 fg1 a2).1.o.length : Nat) : Int) < 0) = false := by simp; omega
    have sa1 := Lib.hid True.intro
    have sc := Lib.hid True.intro
    go_enter Try.func5, Try.ntmps5
    go_wp2_with (first
      | (go_at_call 8; ((with_reducible refine (HSz1 _).out.mono ?_); rintro e w1 ⟨rfl, rfl⟩))
      | (refine wpList_load_row rfl 25 (.tmp 3) rfl (W.heap.size) rfl 25 #[.int .i16 a0_0, .int .i16 a0_1, .int .i8 a0_2, .int .i8 a0_3, .int .i8 a0_4] (0, 0) _ (blk_below HA0.out HB.out) Try.underlying25 rfl HI0.out ?_)
      | (go_at_call 10; ((with_reducible refine (c_toCloth a0_0 a0_1 a0_2 a0_3 a0_4 _).mono ?_); rintro e w1 ⟨rfl, hb⟩; have HB := Lib.hid (below_then HB.out hb); (try have HT1 := Lib.hid (HT1.out.below hb)); (try have HX1 := Lib.hid (HX1.out.below hb)); (try have HC1 := Lib.hid (HC1.out.below hb)); (try have HR1 := Lib.hid (own_below HR1.out hb)); (try have HV := Lib.hid (own_below HV.out hb)); (try have HU := Lib.hid (own_below HU.out hb)); clear hb))
      | (go_at_call 11; clear sa1; ((with_reducible refine (c_toProgramX A1 n1 cap1 fs1 ft1 fg1 _ (H1.out.below HB.out) hn1).mono ?_); rintro e w1 ⟨b, xs, rfl, hL, hO, hb⟩; have HB := Lib.hid (below_then HB.out hb); (try have HT1 := Lib.hid (HT1.out.below hb)); (try have HX1 := Lib.hid (HX1.out.below hb)); (try have HC1 := Lib.hid (HC1.out.below hb)); (try have HR1 := Lib.hid (own_below HR1.out hb)); (try have HV := Lib.hid (own_below HV.out hb)); (try have HU := Lib.hid (own_below HU.out hb)); clear hb; have HT1 := Lib.hid hL; clear hL hO))
      | (go_at_call 11; clear sb1; ((with_reducible refine (c_toProgramX A1 n1 cap1 fs1 ft1 fg1 _ (H1.out.below HB.out) hn1).mono ?_); rintro e w1 ⟨b, xs, rfl, hL, hO, hb⟩; have AV1 := Lib.hid (apart_of (own_lo HV.out (Nat.le_refl _)) (own_up hO)); have hO := own_mono hO HB.out.size; have HB := Lib.hid (below_then HB.out hb); (try have HT1 := Lib.hid (HT1.out.below hb)); (try have HX1 := Lib.hid (HX1.out.below hb)); (try have HC1 := Lib.hid (HC1.out.below hb)); (try have HR1 := Lib.hid (own_below HR1.out hb)); (try have HV := Lib.hid (own_below HV.out hb)); (try have HU := Lib.hid (own_below HU.out hb)); clear hb; have HX1 := Lib.hid hL; have HR1 := Lib.hid hO; clear hL hO))
      | (go_at_call 11; ((with_reducible refine (c_toProgramX A1 n1 cap1 fs1 ft1 fg1 _ (H1.out.below HB.out) hn1).mono ?_); rintro e w1 ⟨b, xs, rfl, hL, hO, hb⟩; have HB := Lib.hid (below_then HB.out hb); (try have HT1 := Lib.hid (HT1.out.below hb)); (try have HX1 := Lib.hid (HX1.out.below hb)); (try have HC1 := Lib.hid (HC1.out.below hb)); (try have HR1 := Lib.hid (own_below HR1.out hb)); (try have HV := Lib.hid (own_below HV.out hb)); (try have HU := Lib.hid (own_below HU.out hb)); clear hb; have HC1 := Lib.hid hL; clear hL hO))
      | (go_at_call 22; clear sc; ((with_reducible refine (c_sLargestClean _ a0_0 a0_1 a0_2 a0_3 a0_4 n1 _ fs1 ft1 fg1 a2 _ ha0.out hb0.out HT1.out hn1).mono ?_); rintro e w1 ⟨v, rfl, hO, hb⟩; have hO := own_mono hO HB.out.size; have HB := Lib.hid (below_then HB.out hb); (try have HT1 := Lib.hid (HT1.out.below hb)); (try have HX1 := Lib.hid (HX1.out.below hb)); (try have HC1 := Lib.hid (HC1.out.below hb)); (try have HR1 := Lib.hid (own_below HR1.out hb)); (try have HV := Lib.hid (own_below HV.out hb)); (try have HU := Lib.hid (own_below HU.out hb)); clear hb; have HV := Lib.hid hO; clear hO; have sb1 := Lib.hid True.intro; clear HT1))
      | (go_at_call 23; have KU := HU; ((with_reducible refine (c_iLargestClean _ a0_0 a0_1 a0_2 a0_3 a0_4 n1 _ fs1 ft1 fg1 a2 _ ha0.out hb0.out HC1.out hn1 HG1.out).mono ?_); rintro e w1 ⟨v3, rfl, hO, hb⟩; have HB := Lib.hid (below_then HB.out hb); (try have HT1 := Lib.hid (HT1.out.below hb)); (try have HX1 := Lib.hid (HX1.out.below hb)); (try have HC1 := Lib.hid (HC1.out.below hb)); (try have HR1 := Lib.hid (own_below HR1.out hb)); (try have HV := Lib.hid (own_below HV.out hb)); (try have HU := Lib.hid (own_below HU.out hb)); clear hb; have HH := Lib.hid hO; clear hO KU))
      | (go_at_call 23; ((with_reducible refine (c_iLargestClean _ a0_0 a0_1 a0_2 a0_3 a0_4 n1 _ fs1 ft1 fg1 a2 _ ha0.out hb0.out HX1.out hn1 HG1.out).mono ?_); rintro e w1 ⟨v2, rfl, hO, hb⟩; have AU1 := Lib.hid (apart_of (own_lo HR1.out (Nat.le_refl _)) (own_up hO)); have AVU := Lib.hid (apart_of (own_lo HV.out (Nat.le_refl _)) (own_up hO)); have hO := own_mono hO HB.out.size; have HB := Lib.hid (below_then HB.out hb); (try have HT1 := Lib.hid (HT1.out.below hb)); (try have HX1 := Lib.hid (HX1.out.below hb)); (try have HC1 := Lib.hid (HC1.out.below hb)); (try have HR1 := Lib.hid (own_below HR1.out hb)); (try have HV := Lib.hid (own_below HV.out hb)); (try have HU := Lib.hid (own_below HU.out hb)); clear hb; have HU := Lib.hid hO; clear hO))
      | (go_at_call 15; ((with_reducible refine (c_eqProgramS _ _ n1 _ _ fs1 ft1 fg1 _ HX1.out HC1.out hn1).mono ?_); rintro e w1 ⟨rfl, hb⟩; have HB := Lib.hid (below_then HB.out hb); (try have HT1 := Lib.hid (HT1.out.below hb)); (try have HX1 := Lib.hid (HX1.out.below hb)); (try have HC1 := Lib.hid (HC1.out.below hb)); (try have HR1 := Lib.hid (own_below HR1.out hb)); (try have HV := Lib.hid (own_below HV.out hb)); (try have HU := Lib.hid (own_below HU.out hb)); clear hb; clear HC1))
      | (go_at_call 16; ((with_reducible refine (c_eqOwn64 _ _ _ _ _ _ _ HH.out HV.out HLE.out).mono ?_); rintro e w1 ⟨rfl, hb⟩; have HB := Lib.hid (below_then HB.out hb); (try have HT1 := Lib.hid (HT1.out.below hb)); (try have HX1 := Lib.hid (HX1.out.below hb)); (try have HC1 := Lib.hid (HC1.out.below hb)); (try have HR1 := Lib.hid (own_below HR1.out hb)); (try have HV := Lib.hid (own_below HV.out hb)); (try have HU := Lib.hid (own_below HU.out hb)); clear hb))
      | (go_at_call 16; ((with_reducible refine (c_eqOwn64 _ _ _ _ _ _ _ HU.out HV.out HLE.out).mono ?_); rintro e w1 ⟨rfl, hb⟩; have HB := Lib.hid (below_then HB.out hb); (try have HT1 := Lib.hid (HT1.out.below hb)); (try have HX1 := Lib.hid (HX1.out.below hb)); (try have HC1 := Lib.hid (HC1.out.below hb)); (try have HR1 := Lib.hid (own_below HR1.out hb)); (try have HV := Lib.hid (own_below HV.out hb)); (try have HU := Lib.hid (own_below HU.out hb)); clear hb))
      | (go_at_call 19; ((with_reducible refine (c_markProgramE _ _ _ _ _ _ HR1.out hn1 ?_ ?_).mono ?_); (omega); (omega); rintro e w1 ⟨r1, rfl, ra1, rb1, ⟨ys, hO⟩, ht⟩; have dr1 : decide (r1 < 0) = false := (by simp; omega); have HB := Lib.hid (HB.out.trans (ht.below (own_up hO))); have HV := Lib.hid (own_touV HV.out ht AV1.out.ne); have HU := Lib.hid (own_touV HU.out ht AU1.out.symm.ne); clear hO ht HR1 HX1))
      | (go_at_call 20; ((with_reducible refine (c_markInt641 _ _ _ _ _ HU.out HLE.out).mono ?_); rintro e w1 ⟨rfl, hO, ht⟩; have HB := Lib.hid (HB.out.trans (ht.below (own_up hO))); have HV := Lib.hid (own_touV HV.out ht AVU.out.ne); have HU := Lib.hid hO; clear hO ht))
      | (go_at_call 21; ((with_reducible refine (c_heldInt641 _ _ _ _ HU.out HLE.out).mono ?_); rintro e w1 ⟨rfl, rfl⟩)))
    go_ret
    exact ⟨rfl, below_then HBW.out HB.out⟩
  · have E1 : Hid ((if (n1 : Int) ≤ (1048576 : Int) then (1048576 : Int) - (n1 : Int) else -1) = -1) := by rw [Hid, if_neg (by omega)]
    have HSz1 := fun w => Lib.hid (E1.out ▸ c_szProgramL A1 n1 cap1 ((1048576 : Int)) w hm1 (by omega) (by omega))
    go_enter Try.func5, Try.ntmps5
    go_wp2_with (go_at_call 8; ((with_reducible refine (HSz1 _).out.mono ?_); rintro e w1 ⟨rfl, rfl⟩))
    go_ret
    exact ⟨rfl, by (repeat (first | with_reducible exact Below.refl _ _ | with_reducible refine below_alloc ?_ _ | with_reducible refine below_drew ?_ | with_reducible refine below_drewN ?_ _ | with_reducible refine below_then ?_ (by assumption)))⟩
end Go.Proofs.Ytjgnojjndjincaa
