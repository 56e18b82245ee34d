/- The law on a cloth behind several washes. -/
import Derived.Test.YtjgnojjndjincaaWashAll
import Derived.Test.YtjgnojjndjincaaWashOnceLaw
namespace Go.Proofs.Ytjgnojjndjincaa
open Go.RowKit
set_option linter.unusedVariables false
set_option linter.unusedSimpArgs false
set_option maxRecDepth 100000

theorem below_alloc_tou {w w1 : World} {o : Obj} (ht : Tou w.heap.size (w.alloc o) w1) : Below w.heap.size w w1 := (below_alloc (Below.refl _ _) _).trans (ht.below (Nat.le_refl _))
set_option maxHeartbeats 2000000 in
theorem walk_FnExactWashAll (W : World) (a0_0 a0_1 a0_2 a0_3 a0_4 : Int) (w0_0 : (Lit.int .i16 a0_0).wf = true) (w0_1 : (Lit.int .i16 a0_1).wf = true) (w0_2 : (Lit.int .i8 a0_2).wf = true) (w0_3 : (Lit.int .i8 a0_3).wf = true) (w0_4 : (Lit.int .i8 a0_4).wf = true) (A1 : Option Addr) (cap1 : Nat) (es1 : List (List Value)) (w1 : ∀ c ∈ es1, IntCells [.i8, .i8, .i8] c) (r1 : RdRow W A1 es1.flatten) (s1 : es1.length * 3 ≤ 140737488351232) (m1 : es1.length ≤ maxLen) (A2 : Option Addr) (cap2 : Nat) (a2 : List Int) (w2 : ∀ z ∈ a2, (Lit.int .i64 z).wf = true) (r2 : RdRow W A2 (nums .i64 a2)) (s2 : a2.length * 8 ≤ 140737488351232) (m2 : a2.length ≤ maxLen) :
    Calls Try.prog 3 #[.agg #[.int .i16 a0_0, .int .i16 a0_1, .int .i8 a0_2, .int .i8 a0_3, .int .i8 a0_4], .slice A1 es1.length cap1, .slice A2 a2.length cap2] W fun e w' => e = .returned (.bool true) ∧ Below W.heap.size W w' := by
  obtain ⟨fs1, ft1, fg1, hL1, hg1⟩ := progs_open w1 r1
  have hm1 : es1.length ≤ 9223372036854775807 := by omega
  clear w1 r1
  generalize es1.length = n1 at *
  have HG1 := Lib.hid hg1
  have HZ2 := Lib.hid (gi_bd64 w2)
  have hm2 : a2.length ≤ 9223372036854775807 := by omega
  have hL2 := r2
  obtain ⟨n2, hl2⟩ : ∃ n, a2.length = n := ⟨_, rfl⟩
  rw [hl2] at hm2 s2 m2 ⊢
  have HL2 := Lib.hid hl2
  have ha0 := Lib.hid (wf_i16 w0_0)
  have hb0 := Lib.hid (wf_i16 w0_1)
  have HI0 : Hid ((Try.prog.info? 25).map (·.size) = some 5) := by show (Try.prog.info? 25).map (·.size) = some 5; kernel_rfl
  have hbw : Below W.heap.size W (W.alloc (.cells #[.int .i16 a0_0, .int .i16 a0_1, .int .i8 a0_2, .int .i8 a0_3, .int .i8 a0_4] 25 (0, 0))) := below_alloc (Below.refl _ _) _
  have HBW := Lib.hid hbw
  have H1 := Lib.hid (hL1.below hbw)
  have H2 := Lib.hid (hL2.below hbw)
  have hA0 := heap_alloc_new W (.cells #[.int .i16 a0_0, .int .i16 a0_1, .int .i8 a0_2, .int .i8 a0_3, .int .i8 a0_4] 25 (0, 0))
  have HA0 : Hid ((W.alloc (.cells #[.int .i16 a0_0, .int .i16 a0_1, .int .i8 a0_2, .int .i8 a0_3, .int .i8 a0_4] 25 (0, 0))).heap[W.heap.size]? = some (.cells #[.int .i16 a0_0, .int .i16 a0_1, .int .i8 a0_2, .int .i8 a0_3, .int .i8 a0_4] 25 (0, 0))) := hA0
  have HB : Hid (Below (W.alloc (.cells #[.int .i16 a0_0, .int .i16 a0_1, .int .i8 a0_2, .int .i8 a0_3, .int .i8 a0_4] 25 (0, 0))).heap.size (W.alloc (.cells #[.int .i16 a0_0, .int .i16 a0_1, .int .i8 a0_2, .int .i8 a0_3, .int .i8 a0_4] 25 (0, 0))) (W.alloc (.cells #[.int .i16 a0_0, .int .i16 a0_1, .int .i8 a0_2, .int .i8 a0_3, .int .i8 a0_4] 25 (0, 0)))) := Below.refl _ _
  clear hbw hg1 s1 m1 w2 r2 hl2 s2 m2 w0_0 w0_1 w0_2 w0_3 w0_4 hL1 hL2 hA0
  by_cases hn2 : n2 ≤ 1048576
  · have dl2 : decide ((1048576 : Int) < (n2 : Int)) = false := by simp; omega
    by_cases hs1 : n1 ≤ 1048576
    · have E1 : Hid ((if (n1 : Int) ≤ (1048576 : Int) then (1048576 : Int) - (n1 : Int) else -1) = (1048576 : Int) - (n1 : Int)) := by rw [Hid, if_pos (by omega)]
      have HSz1 := fun w => Lib.hid (E1.out ▸ c_szProgramL A1 n1 cap1 ((1048576 : Int)) w hm1 (by omega) (by omega))
      have ds1 : decide ((1048576 : Int) - (n1 : Int) < 0) = false := by simp; omega
      have hn1 := hs1
      have CS := fun (w : World) (gb : Nat) (B : Option Addr) h hr => c_sWashAll a0_0 a0_1 a0_2 a0_3 a0_4 n1 n1 fs1 ft1 fg1 B n2 n2 a2 w gb ha0.out hb0.out h hn1 hr HL2.out hn2
      have CI := fun (w : World) (A B : Option Addr) h hr => c_iWashAll a0_0 a0_1 a0_2 a0_3 a0_4 n1 n1 fs1 ft1 fg1 B n2 n2 a2 w A ha0.out hb0.out h hn1 HG1.out hr HL2.out hn2
      generalize washAllF a0_0 a0_1 a0_2 a0_3 a0_4 n1 fs1 ft1 fg1 a2 = F at CS CI
      obtain ⟨⟨z0, z1, z2, z3, z4⟩, kc⟩ := F
      simp only [Cl.cells] at CS CI
      have CS := fun w gb B h hr => Lib.hid (CS w gb B h hr)
      have CI := fun w A B h hr => Lib.hid (CI w A B h hr)
      have HIB : Hid ((Try.prog.info? 29).map (·.size) = some 5) := by show (Try.prog.info? 29).map (·.size) = some 5; kernel_rfl
      have sa1 := Lib.hid True.intro
      have sa2 := Lib.hid True.intro
      have sc := Lib.hid True.intro
      go_enter Try.func3, Try.ntmps3
      go_wp2_with (first
        | (go_at_call 8; ((with_reducible refine (HSz1 _).out.mono ?_); rintro e w1 ⟨rfl, rfl⟩))
        | (refine wpList_load_row rfl 25 (.tmp 3) rfl (W.heap.size) rfl 25 #[.int .i16 a0_0, .int .i16 a0_1, .int .i8 a0_2, .int .i8 a0_3, .int .i8 a0_4] (0, 0) _ (blk_below HA0.out HB.out) Try.underlying25 rfl HI0.out ?_)
        | (go_at_call 10; ((with_reducible refine (c_toCloth a0_0 a0_1 a0_2 a0_3 a0_4 _).mono ?_); rintro e w1 ⟨rfl, hb⟩; have HB := Lib.hid (below_then HB.out hb); (try have HT1 := Lib.hid (HT1.out.below hb)); (try have HX1 := Lib.hid (HX1.out.below hb)); (try have HC1 := Lib.hid (HC1.out.below hb)); (try have HT2 := Lib.hid (HT2.out.below hb)); (try have HX2 := Lib.hid (HX2.out.below hb)); (try have HC2 := Lib.hid (HC2.out.below hb)); (try have HBX := Lib.hid (blk_below HBX.out hb)); (try have HBY := Lib.hid (blk_below HBY.out hb)); (try have HBZ := Lib.hid (blk_below HBZ.out hb)); clear hb))
        | (go_at_call 11; clear sa1; ((with_reducible refine (c_toProgramX A1 n1 cap1 fs1 ft1 fg1 _ (H1.out.below HB.out) hn1).mono ?_); rintro e w1 ⟨b, xs, rfl, hL, hO, hb⟩; have HB := Lib.hid (below_then HB.out hb); (try have HT1 := Lib.hid (HT1.out.below hb)); (try have HX1 := Lib.hid (HX1.out.below hb)); (try have HC1 := Lib.hid (HC1.out.below hb)); (try have HT2 := Lib.hid (HT2.out.below hb)); (try have HX2 := Lib.hid (HX2.out.below hb)); (try have HC2 := Lib.hid (HC2.out.below hb)); (try have HBX := Lib.hid (blk_below HBX.out hb)); (try have HBY := Lib.hid (blk_below HBY.out hb)); (try have HBZ := Lib.hid (blk_below HBZ.out hb)); clear hb; have HT1 := Lib.hid hL; clear hL hO))
        | (go_at_call 11; clear sb1; ((with_reducible refine (c_toProgramX A1 n1 cap1 fs1 ft1 fg1 _ (H1.out.below HB.out) hn1).mono ?_); rintro e w1 ⟨b, xs, rfl, hL, hO, hb⟩; have HB := Lib.hid (below_then HB.out hb); (try have HT1 := Lib.hid (HT1.out.below hb)); (try have HX1 := Lib.hid (HX1.out.below hb)); (try have HC1 := Lib.hid (HC1.out.below hb)); (try have HT2 := Lib.hid (HT2.out.below hb)); (try have HX2 := Lib.hid (HX2.out.below hb)); (try have HC2 := Lib.hid (HC2.out.below hb)); (try have HBX := Lib.hid (blk_below HBX.out hb)); (try have HBY := Lib.hid (blk_below HBY.out hb)); (try have HBZ := Lib.hid (blk_below HBZ.out hb)); clear hb; have HX1 := Lib.hid hL; clear hL hO))
        | (go_at_call 11; ((with_reducible refine (c_toProgramX A1 n1 cap1 fs1 ft1 fg1 _ (H1.out.below HB.out) hn1).mono ?_); rintro e w1 ⟨b, xs, rfl, hL, hO, hb⟩; have HB := Lib.hid (below_then HB.out hb); (try have HT1 := Lib.hid (HT1.out.below hb)); (try have HX1 := Lib.hid (HX1.out.below hb)); (try have HC1 := Lib.hid (HC1.out.below hb)); (try have HT2 := Lib.hid (HT2.out.below hb)); (try have HX2 := Lib.hid (HX2.out.below hb)); (try have HC2 := Lib.hid (HC2.out.below hb)); (try have HBX := Lib.hid (blk_below HBX.out hb)); (try have HBY := Lib.hid (blk_below HBY.out hb)); (try have HBZ := Lib.hid (blk_below HBZ.out hb)); clear hb; have HC1 := Lib.hid hL; clear hL hO))
        | (go_at_call 12; clear sa2; ((with_reducible refine (c_toInt64X A2 n2 cap2 a2 _ (H2.out.below HB.out) HL2.out hn2).mono ?_); rintro e w1 ⟨b, xs, rfl, hL, hO, hb⟩; have HB := Lib.hid (below_then HB.out hb); (try have HT1 := Lib.hid (HT1.out.below hb)); (try have HX1 := Lib.hid (HX1.out.below hb)); (try have HC1 := Lib.hid (HC1.out.below hb)); (try have HT2 := Lib.hid (HT2.out.below hb)); (try have HX2 := Lib.hid (HX2.out.below hb)); (try have HC2 := Lib.hid (HC2.out.below hb)); (try have HBX := Lib.hid (blk_below HBX.out hb)); (try have HBY := Lib.hid (blk_below HBY.out hb)); (try have HBZ := Lib.hid (blk_below HBZ.out hb)); clear hb; have HT2 := Lib.hid hL; clear hL hO))
        | (go_at_call 12; clear sb2; ((with_reducible refine (c_toInt64X A2 n2 cap2 a2 _ (H2.out.below HB.out) HL2.out hn2).mono ?_); rintro e w1 ⟨b, xs, rfl, hL, hO, hb⟩; have HB := Lib.hid (below_then HB.out hb); (try have HT1 := Lib.hid (HT1.out.below hb)); (try have HX1 := Lib.hid (HX1.out.below hb)); (try have HC1 := Lib.hid (HC1.out.below hb)); (try have HT2 := Lib.hid (HT2.out.below hb)); (try have HX2 := Lib.hid (HX2.out.below hb)); (try have HC2 := Lib.hid (HC2.out.below hb)); (try have HBX := Lib.hid (blk_below HBX.out hb)); (try have HBY := Lib.hid (blk_below HBY.out hb)); (try have HBZ := Lib.hid (blk_below HBZ.out hb)); clear hb; have HX2 := Lib.hid hL; clear hL hO))
        | (go_at_call 12; ((with_reducible refine (c_toInt64X A2 n2 cap2 a2 _ (H2.out.below HB.out) HL2.out hn2).mono ?_); rintro e w1 ⟨b, xs, rfl, hL, hO, hb⟩; have HB := Lib.hid (below_then HB.out hb); (try have HT1 := Lib.hid (HT1.out.below hb)); (try have HX1 := Lib.hid (HX1.out.below hb)); (try have HC1 := Lib.hid (HC1.out.below hb)); (try have HT2 := Lib.hid (HT2.out.below hb)); (try have HX2 := Lib.hid (HX2.out.below hb)); (try have HC2 := Lib.hid (HC2.out.below hb)); (try have HBX := Lib.hid (blk_below HBX.out hb)); (try have HBY := Lib.hid (blk_below HBY.out hb)); (try have HBZ := Lib.hid (blk_below HBZ.out hb)); clear hb; have HC2 := Lib.hid hL; clear hL hO))
        | (go_at_call 9; clear sc; ((with_reducible refine ((CS _ _ _ HT1.out HT2.out).out).mono ?_); rintro e w1 ⟨rfl, hb⟩; have HB := Lib.hid (below_then HB.out hb); (try have HT1 := Lib.hid (HT1.out.below hb)); (try have HX1 := Lib.hid (HX1.out.below hb)); (try have HC1 := Lib.hid (HC1.out.below hb)); (try have HT2 := Lib.hid (HT2.out.below hb)); (try have HX2 := Lib.hid (HX2.out.below hb)); (try have HC2 := Lib.hid (HC2.out.below hb)); (try have HBX := Lib.hid (blk_below HBX.out hb)); (try have HBY := Lib.hid (blk_below HBY.out hb)); (try have HBZ := Lib.hid (blk_below HBZ.out hb)); clear hb; have sb1 := Lib.hid True.intro; have sb2 := Lib.hid True.intro; clear HT1 HT2))
        | (go_at_call 13; ((with_reducible refine ((CI _ _ _ HX1.out HX2.out).out).mono ?_); rintro e w1 ⟨rfl, hb⟩; have HB := Lib.hid (below_then HB.out hb); (try have HT1 := Lib.hid (HT1.out.below hb)); (try have HX1 := Lib.hid (HX1.out.below hb)); (try have HC1 := Lib.hid (HC1.out.below hb)); (try have HT2 := Lib.hid (HT2.out.below hb)); (try have HX2 := Lib.hid (HX2.out.below hb)); (try have HC2 := Lib.hid (HC2.out.below hb)); (try have HBX := Lib.hid (blk_below HBX.out hb)); (try have HBY := Lib.hid (blk_below HBY.out hb)); (try have HBZ := Lib.hid (blk_below HBZ.out hb)); clear hb))
        | (refine ev_store_row rfl 29 (.tmp 8) (.tmp 30) rfl (w1.heap.size) #[.int .i16 z0, .int .i16 z1, .int .i8 z2, .int .i8 z3, .int .i8 z4] rfl rfl 29 _ (heap_alloc_new w1 _) HIB.out (Eq.refl (5 : Nat)) one5 ?_; intro w1 hblk ht; have hb := below_alloc_tou ht; clear ht; have HB := Lib.hid (below_then HB.out hb); (try have HT1 := Lib.hid (HT1.out.below hb)); (try have HX1 := Lib.hid (HX1.out.below hb)); (try have HC1 := Lib.hid (HC1.out.below hb)); (try have HT2 := Lib.hid (HT2.out.below hb)); (try have HX2 := Lib.hid (HX2.out.below hb)); (try have HC2 := Lib.hid (HC2.out.below hb)); (try have HBX := Lib.hid (blk_below HBX.out hb)); (try have HBY := Lib.hid (blk_below HBY.out hb)); (try have HBZ := Lib.hid (blk_below HBZ.out hb)); clear hb; have HBX := Lib.hid hblk; clear hblk)
        | (refine wpList_load_row rfl 29 (.tmp 8) rfl _ rfl 29 #[.int .i16 z0, .int .i16 z1, .int .i8 z2, .int .i8 z3, .int .i8 z4] (0, 0) _ HBX.out Try.underlying29 rfl HIB.out ?_)
        | (refine ev_store_row rfl 29 (.tmp 12) (.tmp 42) rfl (w1.heap.size) #[.int .i16 z0, .int .i16 z1, .int .i8 z2, .int .i8 z3, .int .i8 z4] rfl rfl 29 _ (heap_alloc_new w1 _) HIB.out (Eq.refl (5 : Nat)) one5 ?_; intro w1 hblk ht; have hb := below_alloc_tou ht; clear ht; have HB := Lib.hid (below_then HB.out hb); (try have HT1 := Lib.hid (HT1.out.below hb)); (try have HX1 := Lib.hid (HX1.out.below hb)); (try have HC1 := Lib.hid (HC1.out.below hb)); (try have HT2 := Lib.hid (HT2.out.below hb)); (try have HX2 := Lib.hid (HX2.out.below hb)); (try have HC2 := Lib.hid (HC2.out.below hb)); (try have HBX := Lib.hid (blk_below HBX.out hb)); (try have HBY := Lib.hid (blk_below HBY.out hb)); (try have HBZ := Lib.hid (blk_below HBZ.out hb)); clear hb; have HBY := Lib.hid hblk; clear hblk)
        | (refine wpList_load_row rfl 29 (.tmp 12) rfl _ rfl 29 #[.int .i16 z0, .int .i16 z1, .int .i8 z2, .int .i8 z3, .int .i8 z4] (0, 0) _ HBY.out Try.underlying29 rfl HIB.out ?_)
        | (go_at_call 14; ((with_reducible refine (c_eqCloth _ _ _ _ _ _).mono ?_); rintro e w1 ⟨rfl, hb⟩; have HB := Lib.hid (below_then HB.out hb); (try have HT1 := Lib.hid (HT1.out.below hb)); (try have HX1 := Lib.hid (HX1.out.below hb)); (try have HC1 := Lib.hid (HC1.out.below hb)); (try have HT2 := Lib.hid (HT2.out.below hb)); (try have HX2 := Lib.hid (HX2.out.below hb)); (try have HC2 := Lib.hid (HC2.out.below hb)); (try have HBX := Lib.hid (blk_below HBX.out hb)); (try have HBY := Lib.hid (blk_below HBY.out hb)); (try have HBZ := Lib.hid (blk_below HBZ.out hb)); clear hb))
        | (go_at_call 15; ((with_reducible refine (c_eqProgramS _ _ n1 _ _ fs1 ft1 fg1 _ HX1.out HC1.out hn1).mono ?_); rintro e w1 ⟨rfl, hb⟩; have HB := Lib.hid (below_then HB.out hb); (try have HT1 := Lib.hid (HT1.out.below hb)); (try have HX1 := Lib.hid (HX1.out.below hb)); (try have HC1 := Lib.hid (HC1.out.below hb)); (try have HT2 := Lib.hid (HT2.out.below hb)); (try have HX2 := Lib.hid (HX2.out.below hb)); (try have HC2 := Lib.hid (HC2.out.below hb)); (try have HBX := Lib.hid (blk_below HBX.out hb)); (try have HBY := Lib.hid (blk_below HBY.out hb)); (try have HBZ := Lib.hid (blk_below HBZ.out hb)); clear hb; clear HC1))
        | (go_at_call 16; ((with_reducible refine (c_eqInt64S _ _ n2 _ _ a2 _ HX2.out HC2.out HL2.out hn2).mono ?_); rintro e w1 ⟨rfl, hb⟩; have HB := Lib.hid (below_then HB.out hb); (try have HT1 := Lib.hid (HT1.out.below hb)); (try have HX1 := Lib.hid (HX1.out.below hb)); (try have HC1 := Lib.hid (HC1.out.below hb)); (try have HT2 := Lib.hid (HT2.out.below hb)); (try have HX2 := Lib.hid (HX2.out.below hb)); (try have HC2 := Lib.hid (HC2.out.below hb)); (try have HBX := Lib.hid (blk_below HBX.out hb)); (try have HBY := Lib.hid (blk_below HBY.out hb)); (try have HBZ := Lib.hid (blk_below HBZ.out hb)); clear hb; clear HC2)))
      go_ret
      exact ⟨rfl, below_then HBW.out HB.out⟩
    · have E1 : Hid ((if (n1 : Int) ≤ (1048576 : Int) then (1048576 : Int) - (n1 : Int) else -1) = -1) := by rw [Hid, if_neg (by omega)]
      have HSz1 := fun w => Lib.hid (E1.out ▸ c_szProgramL A1 n1 cap1 ((1048576 : Int)) w hm1 (by omega) (by omega))
      go_enter Try.func3, Try.ntmps3
      go_wp2_with (go_at_call 8; ((with_reducible refine (HSz1 _).out.mono ?_); rintro e w1 ⟨rfl, rfl⟩))
      go_ret
      exact ⟨rfl, by (repeat (first | with_reducible exact Below.refl _ _ | with_reducible refine below_alloc ?_ _ | with_reducible refine below_drew ?_ | with_reducible refine below_drewN ?_ _ | with_reducible refine below_then ?_ (by assumption)))⟩
  · have dl2 : decide ((1048576 : Int) < (n2 : Int)) = true := by simp; omega
    go_enter Try.func3, Try.ntmps3
    go_wp2
    go_ret
    exact ⟨rfl, by (repeat (first | with_reducible exact Below.refl _ _ | with_reducible refine below_alloc ?_ _ | with_reducible refine below_drew ?_ | with_reducible refine below_drewN ?_ _ | with_reducible refine below_then ?_ (by assumption)))⟩
end Go.Proofs.Ytjgnojjndjincaa
