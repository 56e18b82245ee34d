/- The holes without one spot. -/
import Derived.Test.YtcbegcekdmmjpaaSpotSpec
import Derived.Deep.RegionHeld3
namespace Go.Proofs.Ytcbegcekdmmjpaa
open Go.RowKit
set_option linter.unusedVariables false
set_option linter.unusedSimpArgs false
set_option maxRecDepth 100000

noncomputable def mendF (hs : List Int) (x y : Int) : List Int × Int := if (inB x 0 7 && inB y 0 7) = true then (if hole hs x y = true then (less hs (spot hs x y), 0) else (noHoles, 6)) else (noHoles, 2)
theorem mendF8 (hs : List Int) (x y : Int) : Holes8 (mendF hs x y).1 := by
  unfold mendF
  split
  · split
    · exact less8 _ _
    · exact noHoles8
  · exact noHoles8
theorem hole_off2 {hs : List Int} {x y : Int} (h : (inB x 0 7 && inB y 0 7) = true) : ∃ a b : Nat, a < 8 ∧ b < 8 ∧ x = a ∧ y = b := by
  simp [inB] at h
  obtain ⟨⟨h1, h2⟩, h3, h4⟩ := h
  obtain ⟨a, rfl⟩ := Int.eq_ofNat_of_zero_le h1
  obtain ⟨b, rfl⟩ := Int.eq_ofNat_of_zero_le h3
  exact ⟨a, b, by omega, by omega, rfl, rfl⟩
section
variable (hs : List Int) (x y : Int) (w : World)
set_option maxHeartbeats 2000000 in
theorem c_iMendSpot (h8 : Holes8 hs) :
    Calls Try.prog 19 #[.agg (nums .u8 hs).toArray, .int .i64 x, .int .i64 y] w fun e w' => e = .returned (.tuple #[.agg (nums .u8 (mendF hs x y).1).toArray, .int .i64 (mendF hs x y).2]) ∧ Below w.heap.size w w' := by
  have H8 := Lib.hid h8
  have HIZ := Lib.hid (holes_info noHoles8.len)
  have g0 := blk_alloc (heap_alloc_new w (.cells (nums .u8 hs).toArray 25 (0, 0))) (.cells #[.int .u8 0, .int .u8 0, .int .u8 0, .int .u8 0, .int .u8 0, .int .u8 0, .int .u8 0, .int .u8 0] 25 (0, 0))
  have g1 := heap_alloc_new (w.alloc (.cells (nums .u8 hs).toArray 25 (0, 0))) (.cells #[.int .u8 0, .int .u8 0, .int .u8 0, .int .u8 0, .int .u8 0, .int .u8 0, .int .u8 0, .int .u8 0] 25 (0, 0))
  rw [World.size_alloc] at g1
  have G0 := Lib.hid g0
  have G1 : Hid (((w.alloc (.cells (nums .u8 hs).toArray 25 (0, 0))).alloc (.cells #[.int .u8 0, .int .u8 0, .int .u8 0, .int .u8 0, .int .u8 0, .int .u8 0, .int .u8 0, .int .u8 0] 25 (0, 0))).heap[w.heap.size + 1]? = some (.cells (nums .u8 noHoles).toArray 25 (0, 0))) := g1
  have HB0 : Hid (Below w.heap.size w ((w.alloc (.cells (nums .u8 hs).toArray 25 (0, 0))).alloc (.cells #[.int .u8 0, .int .u8 0, .int .u8 0, .int .u8 0, .int .u8 0, .int .u8 0, .int .u8 0, .int .u8 0] 25 (0, 0)))) := by show Below w.heap.size w _; (repeat (first | with_reducible exact Below.refl _ _ | with_reducible refine below_alloc ?_ _ | with_reducible refine below_drew ?_ | with_reducible refine below_drewN ?_ _ | with_reducible refine below_then ?_ (by assumption)))
  have CH := fun w => c_has hs x y w h8
  have HI := Lib.hid (holes_info h8.len)
  cases q1 : inB x 0 7
  · have E : Hid (mendF hs x y = (noHoles, 2)) := by rw [Hid, mendF, q1]; rfl
    clear h8 g0 g1
    go_enter Try.func19, Try.ntmps19
    go_wp2_with (first
      | (go_at_call 33; ((with_reducible refine (c_within _ _ _ _).mono ?_); rintro e w1 ⟨rfl, rfl⟩))
      | (refine ev_store_row rfl 25 (.tmp 6) (.tmp 17) rfl (w.heap.size + 1) (nums .u8 noHoles).toArray rfl rfl 25 (nums .u8 noHoles).toArray ?_ HIZ.out rfl (nums_one _ _) ?_; (with_reducible exact G1.out); intro w6 hblk ht; have hR3 := Lib.hid hblk; clear hblk))
    refine bodyPost_ret (v := .tuple #[.agg (nums .u8 noHoles).toArray, .int .i64 2]) (results_ct rfl _ _ (w.heap.size + 1) 25 (nums .u8 noHoles).toArray (0, 0) _ rfl (by with_reducible exact hR3.out) Try.underlying25 rfl HIZ.out rfl) rfl ⟨by rw [E.out], HB0.out.trans (ht.below (by omega))⟩
  · cases q2 : inB y 0 7
    · have E : Hid (mendF hs x y = (noHoles, 2)) := by rw [Hid, mendF, q1, q2]; rfl
      clear h8 g0 g1
      go_enter Try.func19, Try.ntmps19
      go_wp2_with (first
        | (go_at_call 33; ((with_reducible refine (c_within _ _ _ _).mono ?_); rintro e w1 ⟨rfl, rfl⟩))
        | (refine ev_store_row rfl 25 (.tmp 6) (.tmp 17) rfl (w.heap.size + 1) (nums .u8 noHoles).toArray rfl rfl 25 (nums .u8 noHoles).toArray ?_ HIZ.out rfl (nums_one _ _) ?_; (with_reducible exact G1.out); intro w6 hblk ht; have hR3 := Lib.hid hblk; clear hblk))
      refine bodyPost_ret (v := .tuple #[.agg (nums .u8 noHoles).toArray, .int .i64 2]) (results_ct rfl _ _ (w.heap.size + 1) 25 (nums .u8 noHoles).toArray (0, 0) _ rfl (by with_reducible exact hR3.out) Try.underlying25 rfl HIZ.out rfl) rfl ⟨by rw [E.out], HB0.out.trans (ht.below (by omega))⟩
    · cases q3 : hole hs x y
      · have E : Hid (mendF hs x y = (noHoles, 6)) := by rw [Hid, mendF, q1, q2, q3]; rfl
        rw [q3] at CH
        have CH := fun w => Lib.hid (CH w)
        clear h8 g0 g1
        go_enter Try.func19, Try.ntmps19
        go_wp2_with (first
          | (go_at_call 33; ((with_reducible refine (c_within _ _ _ _).mono ?_); rintro e w1 ⟨rfl, rfl⟩))
          | (refine wpList_load_row rfl 25 (.tmp 3) rfl (w.heap.size) rfl 25 (nums .u8 hs).toArray (0, 0) _ ?_ Try.underlying25 rfl HI.out ?_; (with_reducible exact G0.out))
          | (go_at_call 29; ((with_reducible refine (CH _).out.mono ?_); rintro e w1 ⟨rfl, hb1⟩; have G1 := Lib.hid (blk_below G1.out hb1); have HB0 := Lib.hid (below_then HB0.out hb1); clear hb1))
          | (refine ev_store_row rfl 25 (.tmp 6) (.tmp 24) rfl (w.heap.size + 1) (nums .u8 noHoles).toArray rfl rfl 25 (nums .u8 noHoles).toArray ?_ HIZ.out rfl (nums_one _ _) ?_; (with_reducible exact G1.out); intro w6 hblk ht; have hR3 := Lib.hid hblk; clear hblk))
        refine bodyPost_ret (v := .tuple #[.agg (nums .u8 noHoles).toArray, .int .i64 6]) (results_ct rfl _ _ (w.heap.size + 1) 25 (nums .u8 noHoles).toArray (0, 0) _ rfl (by with_reducible exact hR3.out) Try.underlying25 rfl HIZ.out rfl) rfl ⟨by rw [E.out], HB0.out.trans (ht.below (by omega))⟩
      · have E : Hid (mendF hs x y = (less hs (spot hs x y), 0)) := by rw [Hid, mendF, q1, q2, q3]; rfl
        rw [q3] at CH
        obtain ⟨a, b, ha, hb, rfl, rfl⟩ := hole_off2 (hs := hs) (show (inB x 0 7 && inB y 0 7) = true by rw [q1, q2]; rfl)
        have CH := fun w => Lib.hid (CH w)
        have cs := c_spot hs h8 a b ha hb
        have cl := c_without hs (spot hs (a : Int) (b : Int)) h8 (spot8 _ _ _)
        have EL := nums_eight (k := .u8) (less8 hs (spot hs (a : Int) (b : Int))).len
        simp only [nums_eight (k := .u8) h8.len, nums_eight (k := .u8) (spot8 hs (a : Int) (b : Int)).len, EL] at cs cl
        have CS := fun w => Lib.hid (cs w)
        have CL := fun w => Lib.hid (cl w)
        have HEL := Lib.hid EL
        clear cs cl EL
        have HIL := Lib.hid (holes_info (less8 hs (spot hs (a : Int) (b : Int))).len)
        have LL := Lib.hid (less8 hs (spot hs (a : Int) (b : Int))).len
        clear h8 g0 g1
        go_enter Try.func19, Try.ntmps19
        go_wp2_with (first
          | (go_at_call 33; ((with_reducible refine (c_within _ _ _ _).mono ?_); rintro e w1 ⟨rfl, rfl⟩))
          | (refine wpList_load_row rfl 25 (.tmp 3) rfl (w.heap.size) rfl 25 (nums .u8 hs).toArray (0, 0) _ ?_ Try.underlying25 rfl HI.out ?_; (with_reducible exact G0.out))
          | (go_at_call 29; ((with_reducible refine (CH _).out.mono ?_); rintro e w1 ⟨rfl, hb1⟩; have G0 := Lib.hid (blk_below G0.out hb1); have G1 := Lib.hid (blk_below G1.out hb1); have HB0 := Lib.hid (below_then HB0.out hb1); clear hb1))
          | (fail))
        have e0 := nums_cell G0.out 0 (by rw [H8.out.len]; decide)
        have e1 := nums_cell G0.out 1 (by rw [H8.out.len]; decide)
        have e2 := nums_cell G0.out 2 (by rw [H8.out.len]; decide)
        have e3 := nums_cell G0.out 3 (by rw [H8.out.len]; decide)
        have e4 := nums_cell G0.out 4 (by rw [H8.out.len]; decide)
        have e5 := nums_cell G0.out 5 (by rw [H8.out.len]; decide)
        have e6 := nums_cell G0.out 6 (by rw [H8.out.len]; decide)
        have e7 := nums_cell G0.out 7 (by rw [H8.out.len]; decide)
        have z0 := nums_cell G1.out 0 (by rw [noHoles8.len]; decide)
        have y0 := blk_frozen G1.out 0
        have z1 := nums_cell G1.out 1 (by rw [noHoles8.len]; decide)
        have y1 := blk_frozen G1.out 1
        have z2 := nums_cell G1.out 2 (by rw [noHoles8.len]; decide)
        have y2 := blk_frozen G1.out 2
        have z3 := nums_cell G1.out 3 (by rw [noHoles8.len]; decide)
        have y3 := blk_frozen G1.out 3
        have z4 := nums_cell G1.out 4 (by rw [noHoles8.len]; decide)
        have y4 := blk_frozen G1.out 4
        have z5 := nums_cell G1.out 5 (by rw [noHoles8.len]; decide)
        have y5 := blk_frozen G1.out 5
        have z6 := nums_cell G1.out 6 (by rw [noHoles8.len]; decide)
        have y6 := blk_frozen G1.out 6
        have z7 := nums_cell G1.out 7 (by rw [noHoles8.len]; decide)
        have y7 := blk_frozen G1.out 7
        have n0 := blk_lt G0.out
        have n1 := blk_lt G1.out
        have nN : ¬ w.heap.size + 1 = w.heap.size := by omega
        generalize less hs (spot hs (a : Int) (b : Int)) = L at *
        go_region_held3 (fun w' => w'.cell? ⟨w.heap.size, 0, none⟩ = some (.int .u8 (gi hs 0)) ∧ w'.cell? ⟨w.heap.size, 1, none⟩ = some (.int .u8 (gi hs 1)) ∧ w'.cell? ⟨w.heap.size, 2, none⟩ = some (.int .u8 (gi hs 2)) ∧ w'.cell? ⟨w.heap.size, 3, none⟩ = some (.int .u8 (gi hs 3)) ∧ w'.cell? ⟨w.heap.size, 4, none⟩ = some (.int .u8 (gi hs 4)) ∧ w'.cell? ⟨w.heap.size, 5, none⟩ = some (.int .u8 (gi hs 5)) ∧ w'.cell? ⟨w.heap.size, 6, none⟩ = some (.int .u8 (gi hs 6)) ∧ w'.cell? ⟨w.heap.size, 7, none⟩ = some (.int .u8 (gi hs 7))) (simp [*, go_sem])
          (first
            | (go_at_call 42; ((with_reducible refine (CS _).out.mono ?_); rintro e w2 ⟨rfl, hb2⟩; obtain ⟨hc_, hf_, hz_⟩ := bfacts hb2; (try simp only [World.size_drew] at hc_ hf_ hz_); have n0 := Nat.lt_of_lt_of_le n0 hz_; have n1 := Nat.lt_of_lt_of_le n1 hz_))
            | (go_at_call 41; ((with_reducible refine (CL _).out.mono ?_); rintro e w3 ⟨rfl, hb3⟩; obtain ⟨hcc_, hff_, hzz_⟩ := bfacts hb3; (try simp only [World.size_drew] at hcc_ hff_ hzz_); have n0 := Nat.lt_of_lt_of_le n0 hzz_; have n1 := Nat.lt_of_lt_of_le n1 hzz_)))
        go_wp2
        have R := blk_set (blk_set (blk_set (blk_set (blk_set (blk_set (blk_set (blk_set (blk_below (blk_below (show (w1.drew).heap[w.heap.size + 1]? = _ from G1.out) hb2) hb3) 0 (.int .u8 (gi L 0))) 1 (.int .u8 (gi L 1))) 2 (.int .u8 (gi L 2))) 3 (.int .u8 (gi L 3))) 4 (.int .u8 (gi L 4))) 5 (.int .u8 (gi L 5))) 6 (.int .u8 (gi L 6))) 7 (.int .u8 (gi L 7))
        have R2 := Lib.hid (R.trans (show some (Obj.cells _ 25 (0, 0)) = some (Obj.cells #[.int .u8 (gi L 0), .int .u8 (gi L 1), .int .u8 (gi L 2), .int .u8 (gi L 3), .int .u8 (gi L 4), .int .u8 (gi L 5), .int .u8 (gi L 6), .int .u8 (gi L 7)] 25 (0, 0)) from by simp [nums, noHoles, List.replicate]))
        have HI5 := Lib.hid (HEL.out ▸ HIL.out)
        clear R
        refine bodyPost_ret (v := .tuple #[.agg #[.int .u8 (gi L 0), .int .u8 (gi L 1), .int .u8 (gi L 2), .int .u8 (gi L 3), .int .u8 (gi L 4), .int .u8 (gi L 5), .int .u8 (gi L 6), .int .u8 (gi L 7)], .int .i64 0]) (results_ct rfl _ _ (w.heap.size + 1) 25 #[.int .u8 (gi L 0), .int .u8 (gi L 1), .int .u8 (gi L 2), .int .u8 (gi L 3), .int .u8 (gi L 4), .int .u8 (gi L 5), .int .u8 (gi L 6), .int .u8 (gi L 7)] (0, 0) _ rfl (by with_reducible exact R2.out) Try.underlying25 rfl HI5.out rfl) rfl ⟨by rw [E.out, HEL.out], (Below.setCell (Below.setCell (Below.setCell (Below.setCell (Below.setCell (Below.setCell (Below.setCell (Below.setCell (below_then (below_then (below_drew HB0.out) hb2) hb3) (by simp) _) (by simp) _) (by simp) _) (by simp) _) (by simp) _) (by simp) _) (by simp) _) (by simp) _)⟩
end
end Go.Proofs.Ytcbegcekdmmjpaa
