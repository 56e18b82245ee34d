/- All spots, by the reference. -/
import Derived.Test.YtcbegcekdmmjpaaSpotSpec
import Derived.Test.YtcbegcekdmmjpaaMem3
namespace Go.Proofs.Ytcbegcekdmmjpaa
open Go.RowKit
set_option linter.unusedVariables false
set_option linter.unusedSimpArgs false
set_option maxRecDepth 100000

/-- The cells of several holes, side by side. -/
def rows8 (L : List (List Int)) : List Value := L.flatMap (nums .u8)
theorem rows8_snoc (L : List (List Int)) (s : List Int) : rows8 (L ++ [s]) = rows8 L ++ nums .u8 s := by simp [rows8]

set_option maxHeartbeats 4000000 in
theorem c_l06Spots (hs : List Int) (h8 : Holes8 hs) (w : World) :
    Calls Try.prog 38 #[.agg (nums .u8 hs).toArray] w fun e w' => ∃ v, e = .returned v ∧ w'.ownsRow w.heap.size 25 8 v (spotsN hs 64).1.length (rows8 (spotsN hs 64).1) ∧ Below w.heap.size w w' := by
  have H8 := Lib.hid h8
  have HA := Lib.hid (blk_alloc (heap_alloc_new w (.cells (nums .u8 hs).toArray 25 (0, 0))) (.cells #[] 25 (0, 0)))
  have HB0 : Hid (Below w.heap.size w ((w.alloc (.cells (nums .u8 hs).toArray 25 (0, 0))).alloc (.cells #[] 25 (0, 0)))) := below_alloc (below_alloc (Below.refl _ _) _) _
  have ho := World.ownsRow_made (base := w.heap.size + 1) (e := 25) (size := 8) (w.alloc (.cells (nums .u8 hs).toArray 25 (0, 0))) #[] 0 (by simp) (by decide) rfl
  rw [World.size_alloc] at ho
  have HO := Lib.hid ho
  have HZ := Lib.hid (show spotsN hs 0 = ([], hs) from rfl)
  clear h8 ho
  go_enter Try.func38, Try.ntmps38
  go_wp2
  go_loopw [4, 3] (fun i v wr => ∃ k : Nat, k ≤ 8 ∧ i = .int .i64 k ∧ Hid (wr.heap[w.heap.size]? = some (.cells (nums .u8 (spotsN hs (8 * k)).2).toArray 25 (0, 0))) ∧ Hid (wr.ownsRow (w.heap.size + 1) 25 8 v (spotsN hs (8 * k)).1.length (rows8 (spotsN hs (8 * k)).1)) ∧ Hid (Below w.heap.size w wr)) (fun i _ _ => 8 - (intOf i).toNat)
  case atStart => exact ⟨0, by omega, rfl, HA, HO, HB0⟩
  case round =>
    obtain ⟨k, hk, rfl, hA, hO, hB⟩ := hrel
    by_cases hlt : k < 8
    · have d1 : decide ((k : Int) < 8) = true := by simp; omega
      go_wp2
      go_loopw [5, 3] (fun i v wr => ∃ j : Nat, j ≤ 8 ∧ i = .int .i64 j ∧ Hid (wr.heap[w.heap.size]? = some (.cells (nums .u8 (spotsN hs (8 * k + j)).2).toArray 25 (0, 0))) ∧ Hid (wr.ownsRow (w.heap.size + 1) 25 8 v (spotsN hs (8 * k + j)).1.length (rows8 (spotsN hs (8 * k + j)).1)) ∧ Hid (Below w.heap.size w wr)) (fun i _ _ => 8 - (intOf i).toNat)
      case atStart => exact ⟨0, by omega, rfl, hA, hO, hB⟩
      case round =>
        obtain ⟨j, hj, rfl, hA, hO, hB⟩ := hrel
        by_cases hlt2 : j < 8
        · have d2 : decide ((j : Int) < 8) = true := by simp; omega
          have HW := Lib.hid (spotsN_whole H8.out (8 * k + j))
          have HS := Lib.hid (spotsN_at hs k j hlt2)
          have hlen := spotsN_len hs (8 * k + j)
          have CH := c_l06Hole w.heap.size 0 (spotsN hs (8 * k + j)).2 (j : Int) (k : Int) wr HW.out.h8 (HAt_row HW.out.h8.len hA.out)
          have hz := hB.out.size
          have hz1 := blk_lt hA.out
          cases q : hole (spotsN hs (8 * k + j)).2 (j : Int) (k : Int)
          · have E : Hid (spotsN hs (8 * k + j + 1) = spotsN hs (8 * k + j)) := by rw [Hid, HS.out, q]; rfl
            rw [q] at CH
            have CH := Lib.hid CH
            clear q hlen
            go_wp2_with (go_at_call 46; ((with_reducible refine CH.out.mono ?_); rintro e w1 ⟨rfl, rfl⟩))
            go_roundw
            case rel => exact ⟨j + 1, by omega, by go_num, by rw [show 8 * k + (j + 1) = 8 * k + j + 1 by omega, E.out]; exact hA, by rw [show 8 * k + (j + 1) = 8 * k + j + 1 by omega, E.out]; exact hO, hB⟩
            case measure => simp [intOf]; omega
          · have ES : spot (spotsN hs (8 * k + j)).2 (j : Int) (k : Int) = spot hs (j : Int) (k : Int) := HW.out.spot q
            have E : Hid (spotsN hs (8 * k + j + 1) = ((spotsN hs (8 * k + j)).1 ++ [spot hs (j : Int) (k : Int)], less (spotsN hs (8 * k + j)).2 (spot hs (j : Int) (k : Int)))) := by rw [Hid, HS.out, if_pos q]
            have cs := fun wq hq => c_l06Spot w.heap.size (spotsN hs (8 * k + j)).2 HW.out.h8 j k hlt2 hlt wq hq q
            rw [ES] at cs
            have CS := fun wq hq => Lib.hid (cs wq hq)
            have CL := fun wq gp hq hp => Lib.hid (c_l06Less w.heap.size gp (spotsN hs (8 * k + j)).2 (spot hs (j : Int) (k : Int)) HW.out.h8 (spot8 _ _ _) wq hq hp)
            have LS := Lib.hid (spot8 hs (j : Int) (k : Int)).len
            have HIS := Lib.hid (holes_info LS.out)
            have LL := Lib.hid (less8 (spotsN hs (8 * k + j)).2 (spot hs (j : Int) (k : Int))).len
            have L0 := Lib.hid HW.out.h8.len
            have HIL := Lib.hid (holes_info LL.out)
            rw [q] at CH
            have CH := Lib.hid CH
            clear q cs ES HW HS
            generalize hsp : spot hs (j : Int) (k : Int) = sp at *
            generalize hL : less (spotsN hs (8 * k + j)).2 sp = L at *
            clear hsp hL
            go_wp2_with (first
              | (go_at_call 46; ((with_reducible refine CH.out.mono ?_); rintro e w1 ⟨rfl, rfl⟩))
              | (go_at_call 49; ((with_reducible refine (CS _ hA.out).out.mono ?_); rintro e w1 ⟨rfl, hb1⟩; have hA := Lib.hid (blk_below hA.out hb1); have hO := Lib.hid (own_below hO.out hb1); have hB := Lib.hid (below_then hB.out hb1); clear hb1))
              | (refine ev_store_row rfl 25 (.tmp 6) (.tmp 21) rfl (w1.heap.size) (nums .u8 sp).toArray rfl rfl 25 _ (heap_alloc_new w1 _) HIS.out (by simp [nums, LS.out]) (nums_one _ _) ?_; intro w2 hblk ht; have hb2 := tou_newS ht; clear ht; have hg6 : w.heap.size < w1.heap.size := blk_lt hA.out; have hA := Lib.hid (blk_below hA.out hb2); have hO := Lib.hid (own_below hO.out hb2); have hB := Lib.hid (below_then hB.out hb2); have hS := Lib.hid hblk; clear hblk hb2)
              | (go_at_call 43; ((with_reducible refine (CL _ _ hA.out hS.out).out.mono ?_); rintro e w3 ⟨rfl, hb1⟩; have hA := Lib.hid (blk_below hA.out hb1); have hO := Lib.hid (own_below hO.out hb1); have hB := Lib.hid (below_then hB.out hb1); have hS := Lib.hid (blk_below hS.out hb1); clear hb1))
              | (refine ev_store_row rfl 25 (.tmp 1) (.tmp 22) rfl (w.heap.size) (nums .u8 L).toArray rfl rfl 25 (nums .u8 (spotsN hs (8 * k + j)).2).toArray ?_ HIL.out (by simp [nums, LL.out, L0.out]) (nums_one _ _) ?_; (with_reducible exact hA.out); intro w4 hblk ht; have hS := Lib.hid (blk_tou hS.out ht (Nat.ne_of_gt hg6)); have hO := Lib.hid (own_tou hO.out ht (Nat.lt_succ_self _)); have hB : Hid (Below w.heap.size w w4) := hB.out.trans (ht.below (Nat.le_refl _)); have hA := Lib.hid hblk; have hz4 := hB.out.size; have hz5 := blk_lt hA.out; clear hblk ht)
              | (refine wpList_load_row rfl 25 (.tmp 6) rfl _ rfl 25 (nums .u8 sp).toArray (0, 0) _ ?_ Try.underlying25 rfl HIS.out ?_; (with_reducible exact hS.out))
              | (refine wpList_build1 rfl 33 25 (.tmp 24) rfl ((nums .u8 sp).toArray) 8 (.agg #[.int .u8 0, .int .u8 0, .int .u8 0, .int .u8 0, .int .u8 0, .int .u8 0, .int .u8 0, .int .u8 0]) rfl Try.underlying33 (by kernel_rfl) (by decide) (by decide) (by simp [nums, LS.out]) ?_)
              | (at_builtin; refine ap1 rfl (.tmp 23) (.tmp 25) 33 25 rfl ((.agg #[.int .u8 0, .int .u8 0, .int .u8 0, .int .u8 0, .int .u8 0, .int .u8 0, .int .u8 0, .int .u8 0])) 8 8 (w.heap.size + 1) Try.underlying33 (by kernel_rfl) rfl (by decide) u3 (spotsN hs (8 * k + j)).1.length (rows8 (spotsN hs (8 * k + j)).1) (nums .u8 sp) rfl rfl (by simp) (by simp [nums, LS.out]) (nums_oneL _ _) hO.out hz5 (by omega) (by omega) ?_; intro g3 d3 w5 hown hg3 hat; have hA5 := Lib.hid (blk_grown hA.out hg3 hO.out (Nat.lt_succ_self _)); have hB5 := Lib.hid (below_grown hB.out hg3 hO.out (Nat.le_succ _) hz4); have hO5 := Lib.hid hown; clear hown hat hg3))
            go_roundw
            case rel => exact ⟨j + 1, by omega, by go_num, by rw [show 8 * k + (j + 1) = 8 * k + j + 1 by omega, E.out]; exact hA5, by rw [show 8 * k + (j + 1) = 8 * k + j + 1 by omega, E.out]; simp only [List.length_append, List.length_singleton]; rw [rows8_snoc]; exact hO5, hB5⟩
            case measure => simp [intOf]; omega
        · obtain rfl : j = 8 := by omega
          have d2 : decide (((8 : Nat) : Int) < 8) = false := by simp
          go_wp2
          go_roundw
          case rel => exact ⟨k + 1, by omega, by go_num, by rw [show 8 * (k + 1) = 8 * k + 8 by omega]; exact hA, by rw [show 8 * (k + 1) = 8 * k + 8 by omega]; exact hO, hB⟩
          case measure => simp [intOf]; omega
    · obtain rfl : k = 8 := by omega
      have d1 : decide (((8 : Nat) : Int) < 8) = false := by simp
      go_wp2
      exact bodyPost_ret (v := u3) (by simp [results, Try.results38, go_sem]) rfl ⟨_, rfl, own_mono hO.out (by omega), hB.out⟩
end Go.Proofs.Ytcbegcekdmmjpaa
