/- The law on holes without one spot. -/
import Derived.Test.YtcjpfgloemoobaaMendSpot
import Derived.Test.YtcjpfgloemoobaaHolesEq
namespace Go.Proofs.Ytcjpfgloemoobaa
open Go.RowKit
set_option linter.unusedVariables false
set_option linter.unusedSimpArgs false
set_option maxRecDepth 100000

set_option maxHeartbeats 800000 in
theorem walk_FnExactMendSpot (W : World) (a0 : List Int) (l0 : a0.length = 8) (w0 : ∀ z ∈ a0, (Lit.int .u8 z).wf = true) (a1 : Int) (w1 : (Lit.int .i64 a1).wf = true) (a2 : Int) (w2 : (Lit.int .i64 a2).wf = true) :
    Calls Try.prog 8 #[.agg (nums .u8 a0).toArray, .int .i64 a1, .int .i64 a2] W fun e w' => e = .returned (.bool true) ∧ Below W.heap.size W w' := by
  have h8 := holes8 l0 w0
  have HI := Lib.hid (arr8_info h8)
  have H8 := Lib.hid h8
  have R8 := Lib.hid (mendF8 a0 a1 a2)
  have HIR := Lib.hid (holes_info R8.out.len)
  have HA := Lib.hid (heap_alloc_new W (.cells (nums .u8 a0).toArray 35 (0, 0)))
  clear h8 l0 w0 w1 w2
  go_enter Try.func8, Try.ntmps8
  go_wp2_with (first
    | (refine wpList_load_row rfl 35 (.tmp 3) rfl (W.heap.size) rfl 35 _ (0, 0) _ HA.out Try.underlying35 rfl HI.out ?_)
    | (go_at_call 20; ((with_reducible refine (c_toHoles _ _ H8.out).mono ?_); rintro e w1 ⟨rfl, hb⟩; obtain ⟨hc_, hf_, hz_⟩ := bfacts hb; (try simp only [World.size_alloc, World.size_setCell, World.size_drew] at hc_ hf_ hz_); have hzz0 : W.heap.size < w1.heap.size := (by omega); have HA := Lib.hid (blk_below HA.out hb); have HX := Lib.hid (blk_below HX.out hb)))
    | (go_at_call 20; ((with_reducible refine (c_toHoles _ _ H8.out).mono ?_); rintro e w1 ⟨rfl, hb⟩; obtain ⟨hc_, hf_, hz_⟩ := bfacts hb; (try simp only [World.size_alloc, World.size_setCell, World.size_drew] at hc_ hf_ hz_); have hzz0 : W.heap.size < w1.heap.size := (by omega); have HA := Lib.hid (blk_below HA.out hb)))
    | (go_at_call 29; ((with_reducible refine (c_sMendSpot _ _ _ _ H8.out).mono ?_); rintro e w1 ⟨rfl, hb⟩; obtain ⟨hc_, hf_, hz_⟩ := bfacts hb; (try simp only [World.size_alloc, World.size_setCell, World.size_drew] at hc_ hf_ hz_); have hzz0 : W.heap.size < w1.heap.size := (by omega); have HA := Lib.hid (blk_below HA.out hb)))
    | (go_at_call 30; ((with_reducible refine (c_iMendSpot _ _ _ _ H8.out).mono ?_); rintro e w1 ⟨rfl, hb⟩; obtain ⟨hc_, hf_, hz_⟩ := bfacts hb; (try simp only [World.size_alloc, World.size_setCell, World.size_drew] at hc_ hf_ hz_); have hzz0 : W.heap.size < w1.heap.size := (by omega); have HA := Lib.hid (blk_below HA.out hb); have HX := Lib.hid (blk_below HX.out hb)))
    | (go_at_call 24; ((with_reducible refine (c_eqHoles _ _ R8.out).mono ?_); rintro e w1 ⟨rfl, hb⟩; obtain ⟨hc_, hf_, hz_⟩ := bfacts hb; (try simp only [World.size_alloc, World.size_setCell, World.size_drew] at hc_ hf_ hz_); have hzz0 : W.heap.size < w1.heap.size := (by omega); have HA := Lib.hid (blk_below HA.out hb)))
    | (refine ev_store_row rfl 38 (.tmp 7) (.tmp 17) rfl (w1.heap.size) ((nums .u8 (mendF a0 a1 a2).1).toArray) rfl rfl 38 _ (heap_alloc_new w1 _) HIR.out ((by simp [nums, R8.out.len])) (nums_one _ _) ?_; intro w1 hblk ht; have hb := tou_new ht; clear ht; obtain ⟨hc_, hf_, hz_⟩ := bfacts hb; (try simp only [World.size_alloc, World.size_setCell, World.size_drew] at hc_ hf_ hz_); have hzz0 : W.heap.size < w1.heap.size := (by omega); have HA := Lib.hid (blk_below HA.out hb); have HX := Lib.hid hblk; clear hblk)
    | (refine ev_store_row rfl 38 (.tmp 9) (.tmp 25) rfl (w1.heap.size) ((nums .u8 (mendF a0 a1 a2).1).toArray) rfl rfl 38 _ (heap_alloc_new w1 _) HIR.out ((by simp [nums, R8.out.len])) (nums_one _ _) ?_; intro w1 hblk ht; have hb := tou_new ht; clear ht; obtain ⟨hc_, hf_, hz_⟩ := bfacts hb; (try simp only [World.size_alloc, World.size_setCell, World.size_drew] at hc_ hf_ hz_); have hzz0 : W.heap.size < w1.heap.size := (by omega); have HA := Lib.hid (blk_below HA.out hb); have HX := Lib.hid (blk_below HX.out hb); have HY := Lib.hid hblk; clear hblk)
    | (refine wpList_load_row rfl 38 (.tmp 7) rfl (_) rfl 38 _ (0, 0) _ HX.out Try.underlying38 rfl HIR.out ?_)
    | (refine wpList_load_row rfl 38 (.tmp 9) rfl (_) rfl 38 _ (0, 0) _ HY.out Try.underlying38 rfl HIR.out ?_))
  go_ret
  exact ⟨rfl, by (repeat (first | with_reducible exact Below.refl _ _ | with_reducible refine below_alloc ?_ _ | with_reducible refine below_drew ?_ | with_reducible refine below_drewN ?_ _ | with_reducible refine below_then ?_ (by assumption)))⟩
end Go.Proofs.Ytcjpfgloemoobaa
