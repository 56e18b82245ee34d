/- The laws' comparing of holes (only equal ones are needed), and the laws on weeks. -/
import Derived.Test.YtcjpfgloemoobaaHolesLaws
import Derived.Test.YtcjpfgloemoobaaHolesWeeks
namespace Go.Proofs.Ytcjpfgloemoobaa
open Go.RowKit
set_option linter.unusedVariables false
set_option linter.unusedSimpArgs false
set_option maxRecDepth 100000

set_option maxHeartbeats 800000 in
theorem c_eqHoles (hs : List Int) (w : World) (h8 : Holes8 hs) :
    Calls Try.prog 24 #[.agg (nums .u8 hs).toArray, .agg (nums .u8 hs).toArray] w fun e w' => e = .returned (.bool true) ∧ Below w.heap.size w w' := by
  have H8 := Lib.hid h8
  have HA := Lib.hid (blk_alloc (heap_alloc_new w (.cells (nums .u8 hs).toArray 38 (0, 0))) (.cells (nums .u8 hs).toArray 38 (0, 0)))
  have hb := heap_alloc_new (w.alloc (.cells (nums .u8 hs).toArray 38 (0, 0))) (.cells (nums .u8 hs).toArray 38 (0, 0))
  rw [World.size_alloc] at hb
  have HBk := Lib.hid hb
  clear h8 hb
  go_enter Try.func24, Try.ntmps24
  go_wp2
  have HB0 : Hid (Below w.heap.size w ((w.alloc (.cells (nums .u8 hs).toArray 38 (0, 0))).alloc (.cells (nums .u8 hs).toArray 38 (0, 0)))) := below_alloc (below_alloc (Below.refl _ _) _) _
  generalize (w.alloc (.cells (nums .u8 hs).toArray 38 (0, 0))).alloc (.cells (nums .u8 hs).toArray 38 (0, 0)) = wa at *
  go_loopw [5] (fun i wr => ∃ k : Nat, k ≤ 8 ∧ i = .int .i64 k ∧ wr.heap = wa.heap ∧ Below w.heap.size w wr) (fun i _ => 8 - (intOf i).toNat)
  case atStart => exact ⟨0, by omega, rfl, rfl, HB0.out⟩
  case round =>
    obtain ⟨k, hk, rfl, hW, hB⟩ := hrel
    have HB := Lib.hid hB
    clear hB
    by_cases hlt : k < 8
    · have d1 : decide ((k : Int) < 8) = true := by simp; omega
      have c1 : wr.cell? ⟨w.heap.size, k, none⟩ = some (.int .u8 (gi hs k)) := nums_cell (t := 38) (fr := (0, 0)) (by rw [hW]; exact HA.out) k (by rw [H8.out.len]; omega)
      have c2 : wr.cell? ⟨w.heap.size + 1, k, none⟩ = some (.int .u8 (gi hs k)) := nums_cell (t := 38) (fr := (0, 0)) (by rw [hW]; exact HBk.out) k (by rw [H8.out.len]; omega)
      have k0 : (0 : Int) ≤ (k : Int) := by omega
      have k1 : (k : Int) < 8 := by omega
      have HW := Lib.hid hW
      clear hW
      go_wp2
      go_quiet (fail)
      go_wp2
      go_roundw
      case rel => exact ⟨k + 1, by omega, by go_num, HW.out, below_drewN HB.out _⟩
      case measure => simp [intOf]; omega
    · obtain rfl : k = 8 := by omega
      go_wp2
      go_ret
      exact ⟨rfl, HB.out⟩

set_option maxHeartbeats 800000 in
theorem walk_FnExactStaysFor (W : World) (a0 : List Int) (l0 : a0.length = 8) (w0 : ∀ z ∈ a0, (Lit.int .u8 z).wf = true) (a1 : Int) (w1 : (Lit.int .i64 a1).wf = true) :
    Calls Try.prog 4 #[.agg (nums .u8 a0).toArray, .int .i64 a1] W fun e w' => e = .returned (.bool true) ∧ Below W.heap.size W w' := by
  have h8 := holes8 l0 w0
  have HI := Lib.hid (arr8_info h8)
  have H8 := Lib.hid h8
  have HA := Lib.hid (heap_alloc_new W (.cells (nums .u8 a0).toArray 35 (0, 0)))
  clear h8 l0 w0 w1
  go_enter Try.func4, Try.ntmps4
  go_wp2_with (first | (refine wpList_load_row rfl 35 (.tmp 2) rfl (W.heap.size) rfl 35 _ (0, 0) _ HA.out Try.underlying35 rfl HI.out ?_) | (go_at_call 20; ((with_reducible refine (c_toHoles _ _ H8.out).mono ?_); rintro e w1 ⟨rfl, hb⟩; obtain ⟨hc_, hf_, hz_⟩ := bfacts hb; (try simp only [World.size_alloc, World.size_setCell, World.size_drew] at hc_ hf_ hz_); have hzz0 : W.heap.size < w1.heap.size := (by omega); have HA := Lib.hid (blk_below HA.out hb))) | (go_at_call 19; ((with_reducible refine (c_sStaysFor _ _ _ H8.out).mono ?_); rintro e w1 ⟨rfl, hb⟩; obtain ⟨hc_, hf_, hz_⟩ := bfacts hb; (try simp only [World.size_alloc, World.size_setCell, World.size_drew] at hc_ hf_ hz_); have hzz0 : W.heap.size < w1.heap.size := (by omega); have HA := Lib.hid (blk_below HA.out hb))) | (go_at_call 21; ((with_reducible refine (c_iStaysFor _ _ _ H8.out).mono ?_); rintro e w1 ⟨rfl, hb⟩; obtain ⟨hc_, hf_, hz_⟩ := bfacts hb; (try simp only [World.size_alloc, World.size_setCell, World.size_drew] at hc_ hf_ hz_); have hzz0 : W.heap.size < w1.heap.size := (by omega); have HA := Lib.hid (blk_below HA.out hb))))
  go_ret
  exact ⟨rfl, by (repeat (first | with_reducible exact Below.refl _ _ | with_reducible refine below_alloc ?_ _ | with_reducible refine below_drew ?_ | with_reducible refine below_drewN ?_ _ | with_reducible refine below_then ?_ (by assumption)))⟩
theorem tou_new {w w1 : World} {o : Obj} (ht : Tou w.heap.size (w.alloc o) w1) : Below w.heap.size w w1 := (below_alloc (Below.refl _ _) _).trans (ht.below (Nat.le_refl _))
set_option maxHeartbeats 800000 in
theorem walk_FnExactWeekLater (W : World) (a0 : List Int) (l0 : a0.length = 8) (w0 : ∀ z ∈ a0, (Lit.int .u8 z).wf = true) (a1 : Int) (w1 : (Lit.int .i64 a1).wf = true) :
    Calls Try.prog 5 #[.agg (nums .u8 a0).toArray, .int .i64 a1] W fun e w' => e = .returned (.bool true) ∧ Below W.heap.size W w' := by
  have h8 := holes8 l0 w0
  have HI := Lib.hid (arr8_info h8)
  have H8 := Lib.hid h8
  have R8 := Lib.hid (weeksF8 h8 a1 1)
  have HIR := Lib.hid (holes_info R8.out.len)
  have HA := Lib.hid (heap_alloc_new W (.cells (nums .u8 a0).toArray 35 (0, 0)))
  clear h8 l0 w0 w1
  go_enter Try.func5, Try.ntmps5
  go_wp2_with (first
    | (refine wpList_load_row rfl 35 (.tmp 2) rfl (W.heap.size) rfl 35 _ (0, 0) _ HA.out Try.underlying35 rfl HI.out ?_)
    | (go_at_call 20; ((with_reducible refine (c_toHoles _ _ H8.out).mono ?_); rintro e w1 ⟨rfl, hb⟩; obtain ⟨hc_, hf_, hz_⟩ := bfacts hb; (try simp only [World.size_alloc, World.size_setCell, World.size_drew] at hc_ hf_ hz_); have hzz0 : W.heap.size < w1.heap.size := (by omega); have HA := Lib.hid (blk_below HA.out hb); have HX := Lib.hid (blk_below HX.out hb)))
    | (go_at_call 20; ((with_reducible refine (c_toHoles _ _ H8.out).mono ?_); rintro e w1 ⟨rfl, hb⟩; obtain ⟨hc_, hf_, hz_⟩ := bfacts hb; (try simp only [World.size_alloc, World.size_setCell, World.size_drew] at hc_ hf_ hz_); have hzz0 : W.heap.size < w1.heap.size := (by omega); have HA := Lib.hid (blk_below HA.out hb)))
    | (go_at_call 22; ((with_reducible refine (c_sWeekLater _ _ _ H8.out).mono ?_); rintro e w1 ⟨rfl, hb⟩; obtain ⟨hc_, hf_, hz_⟩ := bfacts hb; (try simp only [World.size_alloc, World.size_setCell, World.size_drew] at hc_ hf_ hz_); have hzz0 : W.heap.size < w1.heap.size := (by omega); have HA := Lib.hid (blk_below HA.out hb)))
    | (go_at_call 23; ((with_reducible refine (c_iWeekLater _ _ _ H8.out).mono ?_); rintro e w1 ⟨rfl, hb⟩; obtain ⟨hc_, hf_, hz_⟩ := bfacts hb; (try simp only [World.size_alloc, World.size_setCell, World.size_drew] at hc_ hf_ hz_); have hzz0 : W.heap.size < w1.heap.size := (by omega); have HA := Lib.hid (blk_below HA.out hb); have HX := Lib.hid (blk_below HX.out hb)))
    | (go_at_call 24; ((with_reducible refine (c_eqHoles _ _ R8.out).mono ?_); rintro e w1 ⟨rfl, hb⟩; obtain ⟨hc_, hf_, hz_⟩ := bfacts hb; (try simp only [World.size_alloc, World.size_setCell, World.size_drew] at hc_ hf_ hz_); have hzz0 : W.heap.size < w1.heap.size := (by omega); have HA := Lib.hid (blk_below HA.out hb)))
    | (refine ev_store_row rfl 38 (.tmp 5) (.tmp 14) rfl (w1.heap.size) ((nums .u8 (weeksF a0 a1 1).1).toArray) rfl rfl 38 _ (heap_alloc_new w1 _) HIR.out ((by simp [nums, R8.out.len])) (nums_one _ _) ?_; intro w1 hblk ht; have hb := tou_new ht; clear ht; obtain ⟨hc_, hf_, hz_⟩ := bfacts hb; (try simp only [World.size_alloc, World.size_setCell, World.size_drew] at hc_ hf_ hz_); have hzz0 : W.heap.size < w1.heap.size := (by omega); have HA := Lib.hid (blk_below HA.out hb); have HX := Lib.hid hblk; clear hblk)
    | (refine ev_store_row rfl 38 (.tmp 7) (.tmp 21) rfl (w1.heap.size) ((nums .u8 (weeksF a0 a1 1).1).toArray) rfl rfl 38 _ (heap_alloc_new w1 _) HIR.out ((by simp [nums, R8.out.len])) (nums_one _ _) ?_; intro w1 hblk ht; have hb := tou_new ht; clear ht; obtain ⟨hc_, hf_, hz_⟩ := bfacts hb; (try simp only [World.size_alloc, World.size_setCell, World.size_drew] at hc_ hf_ hz_); have hzz0 : W.heap.size < w1.heap.size := (by omega); have HA := Lib.hid (blk_below HA.out hb); have HX := Lib.hid (blk_below HX.out hb); have HY := Lib.hid hblk; clear hblk)
    | (refine wpList_load_row rfl 38 (.tmp 5) rfl (_) rfl 38 _ (0, 0) _ HX.out Try.underlying38 rfl HIR.out ?_)
    | (refine wpList_load_row rfl 38 (.tmp 7) rfl (_) rfl 38 _ (0, 0) _ HY.out Try.underlying38 rfl HIR.out ?_))
  go_ret
  exact ⟨rfl, by (repeat (first | with_reducible exact Below.refl _ _ | with_reducible refine below_alloc ?_ _ | with_reducible refine below_drew ?_ | with_reducible refine below_drewN ?_ _ | with_reducible refine below_then ?_ (by assumption)))⟩
set_option maxHeartbeats 800000 in
theorem walk_FnExactWeeksLater (W : World) (a0 : List Int) (l0 : a0.length = 8) (w0 : ∀ z ∈ a0, (Lit.int .u8 z).wf = true) (a1 : Int) (w1 : (Lit.int .i64 a1).wf = true) (a2 : Int) (w2 : (Lit.int .i64 a2).wf = true) :
    Calls Try.prog 7 #[.agg (nums .u8 a0).toArray, .int .i64 a1, .int .i64 a2] W fun e w' => e = .returned (.bool true) ∧ Below W.heap.size W w' := by
  have h8 := holes8 l0 w0
  have HI := Lib.hid (arr8_info h8)
  have H8 := Lib.hid h8
  have R8 := Lib.hid (weeksF8 h8 a1 a2)
  have HIR := Lib.hid (holes_info R8.out.len)
  have HA := Lib.hid (heap_alloc_new W (.cells (nums .u8 a0).toArray 35 (0, 0)))
  clear h8 l0 w0 w1 w2
  go_enter Try.func7, Try.ntmps7
  go_wp2_with (first
    | (refine wpList_load_row rfl 35 (.tmp 3) rfl (W.heap.size) rfl 35 _ (0, 0) _ HA.out Try.underlying35 rfl HI.out ?_)
    | (go_at_call 20; ((with_reducible refine (c_toHoles _ _ H8.out).mono ?_); rintro e w1 ⟨rfl, hb⟩; obtain ⟨hc_, hf_, hz_⟩ := bfacts hb; (try simp only [World.size_alloc, World.size_setCell, World.size_drew] at hc_ hf_ hz_); have hzz0 : W.heap.size < w1.heap.size := (by omega); have HA := Lib.hid (blk_below HA.out hb); have HX := Lib.hid (blk_below HX.out hb)))
    | (go_at_call 20; ((with_reducible refine (c_toHoles _ _ H8.out).mono ?_); rintro e w1 ⟨rfl, hb⟩; obtain ⟨hc_, hf_, hz_⟩ := bfacts hb; (try simp only [World.size_alloc, World.size_setCell, World.size_drew] at hc_ hf_ hz_); have hzz0 : W.heap.size < w1.heap.size := (by omega); have HA := Lib.hid (blk_below HA.out hb)))
    | (go_at_call 27; ((with_reducible refine (c_sWeeksLater _ _ _ _ H8.out).mono ?_); rintro e w1 ⟨rfl, hb⟩; obtain ⟨hc_, hf_, hz_⟩ := bfacts hb; (try simp only [World.size_alloc, World.size_setCell, World.size_drew] at hc_ hf_ hz_); have hzz0 : W.heap.size < w1.heap.size := (by omega); have HA := Lib.hid (blk_below HA.out hb)))
    | (go_at_call 28; ((with_reducible refine (c_iWeeksLater _ _ _ _ H8.out).mono ?_); rintro e w1 ⟨rfl, hb⟩; obtain ⟨hc_, hf_, hz_⟩ := bfacts hb; (try simp only [World.size_alloc, World.size_setCell, World.size_drew] at hc_ hf_ hz_); have hzz0 : W.heap.size < w1.heap.size := (by omega); have HA := Lib.hid (blk_below HA.out hb); have HX := Lib.hid (blk_below HX.out hb)))
    | (go_at_call 24; ((with_reducible refine (c_eqHoles _ _ R8.out).mono ?_); rintro e w1 ⟨rfl, hb⟩; obtain ⟨hc_, hf_, hz_⟩ := bfacts hb; (try simp only [World.size_alloc, World.size_setCell, World.size_drew] at hc_ hf_ hz_); have hzz0 : W.heap.size < w1.heap.size := (by omega); have HA := Lib.hid (blk_below HA.out hb)))
    | (refine ev_store_row rfl 38 (.tmp 7) (.tmp 17) rfl (w1.heap.size) ((nums .u8 (weeksF a0 a1 a2).1).toArray) rfl rfl 38 _ (heap_alloc_new w1 _) HIR.out ((by simp [nums, R8.out.len])) (nums_one _ _) ?_; intro w1 hblk ht; have hb := tou_new ht; clear ht; obtain ⟨hc_, hf_, hz_⟩ := bfacts hb; (try simp only [World.size_alloc, World.size_setCell, World.size_drew] at hc_ hf_ hz_); have hzz0 : W.heap.size < w1.heap.size := (by omega); have HA := Lib.hid (blk_below HA.out hb); have HX := Lib.hid hblk; clear hblk)
    | (refine ev_store_row rfl 38 (.tmp 9) (.tmp 25) rfl (w1.heap.size) ((nums .u8 (weeksF a0 a1 a2).1).toArray) rfl rfl 38 _ (heap_alloc_new w1 _) HIR.out ((by simp [nums, R8.out.len])) (nums_one _ _) ?_; intro w1 hblk ht; have hb := tou_new ht; clear ht; obtain ⟨hc_, hf_, hz_⟩ := bfacts hb; (try simp only [World.size_alloc, World.size_setCell, World.size_drew] at hc_ hf_ hz_); have hzz0 : W.heap.size < w1.heap.size := (by omega); have HA := Lib.hid (blk_below HA.out hb); have HX := Lib.hid (blk_below HX.out hb); have HY := Lib.hid hblk; clear hblk)
    | (refine wpList_load_row rfl 38 (.tmp 7) rfl (_) rfl 38 _ (0, 0) _ HX.out Try.underlying38 rfl HIR.out ?_)
    | (refine wpList_load_row rfl 38 (.tmp 9) rfl (_) rfl 38 _ (0, 0) _ HY.out Try.underlying38 rfl HIR.out ?_))
  go_ret
  exact ⟨rfl, by (repeat (first | with_reducible exact Below.refl _ _ | with_reducible refine below_alloc ?_ _ | with_reducible refine below_drew ?_ | with_reducible refine below_drewN ?_ _ | with_reducible refine below_then ?_ (by assumption)))⟩
end Go.Proofs.Ytcjpfgloemoobaa
