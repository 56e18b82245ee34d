/- The law on holes read from a text. -/
import Derived.Test.YtcjpfgloemoobaaReadSpec
import Derived.Test.YtcjpfgloemoobaaHolesEq
namespace Go.Proofs.Ytcjpfgloemoobaa
open Go.RowKit
set_option linter.unusedVariables false
set_option linter.unusedSimpArgs false
set_option maxRecDepth 100000

theorem str_of (a : ByteArray) : ∃ t, a = str t := ⟨a.data.toList, by simp [str]⟩
set_option maxHeartbeats 800000 in
theorem walk_FnExactReadHoles (W : World) (a0 : ByteArray) (w0 : a0.size ≤ 140737488351232) :
    Calls Try.prog 6 #[.string a0] W fun e w' => e = .returned (.bool true) ∧ Below W.heap.size W w' := by
  obtain ⟨t, rfl⟩ := str_of a0
  have hsz : (str t).size = t.length := str_size t
  clear w0
  by_cases hlt : t.length ≤ 1048576
  · have d1 : decide (1048576 < (t.length : Int)) = false := by simp; omega
    have R8 := Lib.hid (readF8 t)
    have HIR := Lib.hid (holes_info R8.out.len)
    have HLT := Lib.hid hlt
    go_enter Try.func6, Try.ntmps6
    go_wp2_with (first
      | (go_at_call 25; ((with_reducible refine (c_sReadHoles t HLT.out _).mono ?_); rintro e w1 ⟨rfl, hb⟩; obtain ⟨hc_, hf_, hz_⟩ := bfacts hb; (try simp only [World.size_alloc, World.size_setCell, World.size_drew] at hc_ hf_ hz_)))
      | (go_at_call 26; ((with_reducible refine (c_iReadHoles t _).mono ?_); rintro e w1 ⟨rfl, hb⟩; obtain ⟨hc_, hf_, hz_⟩ := bfacts hb; (try simp only [World.size_alloc, World.size_setCell, World.size_drew] at hc_ hf_ hz_); have HX := Lib.hid (blk_below HX.out hb)))
      | (go_at_call 24; ((with_reducible refine (c_eqHoles _ _ R8.out).mono ?_); rintro e w1 ⟨rfl, hb⟩; obtain ⟨hc_, hf_, hz_⟩ := bfacts hb; (try simp only [World.size_alloc, World.size_setCell, World.size_drew] at hc_ hf_ hz_)))
      | (refine ev_store_row rfl 38 (.tmp 3) (.tmp 13) rfl (w1.heap.size) ((nums .u8 (readF t).1).toArray) rfl rfl 38 _ (heap_alloc_new w1 _) HIR.out ((by simp [nums, R8.out.len])) (nums_one _ _) ?_; intro w1 hblk ht; have hb := tou_new ht; clear ht; obtain ⟨hc_, hf_, hz_⟩ := bfacts hb; (try simp only [World.size_alloc, World.size_setCell, World.size_drew] at hc_ hf_ hz_); have HX := Lib.hid hblk; clear hblk)
      | (refine ev_store_row rfl 38 (.tmp 5) (.tmp 18) rfl (w1.heap.size) ((nums .u8 (readF t).1).toArray) rfl rfl 38 _ (heap_alloc_new w1 _) HIR.out ((by simp [nums, R8.out.len])) (nums_one _ _) ?_; intro w1 hblk ht; have hb := tou_new ht; clear ht; obtain ⟨hc_, hf_, hz_⟩ := bfacts hb; (try simp only [World.size_alloc, World.size_setCell, World.size_drew] at hc_ hf_ hz_); have HX := Lib.hid (blk_below HX.out hb); have HY := Lib.hid hblk; clear hblk)
      | (refine wpList_load_row rfl 38 (.tmp 3) rfl (_) rfl 38 _ (0, 0) _ HX.out Try.underlying38 rfl HIR.out ?_)
      | (refine wpList_load_row rfl 38 (.tmp 5) rfl (_) rfl 38 _ (0, 0) _ HY.out Try.underlying38 rfl HIR.out ?_))
    go_ret
    exact ⟨rfl, by (repeat (first | with_reducible exact Below.refl _ _ | with_reducible refine below_alloc ?_ _ | with_reducible refine below_drew ?_ | with_reducible refine below_drewN ?_ _ | with_reducible refine below_then ?_ (by assumption)))⟩
  · have d1 : decide (1048576 < (t.length : Int)) = true := by simp; omega
    go_enter Try.func6, Try.ntmps6
    go_wp2
    go_ret
    exact ⟨rfl, Below.refl _ _⟩
end Go.Proofs.Ytcjpfgloemoobaa
