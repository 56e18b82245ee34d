/- The laws on holes: texts. -/
import Derived.Test.YtmnipaafnjhflaaHolesLaws
import Derived.Test.YtmnipaafnjhflaaHolesText
namespace Go.Proofs.Ytmnipaafnjhflaa
open Go.RowKit
set_option linter.unusedVariables false
set_option linter.unusedSimpArgs false

theorem walk_FnExactHolesText (W : World) (a0 : List Int) (l0 : a0.length = 8) (w0 : ∀ z ∈ a0, (Lit.int .u8 z).wf = true) :
    Calls Try.prog 8 #[.agg (nums .u8 a0).toArray] W fun e w' => e = .returned (.bool true) ∧ Below W.heap.size W w' := by
  have h8 := holes8 l0 w0
  have HI := Lib.hid (arr8_info h8)
  have H8 := Lib.hid h8
  have HA := Lib.hid (heap_alloc_new W (.cells (nums .u8 a0).toArray 37 (0, 0)))
  clear h8 l0 w0
  go_enter Try.func8, Try.ntmps8
  go_wp2_with (first | (refine wpList_load_row rfl 37 (.tmp 1) rfl (W.heap.size) rfl 37 _ (0, 0) _ HA.out Try.underlying37 rfl HI.out ?_) | (go_at_call 18; ((with_reducible refine (c_toHoles _ _ H8.out).mono ?_); rintro e w1 ⟨rfl, hb⟩; obtain ⟨hc_, hf_, hz_⟩ := bfacts hb; (try simp only [World.size_alloc, World.size_setCell, World.size_drew] at hc_ hf_ hz_); have hzz0 : W.heap.size < w1.heap.size := (by omega); have HA := Lib.hid (blk_below HA.out hb))) | (go_at_call 22; ((with_reducible refine (c_sHolesText _ _ H8.out).mono ?_); rintro e w1 ⟨rfl, hb⟩; obtain ⟨hc_, hf_, hz_⟩ := bfacts hb; (try simp only [World.size_alloc, World.size_setCell, World.size_drew] at hc_ hf_ hz_); have hzz0 : W.heap.size < w1.heap.size := (by omega); have HA := Lib.hid (blk_below HA.out hb))) | (go_at_call 23; ((with_reducible refine (c_iHolesText _ _ H8.out).mono ?_); rintro e w1 ⟨rfl, hb⟩; obtain ⟨hc_, hf_, hz_⟩ := bfacts hb; (try simp only [World.size_alloc, World.size_setCell, World.size_drew] at hc_ hf_ hz_); have hzz0 : W.heap.size < w1.heap.size := (by omega); have HA := Lib.hid (blk_below HA.out hb))))
  go_ret
  exact ⟨rfl, by (repeat (first | with_reducible exact Below.refl _ _ | with_reducible refine below_alloc ?_ _ | with_reducible refine below_drew ?_ | with_reducible refine below_drewN ?_ _ | with_reducible refine below_then ?_ (by assumption)))⟩
end Go.Proofs.Ytmnipaafnjhflaa
