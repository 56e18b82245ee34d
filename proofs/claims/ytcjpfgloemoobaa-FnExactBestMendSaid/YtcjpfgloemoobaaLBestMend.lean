/- The law on the best spot to mend. -/
import Derived.Test.YtcjpfgloemoobaaBestMend
namespace Go.Proofs.Ytcjpfgloemoobaa
open Go.RowKit
set_option linter.unusedVariables false
set_option linter.unusedSimpArgs false
set_option maxRecDepth 100000

set_option maxHeartbeats 2000000 in
theorem walk_FnExactBestMend (W : World) (a0 : List Int) (l0 : a0.length = 8) (w0 : ∀ z ∈ a0, (Lit.int .u8 z).wf = true) (a1 : Int) (w1 : (Lit.int .i64 a1).wf = true) (a2 : Int) (w2 : (Lit.int .i64 a2).wf = true) :
    Calls Try.prog 13 #[.agg (nums .u8 a0).toArray, .int .i64 a1, .int .i64 a2] W fun e w' => e = .returned (.bool true) ∧ Below W.heap.size W w' := by
  have h8 := holes8 l0 w0
  have HI0 := Lib.hid (arr8_info h8)
  have H8 := Lib.hid h8
  have hbw : Below W.heap.size W (W.alloc (.cells (nums .u8 a0).toArray 35 (0, 0))) := below_alloc (Below.refl _ _) _
  have HBW := Lib.hid hbw
  have hA0 := heap_alloc_new W (.cells (nums .u8 a0).toArray 35 (0, 0))
  have HA0 : Hid ((W.alloc (.cells (nums .u8 a0).toArray 35 (0, 0))).heap[W.heap.size]? = some (.cells (nums .u8 a0).toArray 35 (0, 0))) := hA0
  have HB : Hid (Below (W.alloc (.cells (nums .u8 a0).toArray 35 (0, 0))).heap.size (W.alloc (.cells (nums .u8 a0).toArray 35 (0, 0))) (W.alloc (.cells (nums .u8 a0).toArray 35 (0, 0)))) := Below.refl _ _
  clear hbw h8 l0 w0 hA0
  obtain ⟨L, hL⟩ : ∃ L, (spotsN a0 64).1 = L := ⟨_, rfl⟩
  have CS := fun w => Lib.hid (c_sBestMend a0 a1 a2 L H8.out hL w)
  have CI := fun w => Lib.hid (c_iBestMend a0 a1 a2 L H8.out hL w)
  clear hL
  have sc := Lib.hid True.intro
  go_enter Try.func13, Try.ntmps13
  go_wp2_with (first
    | (refine wpList_load_row rfl 35 (.tmp 3) rfl (W.heap.size) rfl 35 _ (0, 0) _ (blk_below HA0.out HB.out) Try.underlying35 rfl HI0.out ?_)
    | (go_at_call 20; ((with_reducible refine (c_toHoles a0 _ H8.out).mono ?_); rintro e w1 ⟨rfl, hb⟩; have HB := Lib.hid (below_then HB.out hb); clear hb))
    | (go_at_call 50; clear sc; ((with_reducible refine ((CS _).out).mono ?_); rintro e w1 ⟨rfl, hb⟩; have HB := Lib.hid (below_then HB.out hb); clear hb))
    | (go_at_call 51; ((with_reducible refine ((CI _).out).mono ?_); rintro e w1 ⟨rfl, hb⟩; have HB := Lib.hid (below_then HB.out hb); clear hb)))
  go_ret
  exact ⟨rfl, below_then HBW.out HB.out⟩
end Go.Proofs.Ytcjpfgloemoobaa
