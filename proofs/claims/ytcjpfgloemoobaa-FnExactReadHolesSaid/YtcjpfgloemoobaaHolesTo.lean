/- Holes copied out of a law's argument. -/
import Derived.Test.YtcjpfgloemoobaaHolesBase
namespace Go.Proofs.Ytcjpfgloemoobaa
open Go.RowKit
set_option linter.unusedVariables false
set_option linter.unusedSimpArgs false
set_option maxRecDepth 100000

set_option maxHeartbeats 800000 in
theorem c_toHoles (hs : List Int) (w : World) (h8 : Holes8 hs) :
    Calls Try.prog 20 #[.agg (nums .u8 hs).toArray] w fun e w' => e = .returned (.agg (nums .u8 hs).toArray) ∧ Below w.heap.size w w' := by
  have hi : (Try.prog.info? 38).map (·.size) = some (nums .u8 hs).toArray.size := by
    have e : (Try.prog.info? 38).map (·.size) = some 8 := by kernel_rfl
    rw [e]; simp [nums, h8.len]
  have HI := Lib.hid hi
  have H8 := Lib.hid h8
  have HZ : Hid (#[Value.int .u8 0, .int .u8 0, .int .u8 0, .int .u8 0, .int .u8 0, .int .u8 0, .int .u8 0, .int .u8 0] = (nums .u8 (half hs 0)).toArray) := by
    rw [Hid, half_zero, h8.len]; rfl
  clear hi h8
  go_enter Try.func20, Try.ntmps20
  go_wp2
  go_loopw [4] (fun i wr => ∃ k : Nat, k ≤ 8 ∧ i = .int .i64 k ∧ Hid (wr.heap[w.heap.size]? = some (.cells (nums .u8 hs).toArray 35 (0, 0))) ∧ Hid (∃ z : List Int, z.length = 8 ∧ wr.heap[w.heap.size + 1]? = some (.cells (nums .u8 z).toArray 38 (0, 0))) ∧ Hid (wr.heap[w.heap.size + 1 + 1]? = some (.cells (nums .u8 (half hs k)).toArray 38 (0, 0))) ∧ Below w.heap.size w wr) (fun i _ => 8 - (intOf i).toNat)
  case atStart =>
    refine ⟨0, by omega, rfl, ?_, ?_, ?_, by (repeat (first | with_reducible exact Below.refl _ _ | with_reducible refine below_alloc ?_ _ | with_reducible refine below_drew ?_ | with_reducible refine below_drewN ?_ _ | with_reducible refine below_then ?_ (by assumption)))⟩
    · exact blk_alloc (blk_alloc (heap_alloc_new _ _) _) _
    · refine ⟨half hs 0, by rw [half_length _ _ (by omega)]; exact H8.out.len, ?_⟩
      rw [HZ.out]
      have := heap_alloc_new (w.alloc (.cells (nums .u8 hs).toArray 35 (0, 0))) (.cells (nums .u8 (half hs 0)).toArray 38 (0, 0))
      rw [World.size_alloc] at this
      exact blk_alloc this _
    · rw [HZ.out]
      have := heap_alloc_new ((w.alloc (.cells (nums .u8 hs).toArray 35 (0, 0))).alloc (.cells (nums .u8 (half hs 0)).toArray 38 (0, 0))) (.cells (nums .u8 (half hs 0)).toArray 38 (0, 0))
      rw [World.size_alloc, World.size_alloc] at this
      exact this
  case round =>
    obtain ⟨k, hk, rfl, hA, hR, hO, hB⟩ := hrel
    by_cases hlt : k < 8
    · have c1 := nums_cell hA.out k (by rw [H8.out.len]; omega)
      have c2 := nums_cell hO.out k (by rw [half_length _ _ (by rw [H8.out.len]; omega), H8.out.len]; omega)
      have f2 := blk_frozen hO.out k
      go_wp2
      go_roundw
      case rel =>
        refine ⟨k + 1, by omega, by go_num, blk_far hA.out (by omega) _ _, ?_, ?_, hB.setCell (by simp; omega) _⟩
        · obtain ⟨z, hz, hzb⟩ := hR.out
          exact ⟨z, hz, blk_far hzb (by omega) _ _⟩
        · have := blk_set hO.out k (.int .u8 (gi hs k))
          rw [nums_set, half_set hs k (by rw [H8.out.len]; omega)] at this
          exact this
      case measure => simp [intOf]; omega
    · obtain rfl : k = 8 := by omega
      obtain ⟨z, hz, hzb⟩ := hR.out
      have HO : Hid (wr.heap[w.heap.size + 1 + 1]? = some (.cells (nums .u8 hs).toArray 38 (0, 0))) := by
        have := hO.out
        rw [show (8 : Nat) = hs.length from H8.out.len.symm, half_all] at this
        exact this
      have HZB := Lib.hid hzb
      clear hzb hO hR
      go_wp2_with (first
        | (refine wpList_load_row rfl 38 (.tmp 3) rfl (w.heap.size + 1 + 1) rfl 38 _ (0, 0) _ HO.out Try.underlying38 rfl HI.out ?_)
        | (refine wpList_store_row rfl 38 (.tmp 2) (.tmp 14) rfl (w.heap.size + 1) (nums .u8 hs).toArray rfl rfl 38 _ HZB.out HI.out (by simp [nums, hz, H8.out.len]) (nums_one _ _) ?_))
      refine bodyPost_ret (v := .agg (nums .u8 hs).toArray) (results_cell_row rfl _ _ (w.heap.size + 1) 38 _ (0, 0) _ rfl (setRow_heap _ _ _ _ _ _ HZB.out) Try.underlying38 rfl HI.out) rfl ⟨rfl, ?_⟩
      exact hB.trans ((Tou.setRow _ _ _).below (by omega))
end Go.Proofs.Ytcjpfgloemoobaa
