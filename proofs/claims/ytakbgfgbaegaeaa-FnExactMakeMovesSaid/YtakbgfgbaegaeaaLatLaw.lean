/- The law on the first wrong move. -/
import Derived.Test.YtakbgfgbaegaeaaLatFirst
namespace Go.Proofs.Ytakbgfgbaegaeaa
open Go.RowKit
set_option linter.unusedVariables false
set_option linter.unusedSimpArgs false
set_option maxRecDepth 100000

set_option maxHeartbeats 800000 in
theorem c_toPlaces (hs : List Int) (w : World) (h8 : hs.length = 5) :
    Calls Try.prog 13 #[.agg (nums .i32 hs).toArray] w fun e w' => e = .returned (.agg (nums .i32 hs).toArray) ∧ Below w.heap.size w w' := by
  have hi : (Try.prog.info? 32).map (·.size) = some (nums .i32 hs).toArray.size := by
    have e : (Try.prog.info? 32).map (·.size) = some 5 := by kernel_rfl
    rw [e]; simp [nums, h8]
  have HI := Lib.hid hi
  have H8 := Lib.hid h8
  have HZ : Hid (#[Value.int .i32 0, .int .i32 0, .int .i32 0, .int .i32 0, .int .i32 0] = (nums .i32 (half hs 0)).toArray) := by
    rw [Hid, half_zero, h8]; rfl
  clear hi h8
  go_enter Try.func13, Try.ntmps13
  go_wp2
  go_loopw [4] (fun i wr => ∃ k : Nat, k ≤ 5 ∧ i = .int .i64 k ∧ Hid (wr.heap[w.heap.size]? = some (.cells (nums .i32 hs).toArray 31 (0, 0))) ∧ Hid (∃ z : List Int, z.length = 5 ∧ wr.heap[w.heap.size + 1]? = some (.cells (nums .i32 z).toArray 32 (0, 0))) ∧ Hid (wr.heap[w.heap.size + 1 + 1]? = some (.cells (nums .i32 (half hs k)).toArray 32 (0, 0))) ∧ Below w.heap.size w wr) (fun i _ => 5 - (intOf i).toNat)
  case atStart =>
    refine ⟨0, by omega, rfl, ?_, ?_, ?_, by (repeat (first | with_reducible exact Below.refl _ _ | with_reducible refine below_alloc ?_ _ | with_reducible refine below_drew ?_ | with_reducible refine below_drewN ?_ _ | with_reducible refine below_then ?_ (by assumption)))⟩
    · exact blk_alloc (blk_alloc (heap_alloc_new _ _) _) _
    · refine ⟨half hs 0, by rw [half_length _ _ (by omega)]; exact H8.out, ?_⟩
      rw [HZ.out]
      have := heap_alloc_new (w.alloc (.cells (nums .i32 hs).toArray 31 (0, 0))) (.cells (nums .i32 (half hs 0)).toArray 32 (0, 0))
      rw [World.size_alloc] at this
      exact blk_alloc this _
    · rw [HZ.out]
      have := heap_alloc_new ((w.alloc (.cells (nums .i32 hs).toArray 31 (0, 0))).alloc (.cells (nums .i32 (half hs 0)).toArray 32 (0, 0))) (.cells (nums .i32 (half hs 0)).toArray 32 (0, 0))
      rw [World.size_alloc, World.size_alloc] at this
      exact this
  case round =>
    obtain ⟨k, hk, rfl, hA, hR, hO, hB⟩ := hrel
    by_cases hlt : k < 5
    · have c1 := nums_cell hA.out k (by rw [H8.out]; omega)
      have c2 := nums_cell hO.out k (by rw [half_length _ _ (by rw [H8.out]; omega), H8.out]; omega)
      have f2 := blk_frozen hO.out k
      go_wp2
      go_roundw
      case rel =>
        refine ⟨k + 1, by omega, by go_num, blk_far hA.out (by omega) _ _, ?_, ?_, hB.setCell (by simp; omega) _⟩
        · obtain ⟨z, hz, hzb⟩ := hR.out
          exact ⟨z, hz, blk_far hzb (by omega) _ _⟩
        · have := blk_set hO.out k (.int .i32 (gi hs k))
          rw [nums_set, half_set hs k (by rw [H8.out]; omega)] at this
          exact this
      case measure => simp [intOf]; omega
    · obtain rfl : k = 5 := by omega
      obtain ⟨z, hz, hzb⟩ := hR.out
      have HO : Hid (wr.heap[w.heap.size + 1 + 1]? = some (.cells (nums .i32 hs).toArray 32 (0, 0))) := by
        have := hO.out
        rw [show (5 : Nat) = hs.length from H8.out.symm, half_all] at this
        exact this
      have HZB := Lib.hid hzb
      clear hzb hO hR
      go_wp2_with (first
        | (refine wpList_load_row rfl 32 (.tmp 3) rfl (w.heap.size + 1 + 1) rfl 32 _ (0, 0) _ HO.out Try.underlying32 rfl HI.out ?_)
        | (refine wpList_store_row rfl 32 (.tmp 2) (.tmp 14) rfl (w.heap.size + 1) (nums .i32 hs).toArray rfl rfl 32 _ HZB.out HI.out (by simp [nums, hz, H8.out]) (nums_one _ _) ?_))
      refine bodyPost_ret (v := .agg (nums .i32 hs).toArray) (results_cell_row rfl _ _ (w.heap.size + 1) 32 _ (0, 0) _ rfl (setRow_heap _ _ _ _ _ _ HZB.out) Try.underlying32 rfl HI.out) rfl ⟨rfl, ?_⟩
      exact hB.trans ((Tou.setRow _ _ _).below (by omega))

theorem arr5_info {p : List Int} (h : p.length = 5) : (Try.prog.info? 31).map (·.size) = some (nums .i32 p).toArray.size := by
  have e : (Try.prog.info? 31).map (·.size) = some 5 := by kernel_rfl
  rw [e]; simp [nums, h]
theorem gi_bd32 {zs : List Int} (h : ∀ z ∈ zs, (Lit.int .i32 z).wf = true) (j : Nat) : -2147483648 ≤ gi zs j ∧ gi zs j ≤ 2147483647 := by
  unfold gi
  by_cases hj : j < zs.length
  · have e : zs.getD j 0 = zs[j]'hj := by simp [List.getD, hj]
    rw [e]
    exact wf_i32 (h _ (List.getElem_mem hj))
  · have e : zs.getD j 0 = 0 := by simp [List.getD, List.getElem?_eq_none (show zs.length ≤ j by omega)]
    omega
end Go.Proofs.Ytakbgfgbaegaeaa
