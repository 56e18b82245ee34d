/- Holes without a spot, by the program and by the reference; the reference's spot. -/
import Derived.Test.YtcbegcekdmmjpaaSpotImpl
import Derived.Test.YtcbegcekdmmjpaaInt64S
namespace Go.Proofs.Ytcbegcekdmmjpaa
open Go.RowKit
set_option linter.unusedVariables false
set_option linter.unusedSimpArgs false
set_option maxRecDepth 100000

theorem marked_at (f : Nat → Value) {k : Nat} {xs : List Value} (h : k < xs.length) : (marked f k xs)[k]? = xs[k]? := by
  simp [marked, List.getElem?_append]
theorem row_set {w : World} {g : Nat} {t : TypeId} {l : List Value} (h : w.heap[g]? = some (.cells l.toArray t (0, 0))) (i : Nat) (u : Value) : (w.setCell ⟨g, i, none⟩ u).heap[g]? = some (.cells (l.set i u).toArray t (0, 0)) := by
  have := blk_set h i u
  simpa using this
theorem row_cell {w : World} {g : Nat} {t : TypeId} {l : List Value} {k : Nat} {u : Value} (h : w.heap[g]? = some (.cells l.toArray t (0, 0))) (hk : l[k]? = some u) : w.cell? ⟨g, k, none⟩ = some u := by
  rw [blk_cell h]; simpa using hk
def fLess (hs gone : List Int) (i : Nat) : Value := .int .u8 (gi (less hs gone) i)

set_option maxHeartbeats 2000000 in
theorem c_without (hs gone : List Int) (h8 : Holes8 hs) (g8 : Holes8 gone) (w : World) :
    Calls Try.prog 41 #[.agg (nums .u8 hs).toArray, .agg (nums .u8 gone).toArray] w fun e w' => e = .returned (.agg (nums .u8 (less hs gone)).toArray) ∧ Below w.heap.size w w' := by
  have H8 := Lib.hid h8
  have G8 := Lib.hid g8
  have HI := Lib.hid (holes_info g8.len)
  have HIL := Lib.hid (holes_info (less8 hs gone).len)
  have hz : (nums .u8 noHoles).toArray = #[.int .u8 0, .int .u8 0, .int .u8 0, .int .u8 0, .int .u8 0, .int .u8 0, .int .u8 0, .int .u8 0] := rfl
  have g0 := blk_alloc (blk_alloc (heap_alloc_new w (.cells (nums .u8 hs).toArray 25 (0, 0))) (.cells (nums .u8 gone).toArray 25 (0, 0))) (.cells #[.int .u8 0, .int .u8 0, .int .u8 0, .int .u8 0, .int .u8 0, .int .u8 0, .int .u8 0, .int .u8 0] 25 (0, 0))
  have g1 := heap_alloc_new (w.alloc (.cells (nums .u8 hs).toArray 25 (0, 0))) (.cells (nums .u8 gone).toArray 25 (0, 0))
  rw [World.size_alloc] at g1
  have g1 := blk_alloc g1 (.cells #[.int .u8 0, .int .u8 0, .int .u8 0, .int .u8 0, .int .u8 0, .int .u8 0, .int .u8 0, .int .u8 0] 25 (0, 0))
  have g2 := heap_alloc_new ((w.alloc (.cells (nums .u8 hs).toArray 25 (0, 0))).alloc (.cells (nums .u8 gone).toArray 25 (0, 0))) (.cells #[.int .u8 0, .int .u8 0, .int .u8 0, .int .u8 0, .int .u8 0, .int .u8 0, .int .u8 0, .int .u8 0] 25 (0, 0))
  rw [World.size_alloc, World.size_alloc] at g2
  have G0 : Hid ((((w.alloc (.cells (nums .u8 hs).toArray 25 (0, 0))).alloc (.cells (nums .u8 gone).toArray 25 (0, 0))).alloc (.cells #[.int .u8 0, .int .u8 0, .int .u8 0, .int .u8 0, .int .u8 0, .int .u8 0, .int .u8 0, .int .u8 0] 25 (0, 0))).heap[w.heap.size]? = some (.cells (marked (fLess hs gone) 0 (nums .u8 hs)).toArray 25 (0, 0))) := by rw [Hid, marked_zero]; exact g0
  have G1 := Lib.hid g1
  have G2 := Lib.hid g2
  have HB0 : Hid (Below w.heap.size w (((w.alloc (.cells (nums .u8 hs).toArray 25 (0, 0))).alloc (.cells (nums .u8 gone).toArray 25 (0, 0))).alloc (.cells #[.int .u8 0, .int .u8 0, .int .u8 0, .int .u8 0, .int .u8 0, .int .u8 0, .int .u8 0, .int .u8 0] 25 (0, 0)))) := by show Below w.heap.size w _; (repeat (first | with_reducible exact Below.refl _ _ | with_reducible refine below_alloc ?_ _ | with_reducible refine below_drew ?_ | with_reducible refine below_drewN ?_ _ | with_reducible refine below_then ?_ (by assumption)))
  clear h8 g8 g0 g1 g2
  go_enter Try.func41, Try.ntmps41
  go_wp2_with (refine wpList_load_row rfl 25 (.tmp 3) rfl (w.heap.size + 1) rfl 25 (nums .u8 gone).toArray (0, 0) _ ?_ Try.underlying25 rfl HI.out ?_; (with_reducible exact G1.out))
  go_loopw [8] (fun i wr => ∃ k : Nat, k ≤ 8 ∧ i = .int .i64 k ∧ Hid (wr.heap[w.heap.size]? = some (.cells (marked (fLess hs gone) k (nums .u8 hs)).toArray 25 (0, 0))) ∧ Hid (wr.heap[w.heap.size + 1 + 1]? = some (.cells #[.int .u8 0, .int .u8 0, .int .u8 0, .int .u8 0, .int .u8 0, .int .u8 0, .int .u8 0, .int .u8 0] 25 (0, 0))) ∧ Hid (Below w.heap.size w wr)) (fun i _ => 8 - (intOf i).toNat)
  case atStart => exact ⟨0, by omega, rfl, G0, G2, HB0⟩
  case round =>
    obtain ⟨k, hk, rfl, hA, hR, hB⟩ := hrel
    by_cases hlt : k < 8
    · have e1 := nums_at (k := .u8) (xs := gone) k (by rw [G8.out.len]; omega)
      have r1 : ∀ w, (Instr.index 25 (.agg (nums .u8 gone).toArray) (.int .i64 (k : Int))).run Try.prog w = .ok (.int .u8 (gi gone k)) w := fun w =>
        run_index_arr Try.underlying25 Try.underlying5 (by kernel_rfl) w _ k (by omega) _ (by simpa using e1) .i64
      have hkl : k < (nums .u8 hs).length := by rw [nums_length, H8.out.len]; exact hlt
      have c0 := row_cell hA.out ((marked_at (fLess hs gone) hkl).trans (nums_at k (by rw [H8.out.len]; exact hlt)))
      have f0 := blk_frozen hA.out k
      have k0 : (0 : Int) ≤ (k : Int) := by omega
      have k1 : (k : Int) < 8 := by omega
      have E : Hid (Value.int .u8 (bits .andNot .u8 (gi hs k) (gi gone k)) = fLess hs gone k) := by rw [Hid, fLess, less_row H8.out G8.out hlt]
      clear e1
      go_wp2
      go_roundw
      case rel =>
        refine ⟨k + 1, by omega, by go_num, ?_, blk_far hR.out (by omega) _ _, hB.out.setCell (by simp) _⟩
        have := row_set hA.out k (Value.int .u8 (bits .andNot .u8 (gi hs k) (gi gone k)))
        rw [E.out, marked_set (fLess hs gone) hkl] at this
        rw [Hid, E.out]
        exact this
      case measure => simp [intOf]; omega
    · obtain rfl : k = 8 := by omega
      have hA2 := hA.out
      rw [marked_all _ (by rw [nums_length, H8.out.len])] at hA2
      have HA2 : Hid (wr.heap[w.heap.size]? = some (.cells (nums .u8 (less hs gone)).toArray 25 (0, 0))) := by
        rw [Hid, ← marked_nums (less8 hs gone).len .u8]; exact hA2
      clear hA hA2
      go_wp2_with (first
        | (refine wpList_load_row rfl 25 (.tmp 2) rfl (w.heap.size) rfl 25 (nums .u8 (less hs gone)).toArray (0, 0) _ ?_ Try.underlying25 rfl HIL.out ?_; (with_reducible exact HA2.out))
        | (refine ev_store_row rfl 25 (.tmp 4) (.tmp 19) rfl (w.heap.size + 1 + 1) (nums .u8 (less hs gone)).toArray rfl rfl 25 #[.int .u8 0, .int .u8 0, .int .u8 0, .int .u8 0, .int .u8 0, .int .u8 0, .int .u8 0, .int .u8 0] ?_ HIL.out (by rw [← hz]; simp [nums, noHoles, (less8 hs gone).len]) (nums_one _ _) ?_; (with_reducible exact hR.out); intro w6 hblk ht; have hR3 := Lib.hid hblk; clear hblk))
      refine bodyPost_ret (v := .agg (nums .u8 (less hs gone)).toArray) (results_cell_row rfl _ _ (w.heap.size + 1 + 1) 25 (nums .u8 (less hs gone)).toArray (0, 0) _ rfl (by with_reducible exact hR3.out) Try.underlying25 rfl HIL.out) rfl ⟨rfl, hB.out.trans (ht.below (by omega))⟩
set_option maxHeartbeats 2000000 in
theorem c_l06Less (g g' : Nat) (hs gone : List Int) (h8 : Holes8 hs) (g8 : Holes8 gone) (w : World) (hg : w.heap[g]? = some (.cells (nums .u8 hs).toArray 25 (0, 0))) (hg' : w.heap[g']? = some (.cells (nums .u8 gone).toArray 25 (0, 0))) :
    Calls Try.prog 43 #[.pointer (some ⟨g, 0, none⟩), .pointer (some ⟨g', 0, none⟩)] w fun e w' => e = .returned (.agg (nums .u8 (less hs gone)).toArray) ∧ Below w.heap.size w w' := by
  have H8 := Lib.hid h8
  have G8 := Lib.hid g8
  have HG := Lib.hid hg
  have HG' := Lib.hid hg'
  have HIL := Lib.hid (holes_info (less8 hs gone).len)
  have hz : (nums .u8 noHoles).toArray = #[.int .u8 0, .int .u8 0, .int .u8 0, .int .u8 0, .int .u8 0, .int .u8 0, .int .u8 0, .int .u8 0] := rfl
  have g0 := blk_alloc (heap_alloc_new w (.cells #[.int .u8 0, .int .u8 0, .int .u8 0, .int .u8 0, .int .u8 0, .int .u8 0, .int .u8 0, .int .u8 0] 25 (0, 0))) (.cells #[.int .u8 0, .int .u8 0, .int .u8 0, .int .u8 0, .int .u8 0, .int .u8 0, .int .u8 0, .int .u8 0] 25 (0, 0))
  have g1 := heap_alloc_new (w.alloc (.cells #[.int .u8 0, .int .u8 0, .int .u8 0, .int .u8 0, .int .u8 0, .int .u8 0, .int .u8 0, .int .u8 0] 25 (0, 0))) (.cells #[.int .u8 0, .int .u8 0, .int .u8 0, .int .u8 0, .int .u8 0, .int .u8 0, .int .u8 0, .int .u8 0] 25 (0, 0))
  rw [World.size_alloc] at g1
  have G0 := Lib.hid g0
  have G1 : Hid (((w.alloc (.cells #[.int .u8 0, .int .u8 0, .int .u8 0, .int .u8 0, .int .u8 0, .int .u8 0, .int .u8 0, .int .u8 0] 25 (0, 0))).alloc (.cells #[.int .u8 0, .int .u8 0, .int .u8 0, .int .u8 0, .int .u8 0, .int .u8 0, .int .u8 0, .int .u8 0] 25 (0, 0))).heap[w.heap.size + 1]? = some (.cells (marked (fLess hs gone) 0 (nums .u8 noHoles)).toArray 25 (0, 0))) := by rw [Hid, marked_zero, hz]; exact g1
  have HB0 : Hid (Below w.heap.size w ((w.alloc (.cells #[.int .u8 0, .int .u8 0, .int .u8 0, .int .u8 0, .int .u8 0, .int .u8 0, .int .u8 0, .int .u8 0] 25 (0, 0))).alloc (.cells #[.int .u8 0, .int .u8 0, .int .u8 0, .int .u8 0, .int .u8 0, .int .u8 0, .int .u8 0, .int .u8 0] 25 (0, 0)))) := by show Below w.heap.size w _; (repeat (first | with_reducible exact Below.refl _ _ | with_reducible refine below_alloc ?_ _ | with_reducible refine below_drew ?_ | with_reducible refine below_drewN ?_ _ | with_reducible refine below_then ?_ (by assumption)))
  clear h8 g8 g0 g1 hg hg'
  go_enter Try.func43, Try.ntmps43
  go_wp2
  go_loopw [6] (fun i wr => ∃ k : Nat, k ≤ 8 ∧ i = .int .i64 k ∧ Hid (wr.heap[w.heap.size]? = some (.cells #[.int .u8 0, .int .u8 0, .int .u8 0, .int .u8 0, .int .u8 0, .int .u8 0, .int .u8 0, .int .u8 0] 25 (0, 0))) ∧ Hid (wr.heap[w.heap.size + 1]? = some (.cells (marked (fLess hs gone) k (nums .u8 noHoles)).toArray 25 (0, 0))) ∧ Hid (Below w.heap.size w wr)) (fun i _ => 8 - (intOf i).toNat)
  case atStart => exact ⟨0, by omega, rfl, G0, G1, HB0⟩
  case round =>
    obtain ⟨k, hk, rfl, hR, hA, hB⟩ := hrel
    by_cases hlt : k < 8
    · have hkl : k < (nums .u8 noHoles).length := by rw [nums_length, noHoles8.len]; exact hlt
      have x0 := nums_cell (blk_below HG.out hB.out) k (by rw [H8.out.len]; exact hlt)
      have x1 := nums_cell (blk_below HG'.out hB.out) k (by rw [G8.out.len]; exact hlt)
      obtain ⟨u0, c0⟩ : ∃ u, wr.cell? ⟨w.heap.size + 1, k, none⟩ = some u := ⟨_, row_cell hA.out ((marked_at (fLess hs gone) hkl).trans (nums_at k (by rw [noHoles8.len]; exact hlt)))⟩
      have f0 := blk_frozen hA.out k
      have k0 : (0 : Int) ≤ (k : Int) := by omega
      have k1 : (k : Int) < 8 := by omega
      have E : Hid (Value.int .u8 (bits .andNot .u8 (gi hs k) (gi gone k)) = fLess hs gone k) := by rw [Hid, fLess, less_row H8.out G8.out hlt]
      go_wp2
      go_still_tail 13, (by kernel_rfl)
      change wpList _ _ _ _ _ wr.drew
      have hR1 : Hid (wr.drew.heap[w.heap.size]? = some (.cells #[.int .u8 0, .int .u8 0, .int .u8 0, .int .u8 0, .int .u8 0, .int .u8 0, .int .u8 0, .int .u8 0] 25 (0, 0))) := hR.out
      have hA1 : Hid (wr.drew.heap[w.heap.size + 1]? = some (.cells (marked (fLess hs gone) k (nums .u8 noHoles)).toArray 25 (0, 0))) := hA.out
      have hB1 : Hid (Below w.heap.size w wr.drew) := below_drew hB.out
      have c1 : wr.drew.cell? ⟨w.heap.size + 1, k, none⟩ = some u0 := c0
      have f1 : wr.drew.frozen? ⟨w.heap.size + 1, k, none⟩ = false := f0
      clear x0 x1 c0 f0 hR hA hB
      generalize wr.drew = wd at *
      go_wp2
      go_roundw
      case rel =>
        refine ⟨k + 1, by omega, by go_num, blk_far hR1.out (by omega) _ _, ?_, hB1.out.setCell (by simp) _⟩
        have := row_set hA1.out k (Value.int .u8 (bits .andNot .u8 (gi hs k) (gi gone k)))
        rw [E.out, marked_set (fLess hs gone) hkl] at this
        rw [Hid, E.out]
        exact this
      case measure => simp [intOf]; omega
    · obtain rfl : k = 8 := by omega
      have hA2 := hA.out
      rw [marked_all _ (by rw [nums_length, noHoles8.len])] at hA2
      have HA2 : Hid (wr.heap[w.heap.size + 1]? = some (.cells (nums .u8 (less hs gone)).toArray 25 (0, 0))) := by
        rw [Hid, ← marked_nums (less8 hs gone).len .u8]; exact hA2
      clear hA hA2
      go_wp2_with (first
        | (refine wpList_load_row rfl 25 (.tmp 5) rfl (w.heap.size + 1) rfl 25 (nums .u8 (less hs gone)).toArray (0, 0) _ ?_ Try.underlying25 rfl HIL.out ?_; (with_reducible exact HA2.out))
        | (refine ev_store_row rfl 25 (.tmp 4) (.tmp 25) rfl (w.heap.size) (nums .u8 (less hs gone)).toArray rfl rfl 25 #[.int .u8 0, .int .u8 0, .int .u8 0, .int .u8 0, .int .u8 0, .int .u8 0, .int .u8 0, .int .u8 0] ?_ HIL.out (by rw [← hz]; simp [nums, noHoles, (less8 hs gone).len]) (nums_one _ _) ?_; (with_reducible exact hR.out); intro w6 hblk ht; have hR3 := Lib.hid hblk; clear hblk))
      refine bodyPost_ret (v := .agg (nums .u8 (less hs gone)).toArray) (results_cell_row rfl _ _ (w.heap.size) 25 (nums .u8 (less hs gone)).toArray (0, 0) _ rfl (by with_reducible exact hR3.out) Try.underlying25 rfl HIL.out) rfl ⟨rfl, hB.out.trans (ht.below (by omega))⟩
end Go.Proofs.Ytcbegcekdmmjpaa
