/- The reference's spot: rings that grow. -/
import Derived.Test.YtcbegcekdmmjpaaSpotMend
namespace Go.Proofs.Ytcbegcekdmmjpaa
open Go.RowKit
set_option linter.unusedVariables false
set_option linter.unusedSimpArgs false
set_option maxRecDepth 100000

theorem tou_newS {w w1 : World} {o : Obj} (ht : Tou w.heap.size (w.alloc o) w1) : Below w.heap.size w w1 := (below_alloc (Below.refl _ _) _).trans (ht.below (Nat.le_refl _))
/-- The numbers in a block. -/
def rowI (w : World) (g : Nat) : List Int := match w.heap[g]? with
  | some (.cells cs _ _) => cs.toList.map intOf
  | _ => []
theorem rowI_of {w : World} {g : Nat} {k : IntKind} {l : List Int} {t : TypeId} {fr : Nat × Nat} (h : w.heap[g]? = some (.cells (nums k l).toArray t fr)) : rowI w g = l := by
  unfold rowI
  rw [h]
  simp [nums, Function.comp_def, intOf]
theorem or_zero_fin : ∀ a : Fin 8, bits .or .u8 0 (2 ^ a.val) = 2 ^ a.val := by decide +kernel
theorem or_zero {a : Nat} (h : a < 8) : bits .or .u8 0 (2 ^ a) = 2 ^ a := or_zero_fin ⟨a, h⟩
theorem gi_none_fin : ∀ b : Fin 8, gi noHoles b.val = 0 := by decide
theorem gi_none {b : Nat} (h : b < 8) : gi noHoles b = 0 := gi_none_fin ⟨b, h⟩
def fRing (hs o : List Int) (i : Nat) : Value := .int .u8 (gi (ring hs o) i)
theorem ring_bd {o : List Int} : cnt o 64 ≤ 64 := (cnt_bd o 64).2

set_option maxHeartbeats 4000000 in
theorem c_l06Spot (g : Nat) (hs : List Int) (h8 : Holes8 hs) (a b : Nat) (ha : a < 8) (hb : b < 8) (w : World) (hg : w.heap[g]? = some (.cells (nums .u8 hs).toArray 25 (0, 0))) (h0 : hole hs (a : Int) (b : Int) = true) :
    Calls Try.prog 49 #[.pointer (some ⟨g, 0, none⟩), .int .i64 (a : Int), .int .i64 (b : Int)] w fun e w' => e = .returned (.agg (nums .u8 (spot hs (a : Int) (b : Int))).toArray) ∧ Below w.heap.size w w' := by
  have H8 := Lib.hid h8
  have HG := Lib.hid hg
  have hz : (nums .u8 noHoles).toArray = #[.int .u8 0, .int .u8 0, .int .u8 0, .int .u8 0, .int .u8 0, .int .u8 0, .int .u8 0, .int .u8 0] := rfl
  have HF := Lib.hid (Ring.first ha hb h0)
  have g0 := blk_alloc (heap_alloc_new w (.cells #[.int .u8 0, .int .u8 0, .int .u8 0, .int .u8 0, .int .u8 0, .int .u8 0, .int .u8 0, .int .u8 0] 25 (0, 0))) (.cells ([.int .u8 0, .int .u8 0, .int .u8 0, .int .u8 0, .int .u8 0, .int .u8 0, .int .u8 0, .int .u8 0].set b (.int .u8 (2 ^ a))).toArray 25 (0, 0))
  have g1 := heap_alloc_new (w.alloc (.cells #[.int .u8 0, .int .u8 0, .int .u8 0, .int .u8 0, .int .u8 0, .int .u8 0, .int .u8 0, .int .u8 0] 25 (0, 0))) (.cells ([.int .u8 0, .int .u8 0, .int .u8 0, .int .u8 0, .int .u8 0, .int .u8 0, .int .u8 0, .int .u8 0].set b (.int .u8 (2 ^ a))).toArray 25 (0, 0))
  rw [World.size_alloc] at g1
  have HB0 : Hid (Below w.heap.size w ((w.alloc (.cells #[.int .u8 0, .int .u8 0, .int .u8 0, .int .u8 0, .int .u8 0, .int .u8 0, .int .u8 0, .int .u8 0] 25 (0, 0))).alloc (.cells ([.int .u8 0, .int .u8 0, .int .u8 0, .int .u8 0, .int .u8 0, .int .u8 0, .int .u8 0, .int .u8 0].set b (.int .u8 (2 ^ a))).toArray 25 (0, 0)))) := by show Below w.heap.size w _; (repeat (first | with_reducible exact Below.refl _ _ | with_reducible refine below_alloc ?_ _ | with_reducible refine below_drew ?_ | with_reducible refine below_drewN ?_ _ | with_reducible refine below_then ?_ (by assumption)))
  have pw := pow_mod ha
  have i1 : (0 : Int) ≤ (b : Int) := by omega
  have i2 : (b : Int) < 8 := by omega
  have i3 : (0 : Int) ≤ (a : Int) := by omega
  have i4 : (a : Int) < 8 := by omega
  have ev : ([Value.int .u8 0, .int .u8 0, .int .u8 0, .int .u8 0, .int .u8 0, .int .u8 0, .int .u8 0, .int .u8 0].set b (.int .u8 (2 ^ a))) = nums .u8 (addAt noHoles a b) := by
    have e : addAt noHoles a b = noHoles.set b (2 ^ a) := by unfold addAt; rw [gi_none hb, or_zero ha]
    rw [e]
    show (nums .u8 noHoles).set b (.int .u8 (2 ^ a)) = _
    simp [nums, List.map_set]
  have A0 : Hid (((w.alloc (.cells #[.int .u8 0, .int .u8 0, .int .u8 0, .int .u8 0, .int .u8 0, .int .u8 0, .int .u8 0, .int .u8 0] 25 (0, 0))).alloc (.cells ([.int .u8 0, .int .u8 0, .int .u8 0, .int .u8 0, .int .u8 0, .int .u8 0, .int .u8 0, .int .u8 0].set b (.int .u8 (2 ^ a))).toArray 25 (0, 0))).heap[w.heap.size + 1]? = some (.cells (nums .u8 (addAt noHoles a b)).toArray 25 (0, 0))) := by rw [Hid, ← ev]; exact g1
  have R0 : Hid (((w.alloc (.cells #[.int .u8 0, .int .u8 0, .int .u8 0, .int .u8 0, .int .u8 0, .int .u8 0, .int .u8 0, .int .u8 0] 25 (0, 0))).alloc (.cells ([.int .u8 0, .int .u8 0, .int .u8 0, .int .u8 0, .int .u8 0, .int .u8 0, .int .u8 0, .int .u8 0].set b (.int .u8 (2 ^ a))).toArray 25 (0, 0))).heap[w.heap.size]? = some (.cells (nums .u8 noHoles).toArray 25 (0, 0))) := by rw [Hid, hz]; exact g0
  clear h8 hg g0 g1 ev
  go_enter Try.func49, Try.ntmps49
  go_wp2
  go_loopw [8] (fun _ wr => Hid (∃ o, Ring hs (a : Int) (b : Int) o ∧ wr.heap[w.heap.size + 1]? = some (.cells (nums .u8 o).toArray 25 (0, 0))) ∧ Hid (wr.heap[w.heap.size]? = some (.cells (nums .u8 noHoles).toArray 25 (0, 0))) ∧ Hid (Below w.heap.size w wr)) (fun _ wr => (64 - cnt (rowI wr (w.heap.size + 1)) 64).toNat)
  case atStart => exact ⟨⟨_, HF.out, A0.out⟩, R0, HB0⟩
  case round =>
    obtain ⟨hA, hR, hB⟩ := hrel
    obtain ⟨o, hring, hA⟩ := hA.out
    have HO := Lib.hid hring
    have HA := Lib.hid hA
    have HM := Lib.hid (rowI_of hA)
    have HIw := Lib.hid (holes_info (week8 o 1).len)
    have HIo := Lib.hid (holes_info hring.h8.len)
    have HIr := Lib.hid (holes_info (ring8 hs o).len)
    have heq := fun w => run_equalIn_nums (P := Try.prog) w 9998 25 5 8 .u8 Try.underlying25 Try.underlying5 (by kernel_rfl) (ring hs o) o (ring8 hs o).len hring.h8.len
    clear hring hA
    go_wp2_with (first
      | (go_at_call 31; ((with_reducible refine (c_l06Week (w.heap.size + 1) 25 o 1 _ HO.out.h8 HA.out).mono ?_); rintro e w1 ⟨rfl, hb1⟩; have hA1 := Lib.hid (blk_below HA.out hb1); have hR1 := Lib.hid (blk_below hR.out hb1); have hB1 := Lib.hid (below_then hB.out hb1); have hlt1 := blk_lt hA1.out; clear hb1))
      | (refine ev_store_row rfl 25 (.tmp 8) (.tmp 16) rfl (w1.heap.size) (nums .u8 (week o 1)).toArray rfl rfl 25 _ (heap_alloc_new w1 _) HIw.out (by simp [nums, (week8 o 1).len]) (nums_one _ _) ?_; intro w2 hblk ht; have hb2 := tou_newS ht; clear ht; have hA2 := Lib.hid (blk_below hA1.out hb2); have hR2 := Lib.hid (blk_below hR1.out hb2); have hB2 := Lib.hid (below_then hB1.out hb2); have hN2 := Lib.hid hblk; clear hblk hb2))
    have hN3 : Hid (w2.heap[w1.heap.size]? = some (.cells (marked (fRing hs o) 0 (nums .u8 (week o 1))).toArray 25 (0, 0))) := by rw [Hid, marked_zero]; exact hN2.out
    clear hN2 hA1 hR1 hB1 HA hR hB
    generalize w1.heap.size = bn at *
    go_loopw [9] (fun i wr => ∃ k : Nat, k ≤ 8 ∧ i = .int .i64 k ∧ Hid (wr.heap[w.heap.size + 1]? = some (.cells (nums .u8 o).toArray 25 (0, 0))) ∧ Hid (wr.heap[w.heap.size]? = some (.cells (nums .u8 noHoles).toArray 25 (0, 0))) ∧ Hid (wr.heap[bn]? = some (.cells (marked (fRing hs o) k (nums .u8 (week o 1))).toArray 25 (0, 0))) ∧ Hid (Below w.heap.size w wr)) (fun i _ => 8 - (intOf i).toNat)
    case atStart => exact ⟨0, by omega, rfl, hA2, hR2, hN3, hB2⟩
    case round =>
      obtain ⟨k, hk, rfl, hA, hR, hN, hB⟩ := hrel
      by_cases hlt : k < 8
      · have d1 : decide ((k : Int) < 8) = true := by simp; omega
        have hkl : k < (nums .u8 (week o 1)).length := by rw [nums_length, (week8 o 1).len]; exact hlt
        have x0 := row_cell hN.out ((marked_at (fRing hs o) hkl).trans (nums_at k (by rw [(week8 o 1).len]; exact hlt)))
        have x1 := nums_cell (blk_below HG.out hB.out) k (by rw [H8.out.len]; exact hlt)
        have f0 := blk_frozen hN.out k
        have k0 : (0 : Int) ≤ (k : Int) := by omega
        have k1 : (k : Int) < 8 := by omega
        have E : Hid (Value.int .u8 (bits .and .u8 (gi (week o 1) k) (gi hs k)) = fRing hs o k) := by rw [Hid, fRing, ring_row H8.out hlt]
        clear heq
        go_wp2
        go_still_tail 11, (by kernel_rfl)
        change wpList _ _ _ _ _ wr.drew
        have hA1 : Hid (wr.drew.heap[w.heap.size + 1]? = some (.cells (nums .u8 o).toArray 25 (0, 0))) := hA.out
        have hR1 : Hid (wr.drew.heap[w.heap.size]? = some (.cells (nums .u8 noHoles).toArray 25 (0, 0))) := hR.out
        have hN1 : Hid (wr.drew.heap[bn]? = some (.cells (marked (fRing hs o) k (nums .u8 (week o 1))).toArray 25 (0, 0))) := hN.out
        have hB1 : Hid (Below w.heap.size w wr.drew) := below_drew hB.out
        have c1 : wr.drew.cell? ⟨bn, k, none⟩ = some (.int .u8 (gi (week o 1) k)) := x0
        have f1 : wr.drew.frozen? ⟨bn, k, none⟩ = false := f0
        clear x0 x1 f0 hA hR hN hB
        generalize wr.drew = wd at *
        go_wp2
        go_roundw
        case rel =>
          refine ⟨k + 1, by omega, by go_num, blk_far hA1.out (by omega) _ _, blk_far hR1.out (by omega) _ _, ?_, hB1.out.setCell (by simp; omega) _⟩
          have := row_set hN1.out k (Value.int .u8 (bits .and .u8 (gi (week o 1) k) (gi hs k)))
          rw [E.out, marked_set (fRing hs o) hkl] at this
          rw [Hid, E.out]
          exact this
        case measure => simp [intOf]; omega
      · obtain rfl : k = 8 := by omega
        have d1 : decide (((8 : Nat) : Int) < 8) = false := by simp
        have hN2 := hN.out
        rw [marked_all _ (by rw [nums_length, (week8 o 1).len])] at hN2
        have HN2 : Hid (wr.heap[bn]? = some (.cells (nums .u8 (ring hs o)).toArray 25 (0, 0))) := by
          rw [Hid, ← marked_nums (ring8 hs o).len .u8]; exact hN2
        clear hN hN2
        cases hw : (ring hs o == o)
        · have hne : ring hs o ≠ o := by intro h; rw [h] at hw; simp at hw
          have HG1 := Lib.hid (HO.out.grows hne)
          have HR1 := Lib.hid (HO.out.next)
          rw [hw] at heq
          clear hne hw
          go_wp2_with (first
            | (refine wpList_load_row rfl 25 (.tmp 8) rfl bn rfl 25 (nums .u8 (ring hs o)).toArray (0, 0) _ ?_ Try.underlying25 rfl HIr.out ?_; (with_reducible exact HN2.out))
            | (refine wpList_load_row rfl 25 (.tmp 7) rfl (w.heap.size + 1) rfl 25 (nums .u8 o).toArray (0, 0) _ ?_ Try.underlying25 rfl HIo.out ?_; (with_reducible exact hA.out))
            | (refine ev_store_row rfl 25 (.tmp 7) (.tmp 36) rfl (w.heap.size + 1) (nums .u8 (ring hs o)).toArray rfl rfl 25 (nums .u8 o).toArray ?_ HIr.out (by simp [nums, (ring8 hs o).len, HO.out.h8.len]) (nums_one _ _) ?_; (with_reducible exact hA.out); intro w3 hblk ht; have hA3 := Lib.hid hblk; have hR3 := Lib.hid (blk_tou hR.out ht (by omega)); have hB3 : Hid (Below w.heap.size w w3) := hB.out.trans (ht.below (by omega)); clear hblk))
          go_simp
          refine ⟨⟨⟨_, HR1.out, hA3.out⟩, hR3⟩, ?_⟩
          rw [rowI_of hA3.out, HM.out]
          have h1 := HG1.out
          have h2 := ring_bd (o := ring hs o)
          omega
        · have hS := Lib.hid (HO.out.last (by simpa using hw))
          rw [hw] at heq
          go_wp2_with (first
            | (refine wpList_load_row rfl 25 (.tmp 8) rfl bn rfl 25 (nums .u8 (ring hs o)).toArray (0, 0) _ ?_ Try.underlying25 rfl HIr.out ?_; (with_reducible exact HN2.out))
            | (refine wpList_load_row rfl 25 (.tmp 7) rfl (w.heap.size + 1) rfl 25 (nums .u8 o).toArray (0, 0) _ ?_ Try.underlying25 rfl HIo.out ?_; (with_reducible exact hA.out))
            | (refine ev_store_row rfl 25 (.tmp 6) (.tmp 35) rfl (w.heap.size) (nums .u8 o).toArray rfl rfl 25 (nums .u8 noHoles).toArray ?_ HIo.out (by simp [nums, noHoles, HO.out.h8.len]) (nums_one _ _) ?_; (with_reducible exact hR.out); intro w3 hblk ht; have hR3 := Lib.hid hblk; clear hblk))
          refine bodyPost_ret (v := .agg (nums .u8 o).toArray) (results_cell_row rfl _ _ (w.heap.size) 25 (nums .u8 o).toArray (0, 0) _ rfl (by with_reducible exact hR3.out) Try.underlying25 rfl HIo.out) rfl ⟨by rw [hS.out], hB.out.trans (ht.below (by omega))⟩
end Go.Proofs.Ytcbegcekdmmjpaa
