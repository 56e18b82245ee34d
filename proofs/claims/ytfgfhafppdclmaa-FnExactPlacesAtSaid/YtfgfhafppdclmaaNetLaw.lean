/- The law on what each place has more. -/
import Derived.Test.YtfgfhafppdclmaaNetSpec
import Derived.Deep.QuietTactic
import Derived.BigQuiet
namespace Go.Proofs.Ytfgfhafppdclmaa
open Go.RowKit
set_option linter.unusedVariables false
set_option linter.unusedSimpArgs false
set_option maxRecDepth 100000

theorem tou_newP {w w1 : World} {o : Obj} (ht : Tou w.heap.size (w.alloc o) w1) : Below w.heap.size w w1 := (below_alloc (Below.refl _ _) _).trans (ht.below (Nat.le_refl _))
set_option maxHeartbeats 800000 in
theorem c_eqPlaces (hs : List Int) (w : World) (h8 : hs.length = 5) :
    Calls Try.prog 32 #[.agg (nums .i32 hs).toArray, .agg (nums .i32 hs).toArray] w fun e w' => e = .returned (.bool true) ∧ Below w.heap.size w w' := by
  have H8 := Lib.hid h8
  have HA := Lib.hid (blk_alloc (heap_alloc_new w (.cells (nums .i32 hs).toArray 44 (0, 0))) (.cells (nums .i32 hs).toArray 44 (0, 0)))
  have hb := heap_alloc_new (w.alloc (.cells (nums .i32 hs).toArray 44 (0, 0))) (.cells (nums .i32 hs).toArray 44 (0, 0))
  rw [World.size_alloc] at hb
  have HBk := Lib.hid hb
  clear h8 hb
  go_enter Try.func32, Try.ntmps32
  go_wp2
  have HB0 : Hid (Below w.heap.size w ((w.alloc (.cells (nums .i32 hs).toArray 44 (0, 0))).alloc (.cells (nums .i32 hs).toArray 44 (0, 0)))) := below_alloc (below_alloc (Below.refl _ _) _) _
  generalize (w.alloc (.cells (nums .i32 hs).toArray 44 (0, 0))).alloc (.cells (nums .i32 hs).toArray 44 (0, 0)) = wa at *
  go_loopw [5] (fun i wr => ∃ k : Nat, k ≤ 5 ∧ i = .int .i64 k ∧ wr.heap = wa.heap ∧ Below w.heap.size w wr) (fun i _ => 5 - (intOf i).toNat)
  case atStart => exact ⟨0, by omega, rfl, rfl, HB0.out⟩
  case round =>
    obtain ⟨k, hk, rfl, hW, hB⟩ := hrel
    have HB := Lib.hid hB
    clear hB
    by_cases hlt : k < 5
    · have d1 : decide ((k : Int) < 5) = true := by simp; omega
      have c1 : wr.cell? ⟨w.heap.size, k, none⟩ = some (.int .i32 (gi hs k)) := nums_cell (t := 44) (fr := (0, 0)) (by rw [hW]; exact HA.out) k (by rw [H8.out]; omega)
      have c2 : wr.cell? ⟨w.heap.size + 1, k, none⟩ = some (.int .i32 (gi hs k)) := nums_cell (t := 44) (fr := (0, 0)) (by rw [hW]; exact HBk.out) k (by rw [H8.out]; omega)
      have k0 : (0 : Int) ≤ (k : Int) := by omega
      have k1 : (k : Int) < 5 := by omega
      have HW := Lib.hid hW
      clear hW
      go_wp2
      go_quiet (fail)
      go_wp2
      go_roundw
      case rel => exact ⟨k + 1, by omega, by go_num, HW.out, below_drewN HB.out _⟩
      case measure => simp [intOf]; omega
    · obtain rfl : k = 5 := by omega
      go_wp2
      go_ret
      exact ⟨rfl, HB.out⟩


set_option maxHeartbeats 800000 in
theorem walk_FnExactNetMoves (W : World) (A0 : Option Addr) (cap0 : Nat) (es0 : List (List Value)) (w0 : ∀ c ∈ es0, IntCells [.i8, .i8, .i16] c) (r0 : RdRow W A0 es0.flatten) (s0 : es0.length * 4 ≤ 140737488351232) (m0 : es0.length ≤ maxLen) :
    Calls Try.prog 7 #[.slice A0 es0.length cap0] W fun e w' => e = .returned (.bool true) ∧ Below W.heap.size W w' := by
  obtain ⟨zs, rfl, hz⟩ := moves_of (W := W) (A := A0) w0
  have hL := movesAt_of r0
  have hg : ∀ j, j < zs.length → (-32768 ≤ (zs.getD j (0, 0, 0)).2.2 ∧ (zs.getD j (0, 0, 0)).2.2 ≤ 32767) ∧ (-128 ≤ (zs.getD j (0, 0, 0)).1 ∧ (zs.getD j (0, 0, 0)).1 ≤ 127) ∧ (-128 ≤ (zs.getD j (0, 0, 0)).2.1 ∧ (zs.getD j (0, 0, 0)).2.1 ≤ 127) := fun j hj => by
    have ed : zs.getD j (0, 0, 0) = zs[j]'hj := by simp [List.getD, hj]
    rw [ed]; exact hz _ (List.getElem_mem hj)
  rw [List.length_map] at s0 m0 ⊢
  generalize zs.length = n at *
  have hg0 : ∃ s t g : Nat → Int, (fun j => (zs.getD j (0, 0, 0)).1) = s ∧ (fun j => (zs.getD j (0, 0, 0)).2.1) = t ∧ (fun j => (zs.getD j (0, 0, 0)).2.2) = g := ⟨_, _, _, rfl, rfl, rfl⟩
  obtain ⟨s, t, g, hss, htt, hgg⟩ := hg0
  rw [hss, htt, hgg] at hL
  have hg' : ∀ j, j < n → (-32768 ≤ g j ∧ g j ≤ 32767) ∧ (-128 ≤ s j ∧ s j ≤ 127) ∧ (-128 ≤ t j ∧ t j ≤ 127) := fun j hj => by rw [← hgg, ← hss, ← htt]; exact hg j hj
  have H := Lib.hid hL
  have HG := Lib.hid hg'
  have hm : n ≤ 9223372036854775807 := by omega
  clear hL hg hg' hz w0 r0 hgg hss htt
  by_cases hn : n ≤ 1048576
  · have E : Hid ((if n ≤ 1048576 then 1048576 - (n : Int) else -1) = 1048576 - (n : Int)) := by rw [Hid, if_pos hn]
    have d : decide ((1048576 : Int) - (n : Int) < 0) = false := by simp; omega
    have HSz := fun w => Lib.hid (E.out ▸ c_szMoveS A0 n cap0 w hm)
    go_enter Try.func7, Try.ntmps7
    have L5 := Lib.hid (netR_five n s t g)
    have HIR := Lib.hid (places_info L5.out)
    go_wp2_with (first
      | (go_at_call 25; ((with_reducible refine (HSz _).out.mono ?_); rintro e w1 ⟨rfl, rfl⟩))
      | (go_at_call 27; ((with_reducible refine (c_toMoveS A0 n cap0 s t g _ H.out hn).mono ?_); rintro e w1 ⟨b, rfl, hL, hb⟩; have H := Lib.hid (H.out.below hb); (try have HP := Lib.hid (blk_below HP.out hb)); (try have HQ := Lib.hid (blk_below HQ.out hb)); (try have HX := Lib.hid (HY.out.below hb)); have HY := Lib.hid hL; clear hL))
      | (go_at_call 33; ((with_reducible refine (c_sNetMoves _ n _ s t g _ HY.out hn HG.out).mono ?_); rintro e w1 ⟨rfl, hb⟩; have H := Lib.hid (H.out.below hb); have HY := Lib.hid (HY.out.below hb)))
      | (go_at_call 34; ((with_reducible refine (c_iNetMoves _ n _ s t g _ HY.out hn HG.out).mono ?_); rintro e w1 ⟨rfl, hb⟩; have H := Lib.hid (H.out.below hb); have HY := Lib.hid (HY.out.below hb); have HP := Lib.hid (blk_below HP.out hb)))
      | (go_at_call 32; ((with_reducible refine (c_eqPlaces _ _ L5.out).mono ?_); rintro e w1 ⟨rfl, hb⟩; have H := Lib.hid (H.out.below hb); have HY := Lib.hid (HY.out.below hb)))
      | (go_at_call 29; ((with_reducible refine (c_eqMoveS _ _ n _ _ s t g _ HX.out HY.out hn).mono ?_); rintro e w1 ⟨rfl, hb⟩))
      | (refine ev_store_row rfl 44 (.tmp 4) (.tmp 18) rfl (w1.heap.size) (nums .i32 (netR n s t g).1).toArray rfl rfl 44 _ (heap_alloc_new w1 _) HIR.out (by simp [nums, L5.out]) (nums_one _ _) ?_; intro w1 hblk ht; have hb := tou_newP ht; clear ht; have H := Lib.hid (H.out.below hb); have HY := Lib.hid (HY.out.below hb); have HP := Lib.hid hblk; clear hblk)
      | (refine ev_store_row rfl 44 (.tmp 7) (.tmp 25) rfl (w1.heap.size) (nums .i32 (netR n s t g).1).toArray rfl rfl 44 _ (heap_alloc_new w1 _) HIR.out (by simp [nums, L5.out]) (nums_one _ _) ?_; intro w1 hblk ht; have hb := tou_newP ht; clear ht; have H := Lib.hid (H.out.below hb); have HY := Lib.hid (HY.out.below hb); have HP := Lib.hid (blk_below HP.out hb); have HQ := Lib.hid hblk; clear hblk)
      | (refine wpList_load_row rfl 44 (.tmp 4) rfl (_) rfl 44 _ (0, 0) _ HP.out Try.underlying44 rfl HIR.out ?_)
      | (refine wpList_load_row rfl 44 (.tmp 7) rfl (_) rfl 44 _ (0, 0) _ HQ.out Try.underlying44 rfl HIR.out ?_))
    go_ret
    exact ⟨rfl, by (repeat (first | with_reducible exact Below.refl _ _ | with_reducible refine below_alloc ?_ _ | with_reducible refine below_drew ?_ | with_reducible refine below_drewN ?_ _ | with_reducible refine below_then ?_ (by assumption)))⟩
  · have E : Hid ((if n ≤ 1048576 then 1048576 - (n : Int) else -1) = -1) := by rw [Hid, if_neg hn]
    have HSz := fun w => Lib.hid (E.out ▸ c_szMoveS A0 n cap0 w hm)
    go_enter Try.func7, Try.ntmps7
    go_wp2_with (go_at_call 25; ((with_reducible refine (HSz _).out.mono ?_); rintro e w1 ⟨rfl, rfl⟩))
    go_ret
    exact ⟨rfl, by (repeat (first | with_reducible exact Below.refl _ _ | with_reducible refine below_alloc ?_ _ | with_reducible refine below_drew ?_ | with_reducible refine below_drewN ?_ _ | with_reducible refine below_then ?_ (by assumption)))⟩
end Go.Proofs.Ytfgfhafppdclmaa
