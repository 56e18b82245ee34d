/- The law on the first wrong move. -/
import Derived.Test.YtfgfhafppdclmaaLatFirst
namespace Go.Proofs.Ytfgfhafppdclmaa
open Go.RowKit
set_option linter.unusedVariables false
set_option linter.unusedSimpArgs false
set_option maxRecDepth 100000

set_option maxHeartbeats 800000 in
theorem c_toPlaces (hs : List Int) (w : World) (h8 : hs.length = 5) :
    Calls Try.prog 36 #[.agg (nums .i32 hs).toArray] w fun e w' => e = .returned (.agg (nums .i32 hs).toArray) ∧ Below w.heap.size w w' := by
  have hi : (Try.prog.info? 44).map (·.size) = some (nums .i32 hs).toArray.size := by
    have e : (Try.prog.info? 44).map (·.size) = some 5 := by kernel_rfl
    rw [e]; simp [nums, h8]
  have HI := Lib.hid hi
  have H8 := Lib.hid h8
  have HZ : Hid (#[Value.int .i32 0, .int .i32 0, .int .i32 0, .int .i32 0, .int .i32 0] = (nums .i32 (half hs 0)).toArray) := by
    rw [Hid, half_zero, h8]; rfl
  clear hi h8
  go_enter Try.func36, Try.ntmps36
  go_wp2
  go_loopw [4] (fun i wr => ∃ k : Nat, k ≤ 5 ∧ i = .int .i64 k ∧ Hid (wr.heap[w.heap.size]? = some (.cells (nums .i32 hs).toArray 43 (0, 0))) ∧ Hid (∃ z : List Int, z.length = 5 ∧ wr.heap[w.heap.size + 1]? = some (.cells (nums .i32 z).toArray 44 (0, 0))) ∧ Hid (wr.heap[w.heap.size + 1 + 1]? = some (.cells (nums .i32 (half hs k)).toArray 44 (0, 0))) ∧ Below w.heap.size w wr) (fun i _ => 5 - (intOf i).toNat)
  case atStart =>
    refine ⟨0, by omega, rfl, ?_, ?_, ?_, by (repeat (first | with_reducible exact Below.refl _ _ | with_reducible refine below_alloc ?_ _ | with_reducible refine below_drew ?_ | with_reducible refine below_drewN ?_ _ | with_reducible refine below_then ?_ (by assumption)))⟩
    · exact blk_alloc (blk_alloc (heap_alloc_new _ _) _) _
    · refine ⟨half hs 0, by rw [half_length _ _ (by omega)]; exact H8.out, ?_⟩
      rw [HZ.out]
      have := heap_alloc_new (w.alloc (.cells (nums .i32 hs).toArray 43 (0, 0))) (.cells (nums .i32 (half hs 0)).toArray 44 (0, 0))
      rw [World.size_alloc] at this
      exact blk_alloc this _
    · rw [HZ.out]
      have := heap_alloc_new ((w.alloc (.cells (nums .i32 hs).toArray 43 (0, 0))).alloc (.cells (nums .i32 (half hs 0)).toArray 44 (0, 0))) (.cells (nums .i32 (half hs 0)).toArray 44 (0, 0))
      rw [World.size_alloc, World.size_alloc] at this
      exact this
  case round =>
    obtain ⟨k, hk, rfl, hA, hR, hO, hB⟩ := hrel
    by_cases hlt : k < 5
    · have c1 := nums_cell hA.out k (by rw [H8.out]; omega)
      have c2 := nums_cell hO.out k (by rw [half_length _ _ (by rw [H8.out]; omega), H8.out]; omega)
      have f2 := blk_frozen hO.out k
      go_wp2
      go_roundw
      case rel =>
        refine ⟨k + 1, by omega, by go_num, blk_far hA.out (by omega) _ _, ?_, ?_, hB.setCell (by simp; omega) _⟩
        · obtain ⟨z, hz, hzb⟩ := hR.out
          exact ⟨z, hz, blk_far hzb (by omega) _ _⟩
        · have := blk_set hO.out k (.int .i32 (gi hs k))
          rw [nums_set, half_set hs k (by rw [H8.out]; omega)] at this
          exact this
      case measure => simp [intOf]; omega
    · obtain rfl : k = 5 := by omega
      obtain ⟨z, hz, hzb⟩ := hR.out
      have HO : Hid (wr.heap[w.heap.size + 1 + 1]? = some (.cells (nums .i32 hs).toArray 44 (0, 0))) := by
        have := hO.out
        rw [show (5 : Nat) = hs.length from H8.out.symm, half_all] at this
        exact this
      have HZB := Lib.hid hzb
      clear hzb hO hR
      go_wp2_with (first
        | (refine wpList_load_row rfl 44 (.tmp 3) rfl (w.heap.size + 1 + 1) rfl 44 _ (0, 0) _ HO.out Try.underlying44 rfl HI.out ?_)
        | (refine wpList_store_row rfl 44 (.tmp 2) (.tmp 14) rfl (w.heap.size + 1) (nums .i32 hs).toArray rfl rfl 44 _ HZB.out HI.out (by simp [nums, hz, H8.out]) (nums_one _ _) ?_))
      refine bodyPost_ret (v := .agg (nums .i32 hs).toArray) (results_cell_row rfl _ _ (w.heap.size + 1) 44 _ (0, 0) _ rfl (setRow_heap _ _ _ _ _ _ HZB.out) Try.underlying44 rfl HI.out) rfl ⟨rfl, ?_⟩
      exact hB.trans ((Tou.setRow _ _ _).below (by omega))

theorem arr5_info {p : List Int} (h : p.length = 5) : (Try.prog.info? 43).map (·.size) = some (nums .i32 p).toArray.size := by
  have e : (Try.prog.info? 43).map (·.size) = some 5 := by kernel_rfl
  rw [e]; simp [nums, h]
theorem gi_bd32 {zs : List Int} (h : ∀ z ∈ zs, (Lit.int .i32 z).wf = true) (j : Nat) : -2147483648 ≤ gi zs j ∧ gi zs j ≤ 2147483647 := by
  unfold gi
  by_cases hj : j < zs.length
  · have e : zs.getD j 0 = zs[j]'hj := by simp [List.getD, hj]
    rw [e]
    exact wf_i32 (h _ (List.getElem_mem hj))
  · have e : zs.getD j 0 = 0 := by simp [List.getD, List.getElem?_eq_none (show zs.length ≤ j by omega)]
    omega
set_option maxHeartbeats 800000 in
theorem walk_FnExactFirstWrong (W : World) (a0 : List Int) (l0 : a0.length = 5) (w0 : ∀ z ∈ a0, (Lit.int .i32 z).wf = true) (A0 : Option Addr) (cap0 : Nat) (es0 : List (List Value)) (w1 : ∀ c ∈ es0, IntCells [.i8, .i8, .i16] c) (r0 : RdRow W A0 es0.flatten) (s0 : es0.length * 4 ≤ 140737488351232) (m0 : es0.length ≤ maxLen) :
    Calls Try.prog 9 #[.agg (nums .i32 a0).toArray, .slice A0 es0.length cap0] W fun e w' => e = .returned (.bool true) ∧ Below W.heap.size W w' := by
  obtain ⟨zs, rfl, hz⟩ := moves_of (W := W) (A := A0) w1
  have hL := movesAt_of r0
  have hg : ∀ j, j < zs.length → (-32768 ≤ (zs.getD j (0, 0, 0)).2.2 ∧ (zs.getD j (0, 0, 0)).2.2 ≤ 32767) ∧ (-128 ≤ (zs.getD j (0, 0, 0)).1 ∧ (zs.getD j (0, 0, 0)).1 ≤ 127) ∧ (-128 ≤ (zs.getD j (0, 0, 0)).2.1 ∧ (zs.getD j (0, 0, 0)).2.1 ≤ 127) := fun j hj => by
    have ed : zs.getD j (0, 0, 0) = zs[j]'hj := by simp [List.getD, hj]
    rw [ed]; exact hz _ (List.getElem_mem hj)
  rw [List.length_map] at s0 m0 ⊢
  generalize zs.length = n at *
  have hg0 : ∃ s t g : Nat → Int, (fun j => (zs.getD j (0, 0, 0)).1) = s ∧ (fun j => (zs.getD j (0, 0, 0)).2.1) = t ∧ (fun j => (zs.getD j (0, 0, 0)).2.2) = g := ⟨_, _, _, rfl, rfl, rfl⟩
  obtain ⟨s, t, g, hss, htt, hgg⟩ := hg0
  rw [hss, htt, hgg] at hL
  have hg' : ∀ j, j < n → (-32768 ≤ g j ∧ g j ≤ 32767) ∧ (-128 ≤ s j ∧ s j ≤ 127) ∧ (-128 ≤ t j ∧ t j ≤ 127) := fun j hj => by rw [← hgg, ← hss, ← htt]; exact hg j hj
  have H := Lib.hid hL
  have HG := Lib.hid hg'
  have hm : n ≤ 9223372036854775807 := by omega
  clear hL hg hg' hz w1 r0 hgg hss htt
  have HBD := Lib.hid (gi_bd32 w0)
  have L0 := Lib.hid l0
  have HI := Lib.hid (arr5_info l0)
  have HA := Lib.hid (heap_alloc_new W (.cells (nums .i32 a0).toArray 43 (0, 0)))
  have H := Lib.hid (H.out.below (show Below W.heap.size W (W.alloc (.cells (nums .i32 a0).toArray 43 (0, 0))) from below_alloc (Below.refl _ _) _))
  clear w0 l0
  by_cases hn : n ≤ 1048576
  · have E : Hid ((if n ≤ 1048576 then 1048576 - (n : Int) else -1) = 1048576 - (n : Int)) := by rw [Hid, if_pos hn]
    have d : decide ((1048576 : Int) - (n : Int) < 0) = false := by simp; omega
    have HSz := fun w => Lib.hid (E.out ▸ c_szMoveS A0 n cap0 w hm)
    go_enter Try.func9, Try.ntmps9
    go_wp2_with (first
      | (go_at_call 25; ((with_reducible refine (HSz _).out.mono ?_); rintro e w1 ⟨rfl, rfl⟩))
      | (refine wpList_load_row rfl 43 (.tmp 2) rfl (W.heap.size) rfl 43 _ (0, 0) _ HA.out Try.underlying43 rfl HI.out ?_)
      | (go_at_call 36; ((with_reducible refine (c_toPlaces a0 _ L0.out).mono ?_); rintro e w1 ⟨rfl, hb⟩; have H := Lib.hid (H.out.below hb); have HA := Lib.hid (blk_below HA.out hb); (try have HY := Lib.hid (HY.out.below hb))))
      | (go_at_call 27; ((with_reducible refine (c_toMoveS A0 n cap0 s t g _ H.out hn).mono ?_); rintro e w1 ⟨b, rfl, hL, hb⟩; have H := Lib.hid (H.out.below hb); have HA := Lib.hid (blk_below HA.out hb); (try have HX := Lib.hid (HY.out.below hb)); have HY := Lib.hid hL; clear hL))
      | (go_at_call 42; ((with_reducible refine (c_sFirstWrong _ _ n _ s t g _ L0.out HBD.out HY.out hn HG.out).mono ?_); rintro e w1 ⟨rfl, hb⟩; have H := Lib.hid (H.out.below hb); have HY := Lib.hid (HY.out.below hb); have HA := Lib.hid (blk_below HA.out hb)))
      | (go_at_call 43; ((with_reducible refine (c_iFirstWrong _ _ n _ s t g _ L0.out HBD.out HY.out hn HG.out).mono ?_); rintro e w1 ⟨rfl, hb⟩; have H := Lib.hid (H.out.below hb); have HY := Lib.hid (HY.out.below hb); have HA := Lib.hid (blk_below HA.out hb)))
      | (go_at_call 29; ((with_reducible refine (c_eqMoveS _ _ n _ _ s t g _ HX.out HY.out hn).mono ?_); rintro e w1 ⟨rfl, hb⟩)))
    go_ret
    exact ⟨rfl, by (repeat (first | with_reducible exact Below.refl _ _ | with_reducible refine below_alloc ?_ _ | with_reducible refine below_drew ?_ | with_reducible refine below_drewN ?_ _ | with_reducible refine below_then ?_ (by assumption)))⟩
  · have E : Hid ((if n ≤ 1048576 then 1048576 - (n : Int) else -1) = -1) := by rw [Hid, if_neg hn]
    have HSz := fun w => Lib.hid (E.out ▸ c_szMoveS A0 n cap0 w hm)
    go_enter Try.func9, Try.ntmps9
    go_wp2_with (go_at_call 25; ((with_reducible refine (HSz _).out.mono ?_); rintro e w1 ⟨rfl, rfl⟩))
    go_ret
    exact ⟨rfl, by (repeat (first | with_reducible exact Below.refl _ _ | with_reducible refine below_alloc ?_ _ | with_reducible refine below_drew ?_ | with_reducible refine below_drewN ?_ _ | with_reducible refine below_then ?_ (by assumption)))⟩
end Go.Proofs.Ytfgfhafppdclmaa
