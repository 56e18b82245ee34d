/- The law on the places at each move. -/
import Derived.Test.YtfgfhafppdclmaaLatLaw
import Derived.Test.YtfgfhafppdclmaaLatPlaces
namespace Go.Proofs.Ytfgfhafppdclmaa
open Go.RowKit
set_option linter.unusedVariables false
set_option linter.unusedSimpArgs false
set_option maxRecDepth 100000

set_option maxHeartbeats 800000 in
theorem walk_FnExactPlacesAt (W : World) (a0 : List Int) (l0 : a0.length = 5) (w0 : ∀ z ∈ a0, (Lit.int .i32 z).wf = true) (A0 : Option Addr) (cap0 : Nat) (es0 : List (List Value)) (w1 : ∀ c ∈ es0, IntCells [.i8, .i8, .i16] c) (r0 : RdRow W A0 es0.flatten) (s0 : es0.length * 4 ≤ 140737488351232) (m0 : es0.length ≤ maxLen) :
    Calls Try.prog 8 #[.agg (nums .i32 a0).toArray, .slice A0 es0.length cap0] W fun e w' => e = .returned (.bool true) ∧ Below W.heap.size W w' := by
  obtain ⟨zs, rfl, hz⟩ := moves_of (W := W) (A := A0) w1
  have hL := movesAt_of r0
  have hg : ∀ j, j < zs.length → (-32768 ≤ (zs.getD j (0, 0, 0)).2.2 ∧ (zs.getD j (0, 0, 0)).2.2 ≤ 32767) ∧ (-128 ≤ (zs.getD j (0, 0, 0)).1 ∧ (zs.getD j (0, 0, 0)).1 ≤ 127) ∧ (-128 ≤ (zs.getD j (0, 0, 0)).2.1 ∧ (zs.getD j (0, 0, 0)).2.1 ≤ 127) := fun j hj => by
    have ed : zs.getD j (0, 0, 0) = zs[j]'hj := by simp [List.getD, hj]
    rw [ed]; exact hz _ (List.getElem_mem hj)
  rw [List.length_map] at s0 m0 ⊢
  generalize zs.length = n at *
  have hg0 : ∃ s t g : Nat → Int, (fun j => (zs.getD j (0, 0, 0)).1) = s ∧ (fun j => (zs.getD j (0, 0, 0)).2.1) = t ∧ (fun j => (zs.getD j (0, 0, 0)).2.2) = g := ⟨_, _, _, rfl, rfl, rfl⟩
  obtain ⟨s, t, g, hss, htt, hgg⟩ := hg0
  rw [hss, htt, hgg] at hL
  have hg' : ∀ j, j < n → (-32768 ≤ g j ∧ g j ≤ 32767) ∧ (-128 ≤ s j ∧ s j ≤ 127) ∧ (-128 ≤ t j ∧ t j ≤ 127) := fun j hj => by rw [← hgg, ← hss, ← htt]; exact hg j hj
  have H := Lib.hid hL
  have HG := Lib.hid hg'
  have hm : n ≤ 9223372036854775807 := by omega
  clear hL hg hg' hz w1 r0 hgg hss htt
  have HBD := Lib.hid (gi_bd32 w0)
  have L0 := Lib.hid l0
  have HI := Lib.hid (arr5_info l0)
  have HA := Lib.hid (heap_alloc_new W (.cells (nums .i32 a0).toArray 43 (0, 0)))
  have hbw : Below W.heap.size W (W.alloc (.cells (nums .i32 a0).toArray 43 (0, 0))) := below_alloc (Below.refl _ _) _
  have H := Lib.hid (H.out.below hbw)
  have HBW := Lib.hid hbw
  clear w0 l0 hbw
  by_cases hn : n ≤ 1048576
  · have E : Hid ((if n ≤ 1048576 then 1048576 - (n : Int) else -1) = 1048576 - (n : Int)) := by rw [Hid, if_pos hn]
    have d : decide ((1048576 : Int) - (n : Int) < 0) = false := by simp; omega
    have HSz := fun w => Lib.hid (E.out ▸ c_szMoveS A0 n cap0 w hm)
    have hwz : W.heap.size < (W.alloc (.cells (nums .i32 a0).toArray 43 (0, 0))).heap.size := by simp
    have HB : Hid (Below (W.alloc (.cells (nums .i32 a0).toArray 43 (0, 0))).heap.size (W.alloc (.cells (nums .i32 a0).toArray 43 (0, 0))) (W.alloc (.cells (nums .i32 a0).toArray 43 (0, 0)))) := Below.refl _ _
    have st0 := Lib.hid True.intro
    go_enter Try.func8, Try.ntmps8
    have HLE : Hid ((placesF a0 n s t g).1 ≤ 1048576) := Nat.le_trans (placesF_le a0 n s t g) hn
    have HP := Lib.hid (fun k (_ : k < (placesF a0 n s t g).1) => atN_len L0.out s t g (k + 1))
    have q1 : decide ((1 : Int) + ((n * 3 : Nat) : Int) < 0) = false := by simp; omega
    have q2 : decide ((1 : Int) + (((placesF a0 n s t g).1 * 5 : Nat) : Int) < 0) = false := by simp; omega
    go_wp2_with (first
      | (go_at_call 25; ((with_reducible refine (HSz _).out.mono ?_); rintro e w1 ⟨rfl, rfl⟩))
      | (refine wpList_load_row rfl 43 (.tmp 2) rfl (W.heap.size) rfl 43 _ (0, 0) _ (blk_below HA.out HB.out) Try.underlying43 rfl HI.out ?_)
      | (go_at_call 36; ((with_reducible refine (c_toPlaces a0 _ L0.out).mono ?_); rintro e w1 ⟨rfl, hb⟩; have HB := Lib.hid (below_then HB.out hb); (try have HV := Lib.hid (own_below HV.out hb)); (try have HX := Lib.hid (own_below HX.out hb)); (try have HXM := Lib.hid (HXM.out.below hb)); (try have HU := Lib.hid (own_below HU.out hb)); (try have HCM := Lib.hid (HCM.out.below hb)); (try have HTM := Lib.hid (HTM.out.below hb)); clear hb))
      | (go_at_call 27; ((with_reducible refine (c_toMoveX A0 n cap0 s t g _ (H.out.below HB.out) hn).mono ?_); rintro e w1 ⟨b, xs, rfl, hL, hO, hb⟩; have KU := HU; have HB := Lib.hid (below_then HB.out hb); (try have HV := Lib.hid (own_below HV.out hb)); (try have HX := Lib.hid (own_below HX.out hb)); (try have HXM := Lib.hid (HXM.out.below hb)); (try have HU := Lib.hid (own_below HU.out hb)); (try have HCM := Lib.hid (HCM.out.below hb)); (try have HTM := Lib.hid (HTM.out.below hb)); clear hb; have HCM := Lib.hid hL; clear hL hO KU))
      | (go_at_call 27; clear st1; ((with_reducible refine (c_toMoveX A0 n cap0 s t g _ (H.out.below HB.out) hn).mono ?_); rintro e w1 ⟨b, xs, rfl, hL, hO, hb⟩; have AVX := Lib.hid (apart_of (own_lo HV.out (Nat.le_refl _)) (own_up hO)); have hO := own_mono hO HB.out.size; have HB := Lib.hid (below_then HB.out hb); (try have HV := Lib.hid (own_below HV.out hb)); (try have HX := Lib.hid (own_below HX.out hb)); (try have HXM := Lib.hid (HXM.out.below hb)); (try have HU := Lib.hid (own_below HU.out hb)); (try have HCM := Lib.hid (HCM.out.below hb)); (try have HTM := Lib.hid (HTM.out.below hb)); clear hb; have HXM := Lib.hid hL; have HX := Lib.hid hO; clear hL hO))
      | (go_at_call 27; clear st0; ((with_reducible refine (c_toMoveX A0 n cap0 s t g _ (H.out.below HB.out) hn).mono ?_); rintro e w1 ⟨b, xs, rfl, hL, hO, hb⟩; have HB := Lib.hid (below_then HB.out hb); (try have HV := Lib.hid (own_below HV.out hb)); (try have HX := Lib.hid (own_below HX.out hb)); (try have HXM := Lib.hid (HXM.out.below hb)); (try have HU := Lib.hid (own_below HU.out hb)); (try have HCM := Lib.hid (HCM.out.below hb)); (try have HTM := Lib.hid (HTM.out.below hb)); clear hb; have HTM := Lib.hid hL; clear hL hO))
      | (go_at_call 35; ((with_reducible refine (c_sPlacesAt _ _ n _ s t g _ L0.out HBD.out HTM.out hn HG.out).mono ?_); rintro e w1 ⟨v, rfl, hO, hb⟩; have hO := own_mono hO HB.out.size; have HB := Lib.hid (below_then HB.out hb); (try have HV := Lib.hid (own_below HV.out hb)); (try have HX := Lib.hid (own_below HX.out hb)); (try have HXM := Lib.hid (HXM.out.below hb)); (try have HU := Lib.hid (own_below HU.out hb)); (try have HCM := Lib.hid (HCM.out.below hb)); (try have HTM := Lib.hid (HTM.out.below hb)); clear hb; have HV := Lib.hid hO; clear hO HTM; have st1 := Lib.hid True.intro))
      | (go_at_call 37; ((with_reducible refine (c_iPlacesAt _ _ n _ s t g _ L0.out HBD.out HCM.out hn HG.out).mono ?_); rintro e w1 ⟨v3, rfl, hO, hb⟩; have HB := Lib.hid (below_then HB.out hb); (try have HV := Lib.hid (own_below HV.out hb)); (try have HX := Lib.hid (own_below HX.out hb)); (try have HXM := Lib.hid (HXM.out.below hb)); (try have HU := Lib.hid (own_below HU.out hb)); (try have HCM := Lib.hid (HCM.out.below hb)); (try have HTM := Lib.hid (HTM.out.below hb)); clear hb; have HH := Lib.hid hO; clear hO))
      | (go_at_call 37; ((with_reducible refine (c_iPlacesAt _ _ n _ s t g _ L0.out HBD.out HXM.out hn HG.out).mono ?_); rintro e w1 ⟨v2, rfl, hO, hb⟩; have AXU := Lib.hid (apart_of (own_lo HX.out (Nat.le_refl _)) (own_up hO)); have AVU := Lib.hid (apart_of (own_lo HV.out (Nat.le_refl _)) (own_up hO)); have hO := own_mono hO HB.out.size; have HB := Lib.hid (below_then HB.out hb); (try have HV := Lib.hid (own_below HV.out hb)); (try have HX := Lib.hid (own_below HX.out hb)); (try have HXM := Lib.hid (HXM.out.below hb)); (try have HU := Lib.hid (own_below HU.out hb)); (try have HCM := Lib.hid (HCM.out.below hb)); (try have HTM := Lib.hid (HTM.out.below hb)); clear hb; have HU := Lib.hid hO; clear hO))
      | (go_at_call 38; ((with_reducible refine (c_eqPlacesS _ _ _ _ _ _ _ HH.out HV.out HP.out HLE.out).mono ?_); rintro e w1 ⟨rfl, hb⟩; have HB := Lib.hid (below_then HB.out hb); (try have HV := Lib.hid (own_below HV.out hb)); (try have HX := Lib.hid (own_below HX.out hb)); (try have HXM := Lib.hid (HXM.out.below hb)); (try have HU := Lib.hid (own_below HU.out hb)); (try have HCM := Lib.hid (HCM.out.below hb)); (try have HTM := Lib.hid (HTM.out.below hb)); clear hb))
      | (go_at_call 38; ((with_reducible refine (c_eqPlacesS _ _ _ _ _ _ _ HU.out HV.out HP.out HLE.out).mono ?_); rintro e w1 ⟨rfl, hb⟩; have HB := Lib.hid (below_then HB.out hb); (try have HV := Lib.hid (own_below HV.out hb)); (try have HX := Lib.hid (own_below HX.out hb)); (try have HXM := Lib.hid (HXM.out.below hb)); (try have HU := Lib.hid (own_below HU.out hb)); (try have HCM := Lib.hid (HCM.out.below hb)); (try have HTM := Lib.hid (HTM.out.below hb)); clear hb))
      | (go_at_call 29; ((with_reducible refine (c_eqMoveS _ _ n _ _ s t g _ HXM.out HCM.out hn).mono ?_); rintro e w1 ⟨rfl, hb⟩; have HB := Lib.hid (below_then HB.out hb); (try have HV := Lib.hid (own_below HV.out hb)); (try have HX := Lib.hid (own_below HX.out hb)); (try have HXM := Lib.hid (HXM.out.below hb)); (try have HU := Lib.hid (own_below HU.out hb)); (try have HCM := Lib.hid (HCM.out.below hb)); (try have HTM := Lib.hid (HTM.out.below hb)); clear hb; clear HCM))
      | (go_at_call 39; ((with_reducible refine (c_markMove1 _ _ _ _ _ HX.out hn).mono ?_); rintro e w1 ⟨rfl, hO, ht⟩; have HB := Lib.hid (HB.out.trans (ht.below (own_up hO))); have HV := Lib.hid (own_touV HV.out ht AVX.out.ne); have HU := Lib.hid (own_touV HU.out ht AXU.out.symm.ne); clear hO ht HX HXM))
      | (go_at_call 40; ((with_reducible refine (c_markPlaces1 _ _ _ _ _ HU.out HLE.out).mono ?_); rintro e w1 ⟨rfl, hO, ht⟩; have HB := Lib.hid (HB.out.trans (ht.below (own_up hO))); have HV := Lib.hid (own_touV HV.out ht AVU.out.ne); have HU := Lib.hid hO; clear hO ht))
      | (go_at_call 41; ((with_reducible refine (c_heldPlaces1 _ _ _ _ HU.out HLE.out).mono ?_); rintro e w1 ⟨rfl, rfl⟩)))
    go_ret
    exact ⟨rfl, below_then HBW.out HB.out⟩
  · have E : Hid ((if n ≤ 1048576 then 1048576 - (n : Int) else -1) = -1) := by rw [Hid, if_neg hn]
    have HSz := fun w => Lib.hid (E.out ▸ c_szMoveS A0 n cap0 w hm)
    go_enter Try.func8, Try.ntmps8
    go_wp2_with (go_at_call 25; ((with_reducible refine (HSz _).out.mono ?_); rintro e w1 ⟨rfl, rfl⟩))
    go_ret
    exact ⟨rfl, by (repeat (first | with_reducible exact Below.refl _ _ | with_reducible refine below_alloc ?_ _ | with_reducible refine below_drew ?_ | with_reducible refine below_drewN ?_ _ | with_reducible refine below_then ?_ (by assumption)))⟩
end Go.Proofs.Ytfgfhafppdclmaa
