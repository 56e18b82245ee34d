/- Texts laid together: MoveRows, LatPlaces. -/
import Derived.Test.YtjhifpidbobmaaaGreatDoorMg05
import Derived.Test.YtjhifpidbobmaaaGreatDoorMg09
import Derived.Test.YtjhifpidbobmaaaGreatDoorMg11
/- Slices of moves: copied out of an argument as a row of the call's own, marked, held. -/
namespace Go.Proofs.YtjhifpidbobmaaaGreatDoor
open Go.RowKit
set_option linter.unusedVariables false
set_option linter.unusedSimpArgs false
set_option maxRecDepth 100000

def fMove (k0 : Nat) (i : Nat) : Value := if i % 3 = 0 then .int .i8 (IntKind.i8.wrap ((k0 : Int) + (i : Int))) else if i % 3 = 1 then .int .i8 (IntKind.i8.wrap ((k0 : Int) + (i : Int))) else .int .i16 (IntKind.i16.wrap ((k0 : Int) + (i : Int)))
theorem fMove_0 (k0 k : Nat) : fMove k0 (k * 3) = .int .i8 (IntKind.i8.wrap ((k0 : Int) + (k : Int) * 3)) := by
  rw [fMove, if_pos (show (k * 3) % 3 = 0 by omega)]; simp [Int.add_assoc]
theorem fMove_1 (k0 k : Nat) : fMove k0 (k * 3 + 1) = .int .i8 (IntKind.i8.wrap ((k0 : Int) + (k : Int) * 3 + 1)) := by
  rw [fMove, if_neg (show ¬ (k * 3 + 1) % 3 = 0 by omega), if_pos (show (k * 3 + 1) % 3 = 1 by omega)]; simp [Int.add_assoc]
theorem fMove_2 (k0 k : Nat) : fMove k0 (k * 3 + 2) = .int .i16 (IntKind.i16.wrap ((k0 : Int) + (k : Int) * 3 + 1 + 1)) := by
  rw [fMove, if_neg (show ¬ (k * 3 + 2) % 3 = 0 by omega), if_neg (show ¬ (k * 3 + 2) % 3 = 1 by omega)]; simp [Int.add_assoc]
theorem moves_open {W : World} {A : Option Addr} {es : List (List Value)} (w0 : ∀ c ∈ es, IntCells [.i8, .i8, .i16] c) (r0 : RdRow W A es.flatten) : ∃ s t g : Nat → Int, MovesAt W A es.length s t g ∧ ∀ j, j < es.length → (-32768 ≤ g j ∧ g j ≤ 32767) ∧ (-128 ≤ s j ∧ s j ≤ 127) ∧ (-128 ≤ t j ∧ t j ≤ 127) := by
  obtain ⟨zs, rfl, hz⟩ := moves_of (W := W) (A := A) w0
  have hL := movesAt_of r0
  refine ⟨_, _, _, by rw [List.length_map]; exact hL, fun j hj => ?_⟩
  rw [List.length_map] at hj
  have ed : zs.getD j (0, 0, 0) = zs[j]'hj := by simp [List.getD, hj]
  rw [ed]; exact hz _ (List.getElem_mem hj)
/-- Moves of a row stay while another row is written. -/
theorem MovesAt.touV {w w1 : World} {b n : Nat} {s t g : Nat → Int} {v : Value} (h : MovesAt w (some ⟨b, 0, none⟩) n s t g) (ht : TouV v w w1) (hv : v.ownBlock ≠ some b) : MovesAt w1 (some ⟨b, 0, none⟩) n s t g := by
  refine ⟨fun j hj => ?_⟩
  obtain ⟨ad, e, c0, c1, c2⟩ := h.at_ j hj
  cases e
  have hb := ht.block b hv
  refine ⟨_, rfl, (World.cell?_of_block ?_).trans c0, (World.cell?_of_block ?_).trans c1, (World.cell?_of_block ?_).trans c2⟩ <;> (simp only [Addr.add]; (try split) <;> exact hb)
end Go.Proofs.YtjhifpidbobmaaaGreatDoor
/- The places at each move: the program's and the reference's answers. -/
namespace Go.Proofs.YtjhifpidbobmaaaGreatDoor
open Go.RowKit
set_option linter.unusedVariables false
set_option linter.unusedSimpArgs false
set_option maxRecDepth 100000

section
variable (p0 : List Int) (A : Option Addr) (n c : Nat) (s t g : Nat → Int) (w : World)
set_option maxHeartbeats 2000000 in
theorem c_sPlacesAt (hl : p0.length = 5) (hbd : ∀ j, -2147483648 ≤ gi p0 j ∧ gi p0 j ≤ 2147483647) (h : MovesAt w A n s t g) (hn : n ≤ 1048576) (hg : ∀ j, j < n → (-32768 ≤ g j ∧ g j ≤ 32767) ∧ (-128 ≤ s j ∧ s j ≤ 127) ∧ (-128 ≤ t j ∧ t j ≤ 127)) :
    Calls Tryz.prog 13 #[.agg (nums .i32 p0).toArray, .slice A n c] w fun e w' => ∃ v, e = .returned (.tuple #[v, .int .i64 (placesF p0 n s t g).2]) ∧ w'.ownsRow w.heap.size 30 5 v (placesF p0 n s t g).1 (rows5 (atN p0 s t g) (placesF p0 n s t g).1) ∧ Below w.heap.size w w' := by
  have HA := Lib.hid (heap_alloc_new w (.cells (nums .i32 p0).toArray 30 (0, 0)))
  have HB0 : Hid (Below w.heap.size w (w.alloc (.cells (nums .i32 p0).toArray 30 (0, 0)))) := below_alloc (Below.refl _ _) _
  have HM := Lib.hid (h.below HB0.out)
  have HI0 := Lib.hid (places_info hl)
  have cp := c_l07Places w.heap.size p0 (w.alloc (.cells (nums .i32 p0).toArray 30 (0, 0))) hl hbd (fun j hj => nums_cell HA.out j (by rw [hl]; exact hj))
  have cv := c_l07Moves A n c s t g _ HM.out hn hg
  cases hq : okFive p0
  · have E : Hid (placesF p0 n s t g = (0, 1)) := by rw [Hid, placesF, okAll, hq]; rfl
    rw [show allB 5 (fun j => okP1 (gi p0 j)) = false from hq] at cp
    have CP := Lib.hid cp
    clear cp cv h hbd hg hq
    go_enter Tryz.func13, Tryz.ntmps13
    go_wp2_with (go_at_call 40; ((with_reducible refine CP.out.mono ?_); rintro e w1 ⟨rfl, rfl⟩))
    have ho := heap_alloc_new (w.alloc (.cells (nums .i32 p0).toArray 30 (0, 0))) (.cells #[] 30 (0, 0))
    rw [World.size_alloc] at ho
    exact bodyPost_ret (v := .tuple #[.slice (some ⟨w.heap.size + 1, 0, none⟩) 0 0, .int .i64 1]) (by simp [results, Tryz.results13, go_sem]) rfl ⟨_, by rw [E.out], by rw [E.out]; exact own_empty ho (by omega), by (repeat (first | with_reducible exact Below.refl _ _ | with_reducible refine below_alloc ?_ _ | with_reducible refine below_drew ?_ | with_reducible refine below_drewN ?_ _ | with_reducible refine below_then ?_ (by assumption)))⟩
  · rw [show allB 5 (fun j => okP1 (gi p0 j)) = true from hq] at cp
    have CP := Lib.hid cp
    clear cp
    cases hm : (allB n (fun j => okMove (s j) (t j) (g j)) && decide (n ≤ 60))
    · have E : Hid (placesF p0 n s t g = (0, 1)) := by rw [Hid, placesF, okAll, hm, Bool.and_false]; rfl
      rw [hm] at cv
      have CV := Lib.hid cv
      clear cv h hbd hg hq hm
      go_enter Tryz.func13, Tryz.ntmps13
      go_wp2_with (first
        | (go_at_call 40; ((with_reducible refine CP.out.mono ?_); rintro e w1 ⟨rfl, rfl⟩))
        | (go_at_call 36; ((with_reducible refine CV.out.mono ?_); rintro e w1 ⟨rfl, hb⟩)))
      have hz := hb.size
      have hb9 : Below w.heap.size w w1 := by (repeat (first | with_reducible exact Below.refl _ _ | with_reducible refine below_alloc ?_ _ | with_reducible refine below_drew ?_ | with_reducible refine below_drewN ?_ _ | with_reducible refine below_then ?_ (by assumption)))
      have hz9 := hb9.size
      exact bodyPost_ret (v := .tuple #[.slice (some ⟨w1.heap.size, 0, none⟩) 0 0, .int .i64 1]) (by simp [results, Tryz.results13, go_sem]) rfl ⟨_, by rw [E.out], by rw [E.out]; exact own_empty (heap_alloc_new w1 _) hz9, below_alloc hb9 _⟩
    · have hok2 : allB n (fun j => okMove (s j) (t j) (g j)) = true ∧ decide (n ≤ 60) = true := by simpa only [Bool.and_eq_true] using hm
      have HOK := Lib.hid (allB_get hok2.1)
      have hn60 : n ≤ 60 := of_decide_eq_true hok2.2
      have HP5 := Lib.hid (okFive_bd hl hq)
      have EO : Hid (okAll p0 n s t g = true) := by rw [Hid, okAll, hq, hm]; rfl
      rw [hm] at cv
      have CV := Lib.hid cv
      clear cv h hbd hg hok2 hq hm
      by_cases hw : goodN p0 s t g n = n
      · have E : Hid (placesF p0 n s t g = (n, 0)) := by rw [Hid, placesF, if_pos EO.out, if_pos hw]
        have EW : wrongN p0 s t g n = -1 := by rw [wrongN, if_pos hw]
        have CA := fun w A c h => Lib.hid (EW ▸ c_l07At p0 A n c s t g w HP5.out h hn60 HOK.out)
        clear EW
        go_enter Tryz.func13, Tryz.ntmps13
        go_wp2_with (first
          | (go_at_call 40; ((with_reducible refine CP.out.mono ?_); rintro e w1 ⟨rfl, rfl⟩))
          | (go_at_call 36; ((with_reducible refine CV.out.mono ?_); rintro e w1 ⟨rfl, hb⟩; have HA := Lib.hid (blk_below HA.out hb); have HM := Lib.hid (HM.out.below hb); have hz9 : w.heap.size ≤ w1.heap.size := (by have := blk_lt HA.out; omega)))
          | (refine wpList_load_row rfl 30 (.tmp 2) rfl (w.heap.size) rfl 30 (nums .i32 p0).toArray (0, 0) _ ?_ Tryz.underlying30 rfl HI0.out ?_; (with_reducible exact HA.out))
          | (go_at_call 41; ((with_reducible refine (CA _ _ _ HM.out).out.mono ?_); rintro e w1 ⟨v, rfl, hO, hb⟩)))
        have hb9 : Below w.heap.size w w1 := by (repeat (first | with_reducible exact Below.refl _ _ | with_reducible refine below_alloc ?_ _ | with_reducible refine below_drew ?_ | with_reducible refine below_drewN ?_ _ | with_reducible refine below_then ?_ (by assumption)))
        exact bodyPost_ret (v := .tuple #[v, .int .i64 0]) (by simp [results, Tryz.results13, go_sem]) rfl ⟨_, by rw [E.out], by rw [E.out]; rw [hw] at hO; exact own_mono hO hz9, hb9⟩
      · have E : Hid (placesF p0 n s t g = (0, 4)) := by rw [Hid, placesF, if_pos EO.out, if_neg hw]
        have EW : wrongN p0 s t g n = (goodN p0 s t g n : Nat) := by rw [wrongN, if_neg hw]
        have CA := fun w A c h => Lib.hid (EW ▸ c_l07At p0 A n c s t g w HP5.out h hn60 HOK.out)
        clear EW
        go_enter Tryz.func13, Tryz.ntmps13
        go_wp2_with (first
          | (go_at_call 40; ((with_reducible refine CP.out.mono ?_); rintro e w1 ⟨rfl, rfl⟩))
          | (go_at_call 36; ((with_reducible refine CV.out.mono ?_); rintro e w1 ⟨rfl, hb⟩; have HA := Lib.hid (blk_below HA.out hb); have HM := Lib.hid (HM.out.below hb); have hz9 : w.heap.size ≤ w1.heap.size := (by have := blk_lt HA.out; omega)))
          | (refine wpList_load_row rfl 30 (.tmp 2) rfl (w.heap.size) rfl 30 (nums .i32 p0).toArray (0, 0) _ ?_ Tryz.underlying30 rfl HI0.out ?_; (with_reducible exact HA.out))
          | (go_at_call 41; ((with_reducible refine (CA _ _ _ HM.out).out.mono ?_); rintro e w1 ⟨v, rfl, hO, hb⟩)))
        have hz := hb.size
        have hb9 : Below w.heap.size w w1 := by (repeat (first | with_reducible exact Below.refl _ _ | with_reducible refine below_alloc ?_ _ | with_reducible refine below_drew ?_ | with_reducible refine below_drewN ?_ _ | with_reducible refine below_then ?_ (by assumption)))
        have hz9 := hb9.size
        exact bodyPost_ret (v := .tuple #[.slice (some ⟨w1.heap.size, 0, none⟩) 0 0, .int .i64 4]) (by simp [results, Tryz.results13, go_sem]) rfl ⟨_, by rw [E.out], by rw [E.out]; exact own_empty (heap_alloc_new w1 _) hz9, below_alloc hb9 _⟩
set_option maxHeartbeats 2000000 in
theorem c_iPlacesAt (hl : p0.length = 5) (hbd : ∀ j, -2147483648 ≤ gi p0 j ∧ gi p0 j ≤ 2147483647) (h : MovesAt w A n s t g) (hn : n ≤ 1048576) (hg : ∀ j, j < n → (-32768 ≤ g j ∧ g j ≤ 32767) ∧ (-128 ≤ s j ∧ s j ≤ 127) ∧ (-128 ≤ t j ∧ t j ≤ 127)) :
    Calls Tryz.prog 12 #[.agg (nums .i32 p0).toArray, .slice A n c] w fun e w' => ∃ v, e = .returned (.tuple #[v, .int .i64 (placesF p0 n s t g).2]) ∧ w'.ownsRow w.heap.size 30 5 v (placesF p0 n s t g).1 (rows5 (atN p0 s t g) (placesF p0 n s t g).1) ∧ Below w.heap.size w w' := by
  have HA := Lib.hid (heap_alloc_new w (.cells (nums .i32 p0).toArray 30 (0, 0)))
  have HB0 : Hid (Below w.heap.size w (w.alloc (.cells (nums .i32 p0).toArray 30 (0, 0)))) := below_alloc (Below.refl _ _) _
  have HM := Lib.hid (h.below HB0.out)
  have HI0 := Lib.hid (places_info hl)
  have cp := fun w => c_isPlaces p0 w hl hbd
  have cv := fun w h => c_iValidMoves A n c s t g w h hn hg
  cases hq : okFive p0
  · have E : Hid (placesF p0 n s t g = (0, 1)) := by rw [Hid, placesF, okAll, hq]; rfl
    rw [show allB 5 (fun j => okP1 (gi p0 j)) = false from hq] at cp
    have CP := fun w => Lib.hid (cp w)
    clear cp cv h hbd hg hq
    go_enter Tryz.func12, Tryz.ntmps12
    go_wp2_with (first
      | (refine wpList_load_row rfl 30 (.tmp 2) rfl (w.heap.size) rfl 30 (nums .i32 p0).toArray (0, 0) _ ?_ Tryz.underlying30 rfl HI0.out ?_; (with_reducible exact HA.out))
      | (go_at_call 38; ((with_reducible refine (CP _).out.mono ?_); rintro e w1 ⟨rfl, hb⟩)))
    exact bodyPost_ret (v := .tuple #[.slice none 0 0, .int .i64 1]) (by simp [results, Tryz.results12, go_sem]) rfl ⟨_, by rw [E.out], by rw [E.out]; exact own_nil _ _ _ _, by (repeat (first | with_reducible exact Below.refl _ _ | with_reducible refine below_alloc ?_ _ | with_reducible refine below_drew ?_ | with_reducible refine below_drewN ?_ _ | with_reducible refine below_then ?_ (by assumption)))⟩
  · rw [show allB 5 (fun j => okP1 (gi p0 j)) = true from hq] at cp
    have CP := fun w => Lib.hid (cp w)
    clear cp
    cases hm : (allB n (fun j => okMove (s j) (t j) (g j)) && decide (n ≤ 60))
    · have E : Hid (placesF p0 n s t g = (0, 1)) := by rw [Hid, placesF, okAll, hm, Bool.and_false]; rfl
      rw [hm] at cv
      have CV := fun w h => Lib.hid (cv w h)
      clear cv h hbd hg hq hm
      go_enter Tryz.func12, Tryz.ntmps12
      go_wp2_with (first
        | (refine wpList_load_row rfl 30 (.tmp 2) rfl (w.heap.size) rfl 30 (nums .i32 p0).toArray (0, 0) _ ?_ Tryz.underlying30 rfl HI0.out ?_; (with_reducible exact HA.out))
        | (go_at_call 38; ((with_reducible refine (CP _).out.mono ?_); rintro e w1 ⟨rfl, hb⟩; have HM := Lib.hid (HM.out.below hb)))
        | (go_at_call 18; ((with_reducible refine (CV _ HM.out).out.mono ?_); rintro e w1 ⟨rfl, hb⟩)))
      exact bodyPost_ret (v := .tuple #[.slice none 0 0, .int .i64 1]) (by simp [results, Tryz.results12, go_sem]) rfl ⟨_, by rw [E.out], by rw [E.out]; exact own_nil _ _ _ _, by (repeat (first | with_reducible exact Below.refl _ _ | with_reducible refine below_alloc ?_ _ | with_reducible refine below_drew ?_ | with_reducible refine below_drewN ?_ _ | with_reducible refine below_then ?_ (by assumption)))⟩
    · have hok2 : allB n (fun j => okMove (s j) (t j) (g j)) = true ∧ decide (n ≤ 60) = true := by simpa only [Bool.and_eq_true] using hm
      have HOK := Lib.hid (allB_get hok2.1)
      have hn60 : n ≤ 60 := of_decide_eq_true hok2.2
      have HP5 := Lib.hid (okFive_bd hl hq)
      have EO : Hid (okAll p0 n s t g = true) := by rw [Hid, okAll, hq, hm]; rfl
      rw [hm] at cv
      have CV := fun w h => Lib.hid (cv w h)
      have CA := fun w A c h => Lib.hid (c_after p0 A n c s t g w HP5.out h hn60 HOK.out)
      have hle := goodN_le p0 s t g n
      clear cv h hbd hg hok2 hq hm
      by_cases hw : goodN p0 s t g n = n
      · have E : Hid (placesF p0 n s t g = (n, 0)) := by rw [Hid, placesF, if_pos EO.out, if_pos hw]
        rw [hw] at CA
        have d2 : decide ((n : Int) < (n : Int)) = false := by simp
        clear hw hle
        go_enter Tryz.func12, Tryz.ntmps12
        go_wp2_with (first
          | (refine wpList_load_row rfl 30 (.tmp 2) rfl (w.heap.size) rfl 30 (nums .i32 p0).toArray (0, 0) _ ?_ Tryz.underlying30 rfl HI0.out ?_; (with_reducible exact HA.out))
          | (go_at_call 38; ((with_reducible refine (CP _).out.mono ?_); rintro e w1 ⟨rfl, hb⟩; have HA := Lib.hid (blk_below HA.out hb); have HM := Lib.hid (HM.out.below hb)))
          | (go_at_call 18; ((with_reducible refine (CV _ HM.out).out.mono ?_); rintro e w1 ⟨rfl, hb⟩; have HA := Lib.hid (blk_below HA.out hb); have HM := Lib.hid (HM.out.below hb); have hz9 : w.heap.size ≤ w1.heap.size := (by have := blk_lt HA.out; omega)))
          | (go_at_call 39; ((with_reducible refine (CA _ _ _ HM.out).out.mono ?_); rintro e w1 ⟨v, rfl, hO, hb⟩; obtain ⟨A', c', rfl, hA'⟩ := own_form hO; have HO := Lib.hid hO; clear hO)))
        have hb9 : Below w.heap.size w w1 := by (repeat (first | with_reducible exact Below.refl _ _ | with_reducible refine below_alloc ?_ _ | with_reducible refine below_drew ?_ | with_reducible refine below_drewN ?_ _ | with_reducible refine below_then ?_ (by assumption)))
        exact bodyPost_ret (v := .tuple #[.slice A' n c', .int .i64 0]) (by simp [results, Tryz.results12, go_sem]) rfl ⟨_, by rw [E.out], by rw [E.out]; exact own_mono HO.out hz9, hb9⟩
      · have E : Hid (placesF p0 n s t g = (0, 4)) := by rw [Hid, placesF, if_pos EO.out, if_neg hw]
        have d2 : decide ((goodN p0 s t g n : Int) < (n : Int)) = true := by simp; omega
        go_enter Tryz.func12, Tryz.ntmps12
        go_wp2_with (first
          | (refine wpList_load_row rfl 30 (.tmp 2) rfl (w.heap.size) rfl 30 (nums .i32 p0).toArray (0, 0) _ ?_ Tryz.underlying30 rfl HI0.out ?_; (with_reducible exact HA.out))
          | (go_at_call 38; ((with_reducible refine (CP _).out.mono ?_); rintro e w1 ⟨rfl, hb⟩; have HA := Lib.hid (blk_below HA.out hb); have HM := Lib.hid (HM.out.below hb)))
          | (go_at_call 18; ((with_reducible refine (CV _ HM.out).out.mono ?_); rintro e w1 ⟨rfl, hb⟩; have HA := Lib.hid (blk_below HA.out hb); have HM := Lib.hid (HM.out.below hb); have hz9 : w.heap.size ≤ w1.heap.size := (by have := blk_lt HA.out; omega)))
          | (go_at_call 39; ((with_reducible refine (CA _ _ _ HM.out).out.mono ?_); rintro e w1 ⟨v, rfl, hO, hb⟩; obtain ⟨A', c', rfl, hA'⟩ := own_form hO; have HO := Lib.hid hO; clear hO)))

        exact bodyPost_ret (v := .tuple #[.slice none 0 0, .int .i64 4]) (by simp [results, Tryz.results12, go_sem]) rfl ⟨_, by rw [E.out], by rw [E.out]; exact own_nil _ _ _ _, by (repeat (first | with_reducible exact Below.refl _ _ | with_reducible refine below_alloc ?_ _ | with_reducible refine below_drew ?_ | with_reducible refine below_drewN ?_ _ | with_reducible refine below_then ?_ (by assumption)))⟩
end
end Go.Proofs.YtjhifpidbobmaaaGreatDoor
