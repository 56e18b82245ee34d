/- Texts laid together: LatRows, LatFirst. -/
import Derived.Test.YtjhifpidbobmaaaGreatDoorMg08
import Derived.Test.YtjhifpidbobmaaaGreatDoorMg09
import Derived.Test.YtjhifpidbobmaaaGreatDoorMg10
/- Slices of places: compared, marked, held. -/
namespace Go.Proofs.YtjhifpidbobmaaaGreatDoor
open Go.RowKit
set_option linter.unusedVariables false
set_option linter.unusedSimpArgs false
set_option maxRecDepth 100000

def f32 (k0 : Nat) (i : Nat) : Value := .int .i32 ((k0 : Int) + (i : Int))
theorem rows5_get {P : Nat → List Int} {n k j : Nat} (hP : ∀ k, k < n → (P (k + 1)).length = 5) (hk : k < n) (hj : j < 5) : (rows5 P n)[k * 5 + j]? = some (.int .i32 (gi (P (k + 1)) j)) := by
  have h := flatten_get (sz := 5) (es := (List.range n).map fun j => nums .i32 (P (j + 1))) (by intro c hc; obtain ⟨z, hz, rfl⟩ := List.mem_map.1 hc; rw [nums_length]; exact hP z (List.mem_range.1 hz)) k (by simpa using hk) j hj
  rw [rows5, List.flatMap_def, h]
  simp only [List.getElem?_map, List.getElem?_range hk, Option.map_some, Option.getD_some]
  exact nums_get (by rw [hP k hk]; exact hj)
theorem rows5_get0 {P : Nat → List Int} {n k : Nat} (hP : ∀ k, k < n → (P (k + 1)).length = 5) (hk : k < n) : (rows5 P n)[k * 5]? = some (.int .i32 (gi (P (k + 1)) 0)) := rows5_get (j := 0) hP hk (by omega)
end Go.Proofs.YtjhifpidbobmaaaGreatDoor
/- The first wrong move, and the places at each move: the program's and the reference's answers. -/
namespace Go.Proofs.YtjhifpidbobmaaaGreatDoor
open Go.RowKit
set_option linter.unusedVariables false
set_option linter.unusedSimpArgs false
set_option maxRecDepth 100000

def okAll (p0 : List Int) (n : Nat) (s t g : Nat → Int) : Bool := okFive p0 && (allB n (fun j => okMove (s j) (t j) (g j)) && decide (n ≤ 60))
def firstF (p0 : List Int) (n : Nat) (s t g : Nat → Int) : Int × Int :=
  if okAll p0 n s t g = true then (if goodN p0 s t g n = n then (0, 6) else ((goodN p0 s t g n : Nat), 0)) else (0, 1)
/-- How many places PlacesAt hands back, and its code. -/
def placesF (p0 : List Int) (n : Nat) (s t g : Nat → Int) : Nat × Int :=
  if okAll p0 n s t g = true then (if goodN p0 s t g n = n then (n, 0) else (0, 4)) else (0, 1)
theorem placesF_le (p0 : List Int) (n : Nat) (s t g : Nat → Int) : (placesF p0 n s t g).1 ≤ n := by
  unfold placesF
  split
  · split <;> simp
  · simp
theorem atN_len {p0 : List Int} (h : p0.length = 5) (s t g : Nat → Int) : ∀ k, (atN p0 s t g k).length = 5
  | 0 => h
  | k + 1 => by simp [atN, stepP, addAtP, atN_len h s t g k]
theorem c_lengthP (A : Option Addr) (n c : Nat) (w : World) : Calls Tryz.prog 42 #[.slice A n c] w fun e w' => e = .returned (.int .i64 (n : Int)) ∧ w = w' := by
  go_enter Tryz.func42, Tryz.ntmps42
  go_wp2
  go_ret
  exact ⟨rfl, rfl⟩
section
variable (p0 : List Int) (A : Option Addr) (n c : Nat) (s t g : Nat → Int) (w : World)
set_option maxHeartbeats 2000000 in
theorem c_iFirstWrong (hl : p0.length = 5) (hbd : ∀ j, -2147483648 ≤ gi p0 j ∧ gi p0 j ≤ 2147483647) (h : MovesAt w A n s t g) (hn : n ≤ 1048576) (hg : ∀ j, j < n → (-32768 ≤ g j ∧ g j ≤ 32767) ∧ (-128 ≤ s j ∧ s j ≤ 127) ∧ (-128 ≤ t j ∧ t j ≤ 127)) :
    Calls Tryz.prog 16 #[.agg (nums .i32 p0).toArray, .slice A n c] w fun e w' => e = .returned (.tuple #[.int .i64 (firstF p0 n s t g).1, .int .i64 (firstF p0 n s t g).2]) ∧ Below w.heap.size w w' := by
  have HA := Lib.hid (heap_alloc_new w (.cells (nums .i32 p0).toArray 30 (0, 0)))
  have HB0 : Hid (Below w.heap.size w (w.alloc (.cells (nums .i32 p0).toArray 30 (0, 0)))) := below_alloc (Below.refl _ _) _
  have HM := Lib.hid (h.below HB0.out)
  have HI0 := Lib.hid (places_info hl)
  have cp := fun w => c_isPlaces p0 w hl hbd
  have cv := fun w h => c_iValidMoves A n c s t g w h hn hg
  cases hq : okFive p0
  · have E : Hid (firstF p0 n s t g = (0, 1)) := by rw [Hid, firstF, okAll, hq]; rfl
    rw [show allB 5 (fun j => okP1 (gi p0 j)) = false from hq] at cp
    have CP := fun w => Lib.hid (cp w)
    clear cp cv h hbd hg hq
    go_enter Tryz.func16, Tryz.ntmps16
    go_wp2_with (first
      | (refine wpList_load_row rfl 30 (.tmp 2) rfl (w.heap.size) rfl 30 (nums .i32 p0).toArray (0, 0) _ ?_ Tryz.underlying30 rfl HI0.out ?_; (with_reducible exact HA.out))
      | (go_at_call 38; ((with_reducible refine (CP _).out.mono ?_); rintro e w1 ⟨rfl, hb⟩)))
    go_ret2
    exact ⟨by rw [E.out]; rfl, by (repeat (first | with_reducible exact Below.refl _ _ | with_reducible refine below_alloc ?_ _ | with_reducible refine below_drew ?_ | with_reducible refine below_drewN ?_ _ | with_reducible refine below_then ?_ (by assumption)))⟩
  · rw [show allB 5 (fun j => okP1 (gi p0 j)) = true from hq] at cp
    have CP := fun w => Lib.hid (cp w)
    clear cp
    cases hm : (allB n (fun j => okMove (s j) (t j) (g j)) && decide (n ≤ 60))
    · have E : Hid (firstF p0 n s t g = (0, 1)) := by rw [Hid, firstF, okAll, hm, Bool.and_false]; rfl
      rw [hm] at cv
      have CV := fun w h => Lib.hid (cv w h)
      clear cv h hbd hg hq hm
      go_enter Tryz.func16, Tryz.ntmps16
      go_wp2_with (first
        | (refine wpList_load_row rfl 30 (.tmp 2) rfl (w.heap.size) rfl 30 (nums .i32 p0).toArray (0, 0) _ ?_ Tryz.underlying30 rfl HI0.out ?_; (with_reducible exact HA.out))
        | (go_at_call 38; ((with_reducible refine (CP _).out.mono ?_); rintro e w1 ⟨rfl, hb⟩; have HM := Lib.hid (HM.out.below hb)))
        | (go_at_call 18; ((with_reducible refine (CV _ HM.out).out.mono ?_); rintro e w1 ⟨rfl, hb⟩)))
      go_ret2
      exact ⟨by rw [E.out]; rfl, by (repeat (first | with_reducible exact Below.refl _ _ | with_reducible refine below_alloc ?_ _ | with_reducible refine below_drew ?_ | with_reducible refine below_drewN ?_ _ | with_reducible refine below_then ?_ (by assumption)))⟩
    · have hok2 : allB n (fun j => okMove (s j) (t j) (g j)) = true ∧ decide (n ≤ 60) = true := by simpa only [Bool.and_eq_true] using hm
      have HOK := Lib.hid (allB_get hok2.1)
      have hn60 : n ≤ 60 := of_decide_eq_true hok2.2
      have HP5 := Lib.hid (okFive_bd hl hq)
      have EO : Hid (okAll p0 n s t g = true) := by rw [Hid, okAll, hq, hm]; rfl
      rw [hm] at cv
      have CV := fun w h => Lib.hid (cv w h)
      have CA := fun w A c h => Lib.hid (c_after p0 A n c s t g w HP5.out h hn60 HOK.out)
      have hle := goodN_le p0 s t g n
      clear cv h hbd hg hok2 hq hm
      by_cases hw : goodN p0 s t g n = n
      · have E : Hid (firstF p0 n s t g = (0, 6)) := by rw [Hid, firstF, if_pos EO.out, if_pos hw]
        rw [hw] at CA
        clear hw hle
        go_enter Tryz.func16, Tryz.ntmps16
        go_wp2_with (first
          | (refine wpList_load_row rfl 30 (.tmp 2) rfl (w.heap.size) rfl 30 (nums .i32 p0).toArray (0, 0) _ ?_ Tryz.underlying30 rfl HI0.out ?_; (with_reducible exact HA.out))
          | (go_at_call 38; ((with_reducible refine (CP _).out.mono ?_); rintro e w1 ⟨rfl, hb⟩; have HA := Lib.hid (blk_below HA.out hb); have HM := Lib.hid (HM.out.below hb)))
          | (go_at_call 18; ((with_reducible refine (CV _ HM.out).out.mono ?_); rintro e w1 ⟨rfl, hb⟩; have HA := Lib.hid (blk_below HA.out hb); have HM := Lib.hid (HM.out.below hb)))
          | (go_at_call 39; ((with_reducible refine (CA _ _ _ HM.out).out.mono ?_); rintro e w1 ⟨v, rfl, hO, hb⟩; obtain ⟨A', c', rfl, hA'⟩ := own_form hO; clear hO)))
        go_ret2
        exact ⟨by rw [E.out]; rfl, by (repeat (first | with_reducible exact Below.refl _ _ | with_reducible refine below_alloc ?_ _ | with_reducible refine below_drew ?_ | with_reducible refine below_drewN ?_ _ | with_reducible refine below_then ?_ (by assumption)))⟩
      · have E : Hid (firstF p0 n s t g = (((goodN p0 s t g n : Nat) : Int), 0)) := by rw [Hid, firstF, if_pos EO.out, if_neg hw]
        have d2 : ((goodN p0 s t g n : Int) == (n : Int)) = false := by simp; omega
        have d3 : ¬ ((goodN p0 s t g n : Int) = (n : Int)) := by omega
        go_enter Tryz.func16, Tryz.ntmps16
        go_wp2_with (first
          | (refine wpList_load_row rfl 30 (.tmp 2) rfl (w.heap.size) rfl 30 (nums .i32 p0).toArray (0, 0) _ ?_ Tryz.underlying30 rfl HI0.out ?_; (with_reducible exact HA.out))
          | (go_at_call 38; ((with_reducible refine (CP _).out.mono ?_); rintro e w1 ⟨rfl, hb⟩; have HA := Lib.hid (blk_below HA.out hb); have HM := Lib.hid (HM.out.below hb)))
          | (go_at_call 18; ((with_reducible refine (CV _ HM.out).out.mono ?_); rintro e w1 ⟨rfl, hb⟩; have HA := Lib.hid (blk_below HA.out hb); have HM := Lib.hid (HM.out.below hb)))
          | (go_at_call 39; ((with_reducible refine (CA _ _ _ HM.out).out.mono ?_); rintro e w1 ⟨v, rfl, hO, hb⟩; obtain ⟨A', c', rfl, hA'⟩ := own_form hO; clear hO))
          | (go_at_call 42; ((with_reducible refine (c_lengthP _ _ _ _).mono ?_); rintro e w1 ⟨rfl, rfl⟩)))
        go_ret2
        exact ⟨by rw [E.out]; rfl, by (repeat (first | with_reducible exact Below.refl _ _ | with_reducible refine below_alloc ?_ _ | with_reducible refine below_drew ?_ | with_reducible refine below_drewN ?_ _ | with_reducible refine below_then ?_ (by assumption)))⟩
end
end Go.Proofs.YtjhifpidbobmaaaGreatDoor
