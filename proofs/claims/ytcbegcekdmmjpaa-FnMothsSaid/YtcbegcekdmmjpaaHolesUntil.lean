/- Weeks until there are so many holes. -/
import Derived.Test.YtcbegcekdmmjpaaHolesEq
namespace Go.Proofs.Ytcbegcekdmmjpaa
open Go.RowKit
set_option linter.unusedVariables false
set_option linter.unusedSimpArgs false
set_option maxRecDepth 100000

theorem week_mono {hs : List Int} {need : Int} (a b : Int) (h : hole hs a b = true) : hole (week hs need) a b = true := by
  obtain ⟨p, q, hp, hq, rfl, rfl⟩ := hole_range h
  rw [hole_week hp hq, h]; rfl
theorem week_grows {hs : List Int} {need : Int} (h8 : Holes8 hs) (e : week hs need ≠ hs) : cnt hs 64 + 1 ≤ cnt (week hs need) 64 := by
  by_cases k : ∃ a b, hole (week hs need) a b = true ∧ ¬ hole hs a b = true
  · obtain ⟨a, b, k1, k2⟩ := k
    exact cnt_less_at week_mono k2 k1
  · exfalso
    refine e (holes_extI (week8 _ _) h8 fun a b => ⟨fun k1 => ?_, week_mono a b⟩)
    by_cases k2 : hole hs a b = true
    · exact k2
    · exact absurd ⟨a, b, k1, k2⟩ k
def untilN (need holes : Int) : Nat → List Int → Nat → Int × Int
  | 0, _, _ => (0, 0)
  | f + 1, h, n => if holes ≤ cnt h 64 then ((n : Int), 0) else if week h need == h then (0, 6) else untilN need holes f (week h need) (n + 1)
def untilF (hs : List Int) (need holes : Int) : Int × Int := if inB need 1 4 && inB holes 0 64 then untilN need holes 65 hs 0 else (0, 2)
/-- Behind k weeks the search goes on so. -/
structure UntilSt (hs : List Int) (need holes : Int) (k : Nat) : Prop where
  le : (k : Int) ≤ cnt (weeks hs need k) 64
  eq : untilN need holes (65 - k) (weeks hs need k) k = untilF hs need holes
theorem UntilSt.bd {hs : List Int} {need holes : Int} {k : Nat} (h : UntilSt hs need holes k) : k ≤ 64 := by
  have := cnt_bd (weeks hs need k) 64
  have := h.le
  omega
theorem UntilSt.unfold {hs : List Int} {need holes : Int} {k : Nat} (h : UntilSt hs need holes k) : untilF hs need holes = if holes ≤ cnt (weeks hs need k) 64 then ((k : Int), 0) else if week (weeks hs need k) need == weeks hs need k then (0, 6) else untilN need holes (64 - k) (weeks hs need (k + 1)) (k + 1) := by
  rw [← h.eq, show 65 - k = (64 - k) + 1 by have := h.bd; omega]
  rfl
theorem UntilSt.next {hs : List Int} {need holes : Int} {k : Nat} (h8 : Holes8 hs) (h : UntilSt hs need holes k) (h1 : ¬ holes ≤ cnt (weeks hs need k) 64) (h2 : (week (weeks hs need k) need == weeks hs need k) = false) : UntilSt hs need holes (k + 1) := by
  have hg := week_grows (need := need) (weeks8 h8 need k) (by simpa using h2)
  refine ⟨?_, ?_⟩
  · have := h.le
    show ((k + 1 : Nat) : Int) ≤ cnt (week (weeks hs need k) need) 64
    omega
  · have e := h.unfold
    rw [if_neg h1, h2] at e
    rw [e, show 65 - (k + 1) = 64 - k by omega]
    rfl
theorem UntilSt.zero {hs : List Int} {need holes : Int} (h : (inB need 1 4 && inB holes 0 64) = true) : UntilSt hs need holes 0 := by
  refine ⟨(cnt_bd hs 64).1, ?_⟩
  rw [untilF, if_pos h]
  rfl

set_option maxHeartbeats 1600000 in
theorem c_iWeeksUntil (hs : List Int) (need holes : Int) (w : World) (h8 : Holes8 hs) :
    Calls Try.prog 22 #[.agg (nums .u8 hs).toArray, .int .i64 need, .int .i64 holes] w fun e w' => e = .returned (.tuple #[.int .i64 (untilF hs need holes).1, .int .i64 (untilF hs need holes).2]) ∧ Below w.heap.size w w' := by
  cases k1 : inB need 1 4
  · have E : Hid (untilF hs need holes = (0, 2)) := by simp [Hid, untilF, k1]
    go_enter Try.func22, Try.ntmps22
    go_wp2_with (first | (go_at_call 32; ((with_reducible refine (c_isNeed _ _).mono ?_); rintro e w1 ⟨rfl, rfl⟩)) | (go_at_call 33; ((with_reducible refine (c_within _ _ _ _).mono ?_); rintro e w1 ⟨rfl, rfl⟩)))
    go_ret2
    exact ⟨by rw [E.out]; rfl, by (repeat (first | with_reducible exact Below.refl _ _ | with_reducible refine below_alloc ?_ _ | with_reducible refine below_drew ?_ | with_reducible refine below_drewN ?_ _ | with_reducible refine below_then ?_ (by assumption)))⟩
  · cases k2 : inB holes 0 64
    · have E : Hid (untilF hs need holes = (0, 2)) := by simp [Hid, untilF, k1, k2]
      go_enter Try.func22, Try.ntmps22
      go_wp2_with (first | (go_at_call 32; ((with_reducible refine (c_isNeed _ _).mono ?_); rintro e w1 ⟨rfl, rfl⟩)) | (go_at_call 33; ((with_reducible refine (c_within _ _ _ _).mono ?_); rintro e w1 ⟨rfl, rfl⟩)))
      go_ret2
      exact ⟨by rw [E.out]; rfl, by (repeat (first | with_reducible exact Below.refl _ _ | with_reducible refine below_alloc ?_ _ | with_reducible refine below_drew ?_ | with_reducible refine below_drewN ?_ _ | with_reducible refine below_then ?_ (by assumption)))⟩
    · have U0 : UntilSt hs need holes 0 := .zero (by rw [k1, k2]; rfl)
      have HZ : #[Value.int .u8 0, .int .u8 0, .int .u8 0, .int .u8 0, .int .u8 0, .int .u8 0, .int .u8 0, .int .u8 0] = (nums .u8 noHoles).toArray := rfl
      have H8 := Lib.hid h8
      have HU0 := Lib.hid U0
      have HH := Lib.hid (heap_alloc_new w (.cells (nums .u8 hs).toArray 25 (0, 0)))
      clear h8 U0
      go_enter Try.func22, Try.ntmps22
      go_wp2_with (first | (go_at_call 32; ((with_reducible refine (c_isNeed _ _).mono ?_); rintro e w1 ⟨rfl, rfl⟩)) | (go_at_call 33; ((with_reducible refine (c_within _ _ _ _).mono ?_); rintro e w1 ⟨rfl, rfl⟩)))
      go_loopw [8] (fun i wr => ∃ k : Nat, i = .int .i64 k ∧ Hid (UntilSt hs need holes k) ∧ Hid (wr.heap[w.heap.size]? = some (.cells (nums .u8 (weeks hs need k)).toArray 25 (0, 0))) ∧ Below w.heap.size w wr) (fun i _ => 65 - (intOf i).toNat)
      case atStart => exact ⟨0, rfl, HU0, HH.out, by (repeat (first | with_reducible exact Below.refl _ _ | with_reducible refine below_alloc ?_ _ | with_reducible refine below_drew ?_ | with_reducible refine below_drewN ?_ _ | with_reducible refine below_then ?_ (by assumption)))⟩
      case round =>
        obtain ⟨k, rfl, hU, hH, hB⟩ := hrel
        have kb := hU.out.bd
        have HL0 := Lib.hid (weeks8 H8.out need k).len
        have HL1 := Lib.hid (week8 (weeks hs need k) need).len
        have HL2 := Lib.hid (weeks8 H8.out need (k + 1)).len
        have HIk := Lib.hid (holes_info HL0.out)
        have HIk1 := Lib.hid (holes_info HL1.out)
        have HIk2 := Lib.hid (holes_info HL2.out)
        have heq := fun w => run_equalIn_nums (P := Try.prog) w 9998 25 5 8 .u8 Try.underlying25 Try.underlying5 (by kernel_rfl) (week (weeks hs need k) need) (weeks hs need k) HL1.out HL0.out
        have EU := Lib.hid hU.out.unfold
        by_cases hlt : holes ≤ cnt (weeks hs need k) 64
        · have d1 : decide (cnt (weeks hs need k) 64 < holes) = false := by simpa using hlt
          go_wp2_with (first
            | (refine wpList_load_row rfl 25 (.tmp 3) rfl (w.heap.size) rfl 25 _ (0, 0) _ hH.out Try.underlying25 rfl HIk.out ?_)
            | (go_at_call 16; ((with_reducible refine (c_iCountHoles _ _ (weeks8 H8.out need k)).mono ?_); rintro e w1 ⟨rfl, hb⟩; have hH := Lib.hid (blk_below hH.out hb))))
          go_ret2
          exact ⟨by first | (rw [EU.out, if_pos hlt]; rfl) | rw [EU.out, if_pos hlt], by (repeat (first | with_reducible exact Below.refl _ _ | with_reducible refine below_alloc ?_ _ | with_reducible refine below_drew ?_ | with_reducible refine below_drewN ?_ _ | with_reducible refine below_then ?_ (by assumption)))⟩
        · have d1 : decide (cnt (weeks hs need k) 64 < holes) = true := by simpa using hlt
          cases hw : (week (weeks hs need k) need == weeks hs need k)
          · have HU1 := Lib.hid (hU.out.next H8.out hlt hw)
            go_wp2_with (first
              | (refine wpList_load_row rfl 25 (.tmp 3) rfl (w.heap.size) rfl 25 _ (0, 0) _ hH.out Try.underlying25 rfl HIk.out ?_)
              | (go_at_call 16; ((with_reducible refine (c_iCountHoles _ _ (weeks8 H8.out need k)).mono ?_); rintro e w1 ⟨rfl, hb⟩; have hH := Lib.hid (blk_below hH.out hb)))
              | (go_at_call 34; ((with_reducible refine (c_later _ need _ (weeks8 H8.out need k)).mono ?_); rintro e w1 ⟨rfl, hb⟩; have hH := Lib.hid (blk_below hH.out hb)))
              | (refine ev_store_row rfl 25 (.tmp 9) (.tmp 24) rfl (w1.heap.size) ((nums .u8 (week (weeks hs need k) need)).toArray) rfl rfl 25 _ (heap_alloc_new w1 _) HIk1.out ((by simp [nums, noHoles, HL1.out])) (nums_one _ _) ?_; intro w1 hblk ht; have hb := tou_new ht; clear ht; obtain ⟨hc_, hf_, hz_⟩ := bfacts hb; (try simp only [World.size_alloc, World.size_setCell, World.size_drew] at hc_ hf_ hz_); have hH := Lib.hid (blk_below hH.out hb); have hN := Lib.hid hblk; clear hblk)
              | (refine wpList_load_row rfl 25 (.tmp 9) rfl (_) rfl 25 _ (0, 0) _ hN.out Try.underlying25 rfl HIk1.out ?_)
              | (refine ev_store_row rfl 25 (.tmp 3) (.tmp 28) rfl (w.heap.size) ((nums .u8 (weeks hs need (k + 1))).toArray) rfl rfl 25 _ hH.out HIk2.out ((by simp [nums, HL0.out, HL2.out])) (nums_one _ _) ?_; intro w1 hblk ht; have hH3 := Lib.hid hblk; have hB3 : Hid (Below w.heap.size w w1) := Below.trans (by (repeat (first | with_reducible exact Below.refl _ _ | with_reducible refine below_alloc ?_ _ | with_reducible refine below_drew ?_ | with_reducible refine below_drewN ?_ _ | with_reducible refine below_then ?_ (by assumption)))) (ht.below (Nat.le_refl _)); clear hblk))
            go_roundw
            case rel => exact ⟨k + 1, by go_num, HU1, hH3, hB3.out⟩
            case measure => simp [intOf]; omega
          · have E6 : Hid (untilF hs need holes = (0, 6)) := by rw [Hid, hU.out.unfold, if_neg hlt, hw]; rfl
            go_wp2_with (first
              | (refine wpList_load_row rfl 25 (.tmp 3) rfl (w.heap.size) rfl 25 _ (0, 0) _ hH.out Try.underlying25 rfl HIk.out ?_)
              | (go_at_call 16; ((with_reducible refine (c_iCountHoles _ _ (weeks8 H8.out need k)).mono ?_); rintro e w1 ⟨rfl, hb⟩; have hH := Lib.hid (blk_below hH.out hb)))
              | (go_at_call 34; ((with_reducible refine (c_later _ need _ (weeks8 H8.out need k)).mono ?_); rintro e w1 ⟨rfl, hb⟩; have hH := Lib.hid (blk_below hH.out hb)))
              | (refine ev_store_row rfl 25 (.tmp 9) (.tmp 24) rfl (w1.heap.size) ((nums .u8 (week (weeks hs need k) need)).toArray) rfl rfl 25 _ (heap_alloc_new w1 _) HIk1.out ((by simp [nums, noHoles, HL1.out])) (nums_one _ _) ?_; intro w1 hblk ht; have hb := tou_new ht; clear ht; obtain ⟨hc_, hf_, hz_⟩ := bfacts hb; (try simp only [World.size_alloc, World.size_setCell, World.size_drew] at hc_ hf_ hz_); have hH := Lib.hid (blk_below hH.out hb); have hN := Lib.hid hblk; clear hblk)
              | (refine wpList_load_row rfl 25 (.tmp 9) rfl (_) rfl 25 _ (0, 0) _ hN.out Try.underlying25 rfl HIk1.out ?_))
            go_ret2
            exact ⟨by rw [E6.out]; rfl, by (repeat (first | with_reducible exact Below.refl _ _ | with_reducible refine below_alloc ?_ _ | with_reducible refine below_drew ?_ | with_reducible refine below_drewN ?_ _ | with_reducible refine below_then ?_ (by assumption)))⟩

set_option maxHeartbeats 1600000 in
theorem c_sWeeksUntil (hs : List Int) (need holes : Int) (w : World) (h8 : Holes8 hs) :
    Calls Try.prog 23 #[.agg (nums .u8 hs).toArray, .int .i64 need, .int .i64 holes] w fun e w' => e = .returned (.tuple #[.int .i64 (untilF hs need holes).1, .int .i64 (untilF hs need holes).2]) ∧ Below w.heap.size w w' := by
  cases k1 : inB need 1 4
  · have E : Hid (untilF hs need holes = (0, 2)) := by simp [Hid, untilF, k1]
    go_enter Try.func23, Try.ntmps23
    go_wp2_with (first | (go_at_call 30; ((with_reducible refine (c_l06Need _ _).mono ?_); rintro e w1 ⟨rfl, rfl⟩)) | (go_at_call 35; ((with_reducible refine (c_l00In _ _ _ _).mono ?_); rintro e w1 ⟨rfl, rfl⟩)))
    go_ret2
    exact ⟨by rw [E.out]; rfl, by (repeat (first | with_reducible exact Below.refl _ _ | with_reducible refine below_alloc ?_ _ | with_reducible refine below_drew ?_ | with_reducible refine below_drewN ?_ _ | with_reducible refine below_then ?_ (by assumption)))⟩
  · cases k2 : inB holes 0 64
    · have E : Hid (untilF hs need holes = (0, 2)) := by simp [Hid, untilF, k1, k2]
      go_enter Try.func23, Try.ntmps23
      go_wp2_with (first | (go_at_call 30; ((with_reducible refine (c_l06Need _ _).mono ?_); rintro e w1 ⟨rfl, rfl⟩)) | (go_at_call 35; ((with_reducible refine (c_l00In _ _ _ _).mono ?_); rintro e w1 ⟨rfl, rfl⟩)))
      go_ret2
      exact ⟨by rw [E.out]; rfl, by (repeat (first | with_reducible exact Below.refl _ _ | with_reducible refine below_alloc ?_ _ | with_reducible refine below_drew ?_ | with_reducible refine below_drewN ?_ _ | with_reducible refine below_then ?_ (by assumption)))⟩
    · have U0 : UntilSt hs need holes 0 := .zero (by rw [k1, k2]; rfl)
      have HZ : #[Value.int .u8 0, .int .u8 0, .int .u8 0, .int .u8 0, .int .u8 0, .int .u8 0, .int .u8 0, .int .u8 0] = (nums .u8 noHoles).toArray := rfl
      have H8 := Lib.hid h8
      have HU0 := Lib.hid U0
      have HH := Lib.hid (heap_alloc_new w (.cells (nums .u8 hs).toArray 25 (0, 0)))
      clear h8 U0
      go_enter Try.func23, Try.ntmps23
      go_wp2_with (first | (go_at_call 30; ((with_reducible refine (c_l06Need _ _).mono ?_); rintro e w1 ⟨rfl, rfl⟩)) | (go_at_call 35; ((with_reducible refine (c_l00In _ _ _ _).mono ?_); rintro e w1 ⟨rfl, rfl⟩)))
      go_loopw [8] (fun i wr => ∃ k : Nat, i = .int .i64 k ∧ Hid (UntilSt hs need holes k) ∧ Hid (wr.heap[w.heap.size]? = some (.cells (nums .u8 (weeks hs need k)).toArray 25 (0, 0))) ∧ Below w.heap.size w wr) (fun i _ => 65 - (intOf i).toNat)
      case atStart => exact ⟨0, rfl, HU0, HH.out, by (repeat (first | with_reducible exact Below.refl _ _ | with_reducible refine below_alloc ?_ _ | with_reducible refine below_drew ?_ | with_reducible refine below_drewN ?_ _ | with_reducible refine below_then ?_ (by assumption)))⟩
      case round =>
        obtain ⟨k, rfl, hU, hH, hB⟩ := hrel
        have kb := hU.out.bd
        have HL0 := Lib.hid (weeks8 H8.out need k).len
        have HL1 := Lib.hid (week8 (weeks hs need k) need).len
        have HL2 := Lib.hid (weeks8 H8.out need (k + 1)).len
        have HIk := Lib.hid (holes_info HL0.out)
        have HIk1 := Lib.hid (holes_info HL1.out)
        have HIk2 := Lib.hid (holes_info HL2.out)
        have heq := fun w => run_equalIn_nums (P := Try.prog) w 9998 25 5 8 .u8 Try.underlying25 Try.underlying5 (by kernel_rfl) (week (weeks hs need k) need) (weeks hs need k) HL1.out HL0.out
        have EU := Lib.hid hU.out.unfold
        by_cases hlt : holes ≤ cnt (weeks hs need k) 64
        · have d1 : decide (holes ≤ cnt (weeks hs need k) 64) = true := by simpa using hlt
          go_wp2_with (first
            | (refine wpList_load_row rfl 25 (.tmp 3) rfl (w.heap.size) rfl 25 _ (0, 0) _ hH.out Try.underlying25 rfl HIk.out ?_)
            | (go_at_call 40; ((with_reducible refine (c_l06Count w.heap.size 0 _ _ (weeks8 H8.out need k) (HAt_row (weeks8 H8.out need k).len hH.out)).mono ?_); rintro e w1 ⟨rfl, rfl⟩)))
          go_ret2
          exact ⟨by first | (rw [EU.out, if_pos hlt]; rfl) | rw [EU.out, if_pos hlt], by (repeat (first | with_reducible exact Below.refl _ _ | with_reducible refine below_alloc ?_ _ | with_reducible refine below_drew ?_ | with_reducible refine below_drewN ?_ _ | with_reducible refine below_then ?_ (by assumption)))⟩
        · have d1 : decide (holes ≤ cnt (weeks hs need k) 64) = false := by simpa using hlt
          cases hw : (week (weeks hs need k) need == weeks hs need k)
          · have HU1 := Lib.hid (hU.out.next H8.out hlt hw)
            go_wp2_with (first
              | (refine wpList_load_row rfl 25 (.tmp 3) rfl (w.heap.size) rfl 25 _ (0, 0) _ hH.out Try.underlying25 rfl HIk.out ?_)
              | (go_at_call 40; ((with_reducible refine (c_l06Count w.heap.size 0 _ _ (weeks8 H8.out need k) (HAt_row (weeks8 H8.out need k).len hH.out)).mono ?_); rintro e w1 ⟨rfl, rfl⟩))
              | (go_at_call 31; ((with_reducible refine (c_l06Week w.heap.size 25 _ need _ (weeks8 H8.out need k) hH.out).mono ?_); rintro e w1 ⟨rfl, hb⟩; have hH := Lib.hid (blk_below hH.out hb)))
              | (refine ev_store_row rfl 25 (.tmp 9) (.tmp 25) rfl (w1.heap.size) ((nums .u8 (week (weeks hs need k) need)).toArray) rfl rfl 25 _ (heap_alloc_new w1 _) HIk1.out ((by simp [nums, noHoles, HL1.out])) (nums_one _ _) ?_; intro w1 hblk ht; have hb := tou_new ht; clear ht; obtain ⟨hc_, hf_, hz_⟩ := bfacts hb; (try simp only [World.size_alloc, World.size_setCell, World.size_drew] at hc_ hf_ hz_); have hH := Lib.hid (blk_below hH.out hb); have hN := Lib.hid hblk; clear hblk)
              | (refine wpList_load_row rfl 25 (.tmp 9) rfl (_) rfl 25 _ (0, 0) _ hN.out Try.underlying25 rfl HIk1.out ?_)
              | (refine ev_store_row rfl 25 (.tmp 3) (.tmp 29) rfl (w.heap.size) ((nums .u8 (weeks hs need (k + 1))).toArray) rfl rfl 25 _ hH.out HIk2.out ((by simp [nums, HL0.out, HL2.out])) (nums_one _ _) ?_; intro w1 hblk ht; have hH3 := Lib.hid hblk; have hB3 : Hid (Below w.heap.size w w1) := Below.trans (by (repeat (first | with_reducible exact Below.refl _ _ | with_reducible refine below_alloc ?_ _ | with_reducible refine below_drew ?_ | with_reducible refine below_drewN ?_ _ | with_reducible refine below_then ?_ (by assumption)))) (ht.below (Nat.le_refl _)); clear hblk))
            go_roundw
            case rel => exact ⟨k + 1, by go_num, HU1, hH3, hB3.out⟩
            case measure => simp [intOf]; omega
          · have E6 : Hid (untilF hs need holes = (0, 6)) := by rw [Hid, hU.out.unfold, if_neg hlt, hw]; rfl
            go_wp2_with (first
              | (refine wpList_load_row rfl 25 (.tmp 3) rfl (w.heap.size) rfl 25 _ (0, 0) _ hH.out Try.underlying25 rfl HIk.out ?_)
              | (go_at_call 40; ((with_reducible refine (c_l06Count w.heap.size 0 _ _ (weeks8 H8.out need k) (HAt_row (weeks8 H8.out need k).len hH.out)).mono ?_); rintro e w1 ⟨rfl, rfl⟩))
              | (go_at_call 31; ((with_reducible refine (c_l06Week w.heap.size 25 _ need _ (weeks8 H8.out need k) hH.out).mono ?_); rintro e w1 ⟨rfl, hb⟩; have hH := Lib.hid (blk_below hH.out hb)))
              | (refine ev_store_row rfl 25 (.tmp 9) (.tmp 25) rfl (w1.heap.size) ((nums .u8 (week (weeks hs need k) need)).toArray) rfl rfl 25 _ (heap_alloc_new w1 _) HIk1.out ((by simp [nums, noHoles, HL1.out])) (nums_one _ _) ?_; intro w1 hblk ht; have hb := tou_new ht; clear ht; obtain ⟨hc_, hf_, hz_⟩ := bfacts hb; (try simp only [World.size_alloc, World.size_setCell, World.size_drew] at hc_ hf_ hz_); have hH := Lib.hid (blk_below hH.out hb); have hN := Lib.hid hblk; clear hblk)
              | (refine wpList_load_row rfl 25 (.tmp 9) rfl (_) rfl 25 _ (0, 0) _ hN.out Try.underlying25 rfl HIk1.out ?_))
            go_ret2
            exact ⟨by rw [E6.out]; rfl, by (repeat (first | with_reducible exact Below.refl _ _ | with_reducible refine below_alloc ?_ _ | with_reducible refine below_drew ?_ | with_reducible refine below_drewN ?_ _ | with_reducible refine below_then ?_ (by assumption)))⟩

end Go.Proofs.Ytcbegcekdmmjpaa
