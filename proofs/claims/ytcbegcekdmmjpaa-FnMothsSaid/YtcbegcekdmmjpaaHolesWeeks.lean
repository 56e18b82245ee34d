/- Weeks of moths: one, several, until there are so many. -/
import Derived.Test.YtcbegcekdmmjpaaHolesLater
import Derived.Test.YtcbegcekdmmjpaaMem2
namespace Go.Proofs.Ytcbegcekdmmjpaa
open Go.RowKit
set_option linter.unusedVariables false
set_option linter.unusedSimpArgs false
set_option maxRecDepth 100000

theorem c_l06Need (n : Int) (w : World) : Calls Try.prog 30 #[.int .i64 n] w fun e w' => e = .returned (.bool (inB n 1 4)) ∧ w = w' := by
  go_enter Try.func30, Try.ntmps30
  go_wp2_with (go_at_call 35; ((with_reducible refine (c_l00In _ _ _ _).mono ?_); rintro e w1 ⟨rfl, rfl⟩))
  go_ret
  exact ⟨rfl, rfl⟩
theorem c_isNeed (n : Int) (w : World) : Calls Try.prog 32 #[.int .i64 n] w fun e w' => e = .returned (.bool (inB n 1 4)) ∧ w = w' := by
  go_enter Try.func32, Try.ntmps32
  go_wp2_with (go_at_call 33; ((with_reducible refine (c_within _ _ _ _).mono ?_); rintro e w1 ⟨rfl, rfl⟩))
  go_ret
  exact ⟨rfl, rfl⟩

set_option maxHeartbeats 800000 in
theorem c_l06Weeks (hs : List Int) (need n : Int) (w : World) (h8 : Holes8 hs) (hn0 : 0 ≤ n) (hn1 : n ≤ 100) :
    Calls Try.prog 36 #[.agg (nums .u8 hs).toArray, .int .i64 need, .int .i64 n] w fun e w' => e = .returned (.agg (nums .u8 (weeks hs need n.toNat)).toArray) ∧ Below w.heap.size w w' := by
  obtain ⟨m, rfl⟩ := Int.eq_ofNat_of_zero_le hn0
  rw [Int.toNat_natCast]
  have H8 := Lib.hid h8
  have HZ : #[Value.int .u8 0, .int .u8 0, .int .u8 0, .int .u8 0, .int .u8 0, .int .u8 0, .int .u8 0, .int .u8 0] = (nums .u8 noHoles).toArray := rfl
  have HH := Lib.hid (blk_alloc (heap_alloc_new w (.cells (nums .u8 hs).toArray 25 (0, 0))) (.cells (nums .u8 noHoles).toArray 25 (0, 0)))
  have hr := heap_alloc_new (w.alloc (.cells (nums .u8 hs).toArray 25 (0, 0))) (.cells (nums .u8 noHoles).toArray 25 (0, 0))
  rw [World.size_alloc] at hr
  have HR := Lib.hid hr
  clear h8 hr hn0
  go_enter Try.func36, Try.ntmps36
  go_wp2
  go_loopw [7] (fun i wr => ∃ k : Nat, k ≤ m ∧ i = .int .i64 k ∧ Hid (wr.heap[w.heap.size]? = some (.cells (nums .u8 (weeks hs need k)).toArray 25 (0, 0))) ∧ Hid (wr.heap[w.heap.size + 1]? = some (.cells (nums .u8 noHoles).toArray 25 (0, 0))) ∧ Below w.heap.size w wr) (fun i _ => m - (intOf i).toNat)
  case atStart => exact ⟨0, by omega, rfl, HH.out, HR.out, by (repeat (first | with_reducible exact Below.refl _ _ | with_reducible refine below_alloc ?_ _ | with_reducible refine below_drew ?_ | with_reducible refine below_drewN ?_ _ | with_reducible refine below_then ?_ (by assumption)))⟩
  case round =>
    obtain ⟨k, hk, rfl, hH, hR, hB⟩ := hrel
    have b1 := blk_lt hR.out
    have HIk := Lib.hid (holes_info (weeks8 H8.out need k).len)
    have HIk1 := Lib.hid (holes_info (weeks8 H8.out need (k + 1)).len)
    by_cases hlt : k < m
    · have d1 : decide ((k : Int) < (m : Int)) = true := by simp; omega
      go_wp2_with (first
        | (go_at_call 31; ((with_reducible refine (c_l06Week w.heap.size _ _ need _ (weeks8 H8.out need k) hH.out).mono ?_); rintro e w2 ⟨rfl, hb⟩; have hH2 := Lib.hid (blk_below hH.out hb); have hR2 := Lib.hid (blk_below hR.out hb)))
        | (refine ev_store_row rfl 25 (.tmp 3) (.tmp 14) rfl (w.heap.size) ((nums .u8 (weeks hs need (k + 1))).toArray) rfl rfl 25 _ hH2.out HIk1.out ((by simp [nums, (weeks8 H8.out need k).len, (weeks8 H8.out need (k + 1)).len])) (nums_one _ _) ?_; intro w1 hblk ht; have hH3 := Lib.hid hblk; have hR3 := Lib.hid (blk_tou hR2.out ht (by omega)); clear hblk))
      go_roundw
      case rel => exact ⟨k + 1, by omega, by go_num, hH3, hR3, (hB.trans (hb.mono (by omega))).trans (ht.below (by omega))⟩
      case measure => simp [intOf]; omega
    · obtain rfl : k = m := by omega
      have d1 : decide ((k : Int) < (k : Int)) = false := by simp
      go_wp2_with (first
        | (refine wpList_load_row rfl 25 (.tmp 3) rfl (w.heap.size) rfl 25 _ (0, 0) _ hH.out Try.underlying25 rfl HIk.out ?_)
        | (refine ev_store_row rfl 25 (.tmp 6) (.tmp 15) rfl (w.heap.size + 1) ((nums .u8 (weeks hs need k)).toArray) rfl rfl 25 _ hR.out HIk.out ((by simp [nums, noHoles, (weeks8 H8.out need k).len])) (nums_one _ _) ?_; intro w1 hblk ht; have hR3 := Lib.hid hblk; clear hblk))
      refine bodyPost_ret (v := .agg (nums .u8 (weeks hs need k)).toArray) (results_cell_row rfl _ _ (w.heap.size + 1) 25 _ (0, 0) _ rfl hR3.out Try.underlying25 rfl HIk.out) rfl ⟨rfl, ?_⟩
      exact hB.trans (ht.below (by omega))

theorem weeks_bd {need : Int} {hs : List Int} (h : Holes8 hs) (n : Nat) : (nums .u8 (weeks hs need n)).toArray.size = 8 := by simp [nums, (weeks8 h need n).len]
/-- WeeksLater's answer. -/
def weeksF (hs : List Int) (need n : Int) : List Int × Int := if inB need 1 4 && inB n 0 100 then (weeks hs need n.toNat, 0) else (noHoles, 2)
theorem weeksF_yes {hs : List Int} {need n : Int} (h1 : inB need 1 4 = true) (h2 : inB n 0 100 = true) : weeksF hs need n = (weeks hs need n.toNat, 0) := by simp [weeksF, h1, h2]
theorem weeksF_no {hs : List Int} {need n : Int} (h : (inB need 1 4 && inB n 0 100) = false) : weeksF hs need n = (noHoles, 2) := by simp only [weeksF, h]; rfl
theorem weeksF8 {hs : List Int} (h : Holes8 hs) (need n : Int) : Holes8 (weeksF hs need n).1 := by
  unfold weeksF
  split
  · exact weeks8 h _ _
  · exact noHoles8
theorem inB_bd {n lo hi : Int} (h : inB n lo hi = true) : lo ≤ n ∧ n ≤ hi := by simpa [inB] using h

set_option maxHeartbeats 800000 in
theorem c_sWeeksLater (hs : List Int) (need n : Int) (w : World) (h8 : Holes8 hs) :
    Calls Try.prog 12 #[.agg (nums .u8 hs).toArray, .int .i64 need, .int .i64 n] w fun e w' => e = .returned (.tuple #[.agg (nums .u8 (weeksF hs need n).1).toArray, .int .i64 (weeksF hs need n).2]) ∧ Below w.heap.size w w' := by
  cases k1 : inB need 1 4
  · have E := Lib.hid (weeksF_no (hs := hs) (n := n) (by rw [k1]; rfl))
    go_enter Try.func12, Try.ntmps12
    go_wp2_with (first | (go_at_call 30; ((with_reducible refine (c_l06Need _ _).mono ?_); rintro e w1 ⟨rfl, rfl⟩)) | (go_at_call 35; ((with_reducible refine (c_l00In _ _ _ _).mono ?_); rintro e w1 ⟨rfl, rfl⟩)))
    exact bodyPost_ret (v := .tuple #[.agg #[.int .u8 0, .int .u8 0, .int .u8 0, .int .u8 0, .int .u8 0, .int .u8 0, .int .u8 0, .int .u8 0], .int .i64 2]) (by simp [results, Try.results12, go_sem]) rfl ⟨by rw [E.out]; rfl, by (repeat (first | with_reducible exact Below.refl _ _ | with_reducible refine below_alloc ?_ _ | with_reducible refine below_drew ?_ | with_reducible refine below_drewN ?_ _ | with_reducible refine below_then ?_ (by assumption)))⟩
  · cases k2 : inB n 0 100
    · have E := Lib.hid (weeksF_no (hs := hs) (need := need) (n := n) (by rw [k1, k2]; rfl))
      go_enter Try.func12, Try.ntmps12
      go_wp2_with (first | (go_at_call 30; ((with_reducible refine (c_l06Need _ _).mono ?_); rintro e w1 ⟨rfl, rfl⟩)) | (go_at_call 35; ((with_reducible refine (c_l00In _ _ _ _).mono ?_); rintro e w1 ⟨rfl, rfl⟩)))
      exact bodyPost_ret (v := .tuple #[.agg #[.int .u8 0, .int .u8 0, .int .u8 0, .int .u8 0, .int .u8 0, .int .u8 0, .int .u8 0, .int .u8 0], .int .i64 2]) (by simp [results, Try.results12, go_sem]) rfl ⟨by rw [E.out]; rfl, by (repeat (first | with_reducible exact Below.refl _ _ | with_reducible refine below_alloc ?_ _ | with_reducible refine below_drew ?_ | with_reducible refine below_drewN ?_ _ | with_reducible refine below_then ?_ (by assumption)))⟩
    · have E := Lib.hid (weeksF_yes (hs := hs) k1 k2)
      obtain ⟨n0, n1⟩ := inB_bd k2
      have HZ : #[Value.int .u8 0, .int .u8 0, .int .u8 0, .int .u8 0, .int .u8 0, .int .u8 0, .int .u8 0, .int .u8 0] = (nums .u8 noHoles).toArray := rfl
      have H8 := Lib.hid h8
      have HI := Lib.hid (holes_info h8.len)
      have HIW := Lib.hid (holes_info (weeks8 h8 need n.toNat).len)
      have HH := Lib.hid (blk_alloc (heap_alloc_new w (.cells (nums .u8 hs).toArray 25 (0, 0))) (.cells (nums .u8 noHoles).toArray 25 (0, 0)))
      have hr := heap_alloc_new (w.alloc (.cells (nums .u8 hs).toArray 25 (0, 0))) (.cells (nums .u8 noHoles).toArray 25 (0, 0))
      rw [World.size_alloc] at hr
      have HR := Lib.hid hr
      clear h8 hr
      go_enter Try.func12, Try.ntmps12
      go_wp2_with (first
        | (go_at_call 30; ((with_reducible refine (c_l06Need _ _).mono ?_); rintro e w1 ⟨rfl, rfl⟩))
        | (go_at_call 35; ((with_reducible refine (c_l00In _ _ _ _).mono ?_); rintro e w1 ⟨rfl, rfl⟩))
        | (refine wpList_load_row rfl 25 (.tmp 3) rfl (w.heap.size) rfl 25 _ (0, 0) _ HH.out Try.underlying25 rfl HI.out ?_)
        | (go_at_call 36; ((with_reducible refine (c_l06Weeks hs need n _ H8.out n0 n1).mono ?_); rintro e w2 ⟨rfl, hb⟩; have HR2 := Lib.hid (blk_below HR.out hb)))
        | (refine ev_store_row rfl 25 (.tmp 6) (.tmp 20) rfl (w.heap.size + 1) ((nums .u8 (weeks hs need n.toNat)).toArray) rfl rfl 25 _ HR2.out HIW.out ((by simp [nums, noHoles, (weeks8 H8.out need n.toNat).len])) (nums_one _ _) ?_; intro w1 hblk ht; have HR3 := Lib.hid hblk; clear hblk))
      refine bodyPost_ret (v := .tuple #[.agg (nums .u8 (weeks hs need n.toNat)).toArray, .int .i64 0]) (results_ct rfl _ _ (w.heap.size + 1) 25 _ (0, 0) _ rfl HR3.out Try.underlying25 rfl HIW.out rfl) rfl ⟨by rw [E.out], ?_⟩
      exact Below.trans (by (repeat (first | with_reducible exact Below.refl _ _ | with_reducible refine below_alloc ?_ _ | with_reducible refine below_drew ?_ | with_reducible refine below_drewN ?_ _ | with_reducible refine below_then ?_ (by assumption)))) (ht.below (by omega))

set_option maxHeartbeats 800000 in
theorem c_iWeeksLater (hs : List Int) (need n : Int) (w : World) (h8 : Holes8 hs) :
    Calls Try.prog 11 #[.agg (nums .u8 hs).toArray, .int .i64 need, .int .i64 n] w fun e w' => e = .returned (.tuple #[.agg (nums .u8 (weeksF hs need n).1).toArray, .int .i64 (weeksF hs need n).2]) ∧ Below w.heap.size w w' := by
  cases k1 : inB need 1 4
  · have E := Lib.hid (weeksF_no (hs := hs) (n := n) (by rw [k1]; rfl))
    go_enter Try.func11, Try.ntmps11
    go_wp2_with (first | (go_at_call 32; ((with_reducible refine (c_isNeed _ _).mono ?_); rintro e w1 ⟨rfl, rfl⟩)) | (go_at_call 33; ((with_reducible refine (c_within _ _ _ _).mono ?_); rintro e w1 ⟨rfl, rfl⟩)))
    exact bodyPost_ret (v := .tuple #[.agg #[.int .u8 0, .int .u8 0, .int .u8 0, .int .u8 0, .int .u8 0, .int .u8 0, .int .u8 0, .int .u8 0], .int .i64 2]) (by simp [results, Try.results11, go_sem]) rfl ⟨by rw [E.out]; rfl, by (repeat (first | with_reducible exact Below.refl _ _ | with_reducible refine below_alloc ?_ _ | with_reducible refine below_drew ?_ | with_reducible refine below_drewN ?_ _ | with_reducible refine below_then ?_ (by assumption)))⟩
  · cases k2 : inB n 0 100
    · have E := Lib.hid (weeksF_no (hs := hs) (need := need) (n := n) (by rw [k1, k2]; rfl))
      go_enter Try.func11, Try.ntmps11
      go_wp2_with (first | (go_at_call 32; ((with_reducible refine (c_isNeed _ _).mono ?_); rintro e w1 ⟨rfl, rfl⟩)) | (go_at_call 33; ((with_reducible refine (c_within _ _ _ _).mono ?_); rintro e w1 ⟨rfl, rfl⟩)))
      exact bodyPost_ret (v := .tuple #[.agg #[.int .u8 0, .int .u8 0, .int .u8 0, .int .u8 0, .int .u8 0, .int .u8 0, .int .u8 0, .int .u8 0], .int .i64 2]) (by simp [results, Try.results11, go_sem]) rfl ⟨by rw [E.out]; rfl, by (repeat (first | with_reducible exact Below.refl _ _ | with_reducible refine below_alloc ?_ _ | with_reducible refine below_drew ?_ | with_reducible refine below_drewN ?_ _ | with_reducible refine below_then ?_ (by assumption)))⟩
    · have E := Lib.hid (weeksF_yes (hs := hs) k1 k2)
      obtain ⟨n0, n1⟩ := inB_bd k2
      have HZ : #[Value.int .u8 0, .int .u8 0, .int .u8 0, .int .u8 0, .int .u8 0, .int .u8 0, .int .u8 0, .int .u8 0] = (nums .u8 noHoles).toArray := rfl
      obtain ⟨m, rfl⟩ := Int.eq_ofNat_of_zero_le n0
      rw [Int.toNat_natCast] at E
      have H8 := Lib.hid h8
      have HH := Lib.hid (blk_alloc (heap_alloc_new w (.cells (nums .u8 hs).toArray 25 (0, 0))) (.cells (nums .u8 noHoles).toArray 25 (0, 0)))
      have hr := heap_alloc_new (w.alloc (.cells (nums .u8 hs).toArray 25 (0, 0))) (.cells (nums .u8 noHoles).toArray 25 (0, 0))
      rw [World.size_alloc] at hr
      have HR := Lib.hid hr
      clear h8 hr
      go_enter Try.func11, Try.ntmps11
      go_wp2_with (first
        | (go_at_call 32; ((with_reducible refine (c_isNeed _ _).mono ?_); rintro e w1 ⟨rfl, rfl⟩))
        | (go_at_call 33; ((with_reducible refine (c_within _ _ _ _).mono ?_); rintro e w1 ⟨rfl, rfl⟩)))
      go_loopw [18] (fun i wr => ∃ k : Nat, k ≤ m ∧ i = .int .i64 k ∧ Hid (wr.heap[w.heap.size]? = some (.cells (nums .u8 (weeks hs need k)).toArray 25 (0, 0))) ∧ Hid (wr.heap[w.heap.size + 1]? = some (.cells (nums .u8 noHoles).toArray 25 (0, 0))) ∧ Below w.heap.size w wr) (fun i _ => m - (intOf i).toNat)
      case atStart => exact ⟨0, by omega, rfl, HH.out, HR.out, by (repeat (first | with_reducible exact Below.refl _ _ | with_reducible refine below_alloc ?_ _ | with_reducible refine below_drew ?_ | with_reducible refine below_drewN ?_ _ | with_reducible refine below_then ?_ (by assumption)))⟩
      case round =>
        obtain ⟨k, hk, rfl, hH, hR, hB⟩ := hrel
        have b1 := blk_lt hR.out
        have HIk := Lib.hid (holes_info (weeks8 H8.out need k).len)
        have HIk1 := Lib.hid (holes_info (weeks8 H8.out need (k + 1)).len)
        by_cases hlt : k < m
        · have d1 : decide ((k : Int) < (m : Int)) = true := by simp; omega
          go_wp2_with (first
            | (refine wpList_load_row rfl 25 (.tmp 3) rfl (w.heap.size) rfl 25 _ (0, 0) _ hH.out Try.underlying25 rfl HIk.out ?_)
            | (go_at_call 34; ((with_reducible refine (c_later _ need _ (weeks8 H8.out need k)).mono ?_); rintro e w2 ⟨rfl, hb⟩; have hH2 := Lib.hid (blk_below hH.out hb); have hR2 := Lib.hid (blk_below hR.out hb)))
            | (refine ev_store_row rfl 25 (.tmp 3) (.tmp 22) rfl (w.heap.size) ((nums .u8 (weeks hs need (k + 1))).toArray) rfl rfl 25 _ hH2.out HIk1.out ((by simp [nums, (weeks8 H8.out need k).len, (weeks8 H8.out need (k + 1)).len])) (nums_one _ _) ?_; intro w1 hblk ht; have hH3 := Lib.hid hblk; have hR3 := Lib.hid (blk_tou hR2.out ht (by omega)); clear hblk))
          go_roundw
          case rel => exact ⟨k + 1, by omega, by go_num, hH3, hR3, (hB.trans (hb.mono (by omega))).trans (ht.below (by omega))⟩
          case measure => simp [intOf]; omega
        · obtain rfl : k = m := by omega
          have d1 : decide ((k : Int) < (k : Int)) = false := by simp
          go_wp2_with (first
            | (refine wpList_load_row rfl 25 (.tmp 3) rfl (w.heap.size) rfl 25 _ (0, 0) _ hH.out Try.underlying25 rfl HIk.out ?_)
            | (refine ev_store_row rfl 25 (.tmp 6) (.tmp 24) rfl (w.heap.size + 1) ((nums .u8 (weeks hs need k)).toArray) rfl rfl 25 _ hR.out HIk.out ((by simp [nums, noHoles, (weeks8 H8.out need k).len])) (nums_one _ _) ?_; intro w1 hblk ht; have hR3 := Lib.hid hblk; clear hblk))
          refine bodyPost_ret (v := .tuple #[.agg (nums .u8 (weeks hs need k)).toArray, .int .i64 0]) (results_ct rfl _ _ (w.heap.size + 1) 25 _ (0, 0) _ rfl hR3.out Try.underlying25 rfl HIk.out rfl) rfl ⟨by rw [E.out], ?_⟩
          exact hB.trans (ht.below (by omega))

theorem weeksF_one (hs : List Int) (need : Int) : weeksF hs need 1 = if inB need 1 4 then (week hs need, 0) else (noHoles, 2) := by
  unfold weeksF
  have : inB 1 0 100 = true := by decide
  rw [this, Bool.and_true]
  rfl
set_option maxHeartbeats 800000 in
theorem c_sWeekLater (hs : List Int) (need : Int) (w : World) (h8 : Holes8 hs) :
    Calls Try.prog 10 #[.agg (nums .u8 hs).toArray, .int .i64 need] w fun e w' => e = .returned (.tuple #[.agg (nums .u8 (weeksF hs need 1).1).toArray, .int .i64 (weeksF hs need 1).2]) ∧ Below w.heap.size w w' := by
  have E := Lib.hid (weeksF_one hs need)
  cases k1 : inB need 1 4
  · go_enter Try.func10, Try.ntmps10
    go_wp2_with (go_at_call 30; ((with_reducible refine (c_l06Need _ _).mono ?_); rintro e w1 ⟨rfl, rfl⟩))
    exact bodyPost_ret (v := .tuple #[.agg #[.int .u8 0, .int .u8 0, .int .u8 0, .int .u8 0, .int .u8 0, .int .u8 0, .int .u8 0, .int .u8 0], .int .i64 2]) (by simp [results, Try.results10, go_sem]) rfl ⟨by rw [E.out, k1]; rfl, by (repeat (first | with_reducible exact Below.refl _ _ | with_reducible refine below_alloc ?_ _ | with_reducible refine below_drew ?_ | with_reducible refine below_drewN ?_ _ | with_reducible refine below_then ?_ (by assumption)))⟩
  · have HZ : #[Value.int .u8 0, .int .u8 0, .int .u8 0, .int .u8 0, .int .u8 0, .int .u8 0, .int .u8 0, .int .u8 0] = (nums .u8 noHoles).toArray := rfl
    have H8 := Lib.hid h8
    have HIW := Lib.hid (holes_info (week8 hs need).len)
    have HH := Lib.hid (blk_alloc (heap_alloc_new w (.cells (nums .u8 hs).toArray 25 (0, 0))) (.cells (nums .u8 noHoles).toArray 25 (0, 0)))
    have hr := heap_alloc_new (w.alloc (.cells (nums .u8 hs).toArray 25 (0, 0))) (.cells (nums .u8 noHoles).toArray 25 (0, 0))
    rw [World.size_alloc] at hr
    have HR := Lib.hid hr
    clear h8 hr
    go_enter Try.func10, Try.ntmps10
    go_wp2_with (first
      | (go_at_call 30; ((with_reducible refine (c_l06Need _ _).mono ?_); rintro e w1 ⟨rfl, rfl⟩))
      | (go_at_call 31; ((with_reducible refine (c_l06Week w.heap.size _ hs need _ H8.out HH.out).mono ?_); rintro e w2 ⟨rfl, hb⟩; have HR2 := Lib.hid (blk_below HR.out hb)))
      | (refine ev_store_row rfl 25 (.tmp 4) (.tmp 11) rfl (w.heap.size + 1) ((nums .u8 (week hs need)).toArray) rfl rfl 25 _ HR2.out HIW.out ((by simp [nums, noHoles, (week8 hs need).len])) (nums_one _ _) ?_; intro w1 hblk ht; have HR3 := Lib.hid hblk; clear hblk))
    refine bodyPost_ret (v := .tuple #[.agg (nums .u8 (week hs need)).toArray, .int .i64 0]) (results_ct rfl _ _ (w.heap.size + 1) 25 _ (0, 0) _ rfl HR3.out Try.underlying25 rfl HIW.out rfl) rfl ⟨by rw [E.out, k1]; rfl, ?_⟩
    exact Below.trans (by (repeat (first | with_reducible exact Below.refl _ _ | with_reducible refine below_alloc ?_ _ | with_reducible refine below_drew ?_ | with_reducible refine below_drewN ?_ _ | with_reducible refine below_then ?_ (by assumption)))) (ht.below (by omega))
set_option maxHeartbeats 800000 in
theorem c_iWeekLater (hs : List Int) (need : Int) (w : World) (h8 : Holes8 hs) :
    Calls Try.prog 9 #[.agg (nums .u8 hs).toArray, .int .i64 need] w fun e w' => e = .returned (.tuple #[.agg (nums .u8 (weeksF hs need 1).1).toArray, .int .i64 (weeksF hs need 1).2]) ∧ Below w.heap.size w w' := by
  have HZ : #[Value.int .u8 0, .int .u8 0, .int .u8 0, .int .u8 0, .int .u8 0, .int .u8 0, .int .u8 0, .int .u8 0] = (nums .u8 noHoles).toArray := rfl
  have H8 := Lib.hid h8
  have HI := Lib.hid (holes_info h8.len)
  have HIW := Lib.hid (holes_info (weeksF8 h8 need 1).len)
  have HL := Lib.hid (weeksF8 h8 need 1).len
  have HH := Lib.hid (blk_alloc (heap_alloc_new w (.cells (nums .u8 hs).toArray 25 (0, 0))) (.cells (nums .u8 noHoles).toArray 25 (0, 0)))
  have hr := heap_alloc_new (w.alloc (.cells (nums .u8 hs).toArray 25 (0, 0))) (.cells (nums .u8 noHoles).toArray 25 (0, 0))
  rw [World.size_alloc] at hr
  have HR := Lib.hid hr
  clear h8 hr
  go_enter Try.func9, Try.ntmps9
  go_wp2_with (first
    | (refine wpList_load_row rfl 25 (.tmp 2) rfl (w.heap.size) rfl 25 _ (0, 0) _ HH.out Try.underlying25 rfl HI.out ?_)
    | (go_at_call 11; ((with_reducible refine (c_iWeeksLater hs need 1 _ H8.out).mono ?_); rintro e w2 ⟨rfl, hb⟩; have HR2 := Lib.hid (blk_below HR.out hb)))
    | (refine ev_store_row rfl 25 (.tmp 4) (.tmp 9) rfl (w.heap.size + 1) ((nums .u8 (weeksF hs need 1).1).toArray) rfl rfl 25 _ HR2.out HIW.out ((by simp [nums, noHoles, HL.out])) (nums_one _ _) ?_; intro w1 hblk ht; have HR3 := Lib.hid hblk; clear hblk))
  refine bodyPost_ret (v := .tuple #[.agg (nums .u8 (weeksF hs need 1).1).toArray, .int .i64 (weeksF hs need 1).2]) (results_ct rfl _ _ (w.heap.size + 1) 25 _ (0, 0) _ rfl HR3.out Try.underlying25 rfl HIW.out rfl) rfl ⟨rfl, ?_⟩
  exact Below.trans (by (repeat (first | with_reducible exact Below.refl _ _ | with_reducible refine below_alloc ?_ _ | with_reducible refine below_drew ?_ | with_reducible refine below_drewN ?_ _ | with_reducible refine below_then ?_ (by assumption)))) (ht.below (by omega))

def staysF (hs : List Int) (need : Int) : Bool × Int := if inB need 1 4 then (week hs need == hs, 0) else (false, 2)
set_option maxHeartbeats 800000 in
theorem c_iStaysFor (hs : List Int) (need : Int) (w : World) (h8 : Holes8 hs) :
    Calls Try.prog 15 #[.agg (nums .u8 hs).toArray, .int .i64 need] w fun e w' => e = .returned (.tuple #[.bool (staysF hs need).1, .int .i64 (staysF hs need).2]) ∧ Below w.heap.size w w' := by
  cases k1 : inB need 1 4
  · have E : Hid (staysF hs need = (false, 2)) := by simp [Hid, staysF, k1]
    go_enter Try.func15, Try.ntmps15
    go_wp2_with (go_at_call 32; ((with_reducible refine (c_isNeed _ _).mono ?_); rintro e w1 ⟨rfl, rfl⟩))
    go_ret2
    exact ⟨by rw [E.out]; rfl, by (repeat (first | with_reducible exact Below.refl _ _ | with_reducible refine below_alloc ?_ _ | with_reducible refine below_drew ?_ | with_reducible refine below_drewN ?_ _ | with_reducible refine below_then ?_ (by assumption)))⟩
  · have E : Hid (staysF hs need = (week hs need == hs, 0)) := by simp [Hid, staysF, k1]
    have H8 := Lib.hid h8
    have he := fun w => run_equalIn_nums (P := Try.prog) w 9998 25 5 8 .u8 Try.underlying25 Try.underlying5 (by kernel_rfl) (week hs need) hs (week8 hs need).len h8.len
    have hn8 := (nums_eight (k := .u8) h8.len).symm
    have hh := heap_alloc_new w (.cells (nums .u8 hs).toArray 25 (0, 0))
    have e0 := nums_cell hh 0 (by rw [h8.len]; omega)
    have e1 := nums_cell hh 1 (by rw [h8.len]; omega)
    have e2 := nums_cell hh 2 (by rw [h8.len]; omega)
    have e3 := nums_cell hh 3 (by rw [h8.len]; omega)
    have e4 := nums_cell hh 4 (by rw [h8.len]; omega)
    have e5 := nums_cell hh 5 (by rw [h8.len]; omega)
    have e6 := nums_cell hh 6 (by rw [h8.len]; omega)
    have e7 := nums_cell hh 7 (by rw [h8.len]; omega)
    clear h8
    go_enter Try.func15, Try.ntmps15
    go_wp2_with (go_at_call 32; ((with_reducible refine (c_isNeed _ _).mono ?_); rintro e w1 ⟨rfl, rfl⟩))
    have HB0 : Hid (Below w.heap.size w (w.alloc (.cells (nums .u8 hs).toArray 25 (0, 0)))) := below_alloc (Below.refl _ _) _
    generalize w.alloc (.cells (nums .u8 hs).toArray 25 (0, 0)) = wa at *
    have z0 := blk_lt hh
    go_region_held3 (fun w' => w'.cell? ⟨w.heap.size, 0, none⟩ = some (.int .u8 (gi hs 0)) ∧ w'.cell? ⟨w.heap.size, 1, none⟩ = some (.int .u8 (gi hs 1)) ∧ w'.cell? ⟨w.heap.size, 2, none⟩ = some (.int .u8 (gi hs 2)) ∧ w'.cell? ⟨w.heap.size, 3, none⟩ = some (.int .u8 (gi hs 3)) ∧ w'.cell? ⟨w.heap.size, 4, none⟩ = some (.int .u8 (gi hs 4)) ∧ w'.cell? ⟨w.heap.size, 5, none⟩ = some (.int .u8 (gi hs 5)) ∧ w'.cell? ⟨w.heap.size, 6, none⟩ = some (.int .u8 (gi hs 6)) ∧ w'.cell? ⟨w.heap.size, 7, none⟩ = some (.int .u8 (gi hs 7))) (simp [*, go_sem])
      (first | (go_at_call 34; ((with_reducible refine (c_later hs need _ H8.out).mono ?_); rintro e w2 ⟨rfl, hb⟩; obtain ⟨hc_, hf_, hz_⟩ := bfacts hb; (try simp only [World.size_drew] at hc_ hf_ hz_))))
    go_wp2
    go_ret2
    exact ⟨by rw [E.out]; rfl, below_then HB0.out (below_then (below_drew (Below.refl _ _)) hb)⟩

end Go.Proofs.Ytcbegcekdmmjpaa
