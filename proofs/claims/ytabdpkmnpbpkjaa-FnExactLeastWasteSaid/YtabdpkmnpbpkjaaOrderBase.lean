/- Orders in a slice. -/
import Derived.Test.YtabdpkmnpbpkjaaLotBase
namespace Go.Proofs.Ytabdpkmnpbpkjaa
open Go.RowKit
set_option linter.unusedVariables false
set_option linter.unusedSimpArgs false
set_option maxRecDepth 100000

set_option maxHeartbeats 800000 in
theorem c_l07Orders (A : Option Addr) (n c : Nat) (s g : Nat → Int) (w : World) (h : LotsAt w A n s g) (hn : n ≤ 1048576) (hg : ∀ j, j < n → -32768 ≤ g j ∧ g j ≤ 32767) :
    Calls Try.prog 47 #[.slice A n c] w fun e w' => e = .returned (.bool (allB n (fun j => shade (s j) && inB (g j) 1 5000) && decide (n ≤ 7))) ∧ w = w' := by
  have H := Lib.hid h
  have HG := Lib.hid hg
  clear h hg
  go_enter Try.func47, Try.ntmps47
  go_wp2
  go_loop [3] (fun i => ∃ k : Nat, k ≤ n ∧ i = .int .i64 k ∧ Hid (allB k (fun j => shade (s j) && inB (g j) 1 5000) = true)) (fun i => n - (intOf i).toNat)
  case atStart => exact ⟨0, by omega, rfl, rfl⟩
  case round =>
    obtain ⟨k, hk, rfl, hI⟩ := hrel
    by_cases hlt : k < n
    · have d1 : decide ((k : Int) < (n : Int)) = true := by simp; omega
      obtain ⟨ad, rfl, c0, c1⟩ := H.out.at_ k hlt
      obtain ⟨g0, g1⟩ := HG.out k hlt
      have k0 : (0 : Int) ≤ (k : Int) := by omega
      have k1 : (k : Int) < (n : Int) := by omega
      cases q1 : shade (s k)
      · have E := Lib.hid (allB_stop (p := fun j => shade (s j) && inB (g j) 1 5000) (k := k) (n := n) (by simp [q1]) hlt)
        go_wp2_with (first | (go_at_call 80; ((with_reducible refine (c_l07Shade _ _).mono ?_); rintro e w1 ⟨rfl, rfl⟩)) | (go_at_call 65; ((with_reducible refine (c_l00In _ _ _ _).mono ?_); rintro e w1 ⟨rfl, rfl⟩)))
        go_ret
        exact ⟨by rw [E.out]; rfl, rfl⟩
      · cases q2 : inB (g k) 1 5000
        · have E := Lib.hid (allB_stop (p := fun j => shade (s j) && inB (g j) 1 5000) (k := k) (n := n) (by simp [q2]) hlt)
          go_wp2_with (first | (go_at_call 80; ((with_reducible refine (c_l07Shade _ _).mono ?_); rintro e w1 ⟨rfl, rfl⟩)) | (go_at_call 65; ((with_reducible refine (c_l00In _ _ _ _).mono ?_); rintro e w1 ⟨rfl, rfl⟩)))
          go_ret
          exact ⟨by rw [E.out]; rfl, rfl⟩
        · have E : Hid (allB (k + 1) (fun j => shade (s j) && inB (g j) 1 5000) = true) := by rw [Hid, allB, hI.out, q1, q2]; rfl
          go_wp2_with (first | (go_at_call 80; ((with_reducible refine (c_l07Shade _ _).mono ?_); rintro e w1 ⟨rfl, rfl⟩)) | (go_at_call 65; ((with_reducible refine (c_l00In _ _ _ _).mono ?_); rintro e w1 ⟨rfl, rfl⟩)))
          go_round
          case rel => exact ⟨k + 1, by omega, by go_num, E⟩
          case measure => simp [intOf]; omega
    · obtain rfl : k = n := by omega
      have d1 : decide ((k : Int) < (k : Int)) = false := by simp
      go_wp2
      go_ret
      exact ⟨by rw [hI.out, Bool.true_and, show decide (k ≤ 7) = decide ((k : Int) ≤ 7) by simp; omega]; rfl, rfl⟩

theorem c_szOrderS (A : Option Addr) (n c : Nat) (w : World) (hn : n ≤ 9223372036854775807) :
    Calls Try.prog 11 #[.slice A n c, .int .i64 1048576] w fun e w' => e = .returned (.int .i64 (if n ≤ 1048576 then 1048576 - (n : Int) else -1)) ∧ w = w' := by
  by_cases h : n ≤ 1048576
  · have E : Hid ((if n ≤ 1048576 then 1048576 - (n : Int) else -1) = 1048576 - (n : Int)) := by rw [Hid, if_pos h]
    have d : decide ((1048576 : Int) - (n : Int) < 0) = false := by simp; omega
    go_enter Try.func11, Try.ntmps11
    go_wp2
    go_ret
    exact ⟨by first | rfl | (rw [E.out]; rfl), rfl⟩
  · have E : Hid ((if n ≤ 1048576 then 1048576 - (n : Int) else -1) = -1) := by rw [Hid, if_neg h]
    have d : decide ((1048576 : Int) - (n : Int) < 0) = true := by simp; omega
    go_enter Try.func11, Try.ntmps11
    go_wp2
    go_ret
    exact ⟨by first | rfl | (rw [E.out]; rfl), rfl⟩
theorem c_toOrder (a b : Int) (w : World) :
    Calls Try.prog 49 #[.agg #[.int .i8 a, .int .i16 b]] w fun e w' => e = .returned (.agg #[.int .i8 a, .int .i16 b]) ∧ Below w.heap.size w w' := by
  go_enter Try.func49, Try.ntmps49
  go_wp2
  exact bodyPost_ret (v := .agg #[.int .i8 a, .int .i16 b]) (by simp [results, Try.results49, go_sem]) rfl ⟨rfl, by (repeat (first | with_reducible exact Below.refl _ _ | with_reducible refine below_alloc ?_ _ | with_reducible refine below_drew ?_ | with_reducible refine below_drewN ?_ _ | with_reducible refine below_then ?_ (by assumption)))⟩
theorem c_eqOrder (a b : Int) (w : World) :
    Calls Try.prog 53 #[.agg #[.int .i8 a, .int .i16 b], .agg #[.int .i8 a, .int .i16 b]] w fun e w' => e = .returned (.bool true) ∧ Below w.heap.size w w' := by
  go_enter Try.func53, Try.ntmps53
  go_wp2
  go_ret
  exact ⟨rfl, by (repeat (first | with_reducible exact Below.refl _ _ | with_reducible refine below_alloc ?_ _ | with_reducible refine below_drew ?_ | with_reducible refine below_drewN ?_ _ | with_reducible refine below_then ?_ (by assumption)))⟩
set_option maxHeartbeats 800000 in
theorem c_toOrderR (A : Option Addr) (n c : Nat) (s g : Nat → Int) (w : World) (h : LotsAt w A n s g) (hn : n ≤ 1048576) :
    Calls Try.prog 14 #[.slice A n c] w fun e w' => ∃ arr : Array Value, e = .returned (.slice (some ⟨w.heap.size, 0, none⟩) n n) ∧ arr.size = n * 2 ∧ w'.heap[w.heap.size]? = some (.cells arr 63 (0, 0)) ∧ (∀ j, j < n → arr[j * 2]? = some (.int .i8 (s j)) ∧ arr[j * 2 + 1]? = some (.int .i16 (g j))) ∧ Below w.heap.size w w' := by
  have H := Lib.hid h
  clear h
  have hmk : ∀ w : World, (Instr.makeSlice 31 (.int .i64 (n : Int)) (.int .i64 (n : Int))).run Try.prog w = .ok (.slice (some ⟨w.heap.size, 0, none⟩) n n) (w.alloc (.cells (madeCells #[.int .i8 0, .int .i16 0] (n * 2)) 63)) := fun w => by
    have hinfo : (Try.prog.info? 63).map (fun i => (i.zero, i.size, i.bytes)) = some (some (.agg #[.int .i8 0, .int .i16 0]), 2, 4) := by kernel_rfl
    obtain ⟨i, hi, hzz⟩ := Option.map_eq_some_iff.1 hinfo
    simp only [Prod.mk.injEq] at hzz
    obtain ⟨hz, hs, hb⟩ := hzz
    have := run_make (P := Try.prog) w 31 63 i _ Try.underlying31 hi hz .i64 .i64 (n : Int) (n : Int) (by omega) (Int.le_refl _) (by rw [hb]; omega) (by omega)
    rw [hs, Int.toNat_natCast] at this
    exact this
  have HMK := Lib.hid (heap_alloc_new w (.cells (madeCells #[.int .i8 0, .int .i16 0] (n * 2)) 63 (0, 0)))
  have hms : (madeCells #[Value.int .i8 0, .int .i16 0] (n * 2)).size = n * 2 := size_madeCells _ _
  generalize hM : madeCells #[Value.int .i8 0, .int .i16 0] (n * 2) = M at *
  go_enter Try.func14, Try.ntmps14
  go_wp2
  go_loopw [4] (fun i wr => ∃ k : Nat, k ≤ n ∧ i = .int .i64 k ∧ Hid (∃ arr : Array Value, arr.size = n * 2 ∧ wr.heap[w.heap.size]? = some (.cells arr 63 (0, 0)) ∧ ∀ j, j < k → arr[j * 2]? = some (.int .i8 (s j)) ∧ arr[j * 2 + 1]? = some (.int .i16 (g j))) ∧ Hid (Below w.heap.size w wr)) (fun i _ => n - (intOf i).toNat)
  case atStart => exact ⟨0, by omega, rfl, ⟨M, hms, HMK.out, fun j hj => by omega⟩, by show Below w.heap.size w _; (repeat (first | with_reducible exact Below.refl _ _ | with_reducible refine below_alloc ?_ _ | with_reducible refine below_drew ?_ | with_reducible refine below_drewN ?_ _ | with_reducible refine below_then ?_ (by assumption)))⟩
  case round =>
    obtain ⟨k, hk, rfl, hI, hB⟩ := hrel
    by_cases hlt : k < n
    · have d1 : decide ((k : Int) < (n : Int)) = true := by simp; omega
      obtain ⟨ad, rfl, c0, c1⟩ := (H.out.below hB.out).at_ k hlt
      obtain ⟨arr, hs, hA, hC⟩ := hI.out
      have HA := Lib.hid hA
      have HC := Lib.hid hC
      have k0 : (0 : Int) ≤ (k : Int) := by omega
      have k1 : (k : Int) < (n : Int) := by omega
      have hs1 := Lib.hid hs
      obtain ⟨u0, hu0⟩ : ∃ u, arr[k * 2]? = some u := ⟨arr[k * 2]'(by omega), by simp⟩
      obtain ⟨u1, hu1⟩ : ∃ u, arr[k * 2 + 1]? = some u := ⟨arr[k * 2 + 1]'(by omega), by simp⟩
      have HU0 := Lib.hid hu0
      have HU1 := Lib.hid hu1
      clear hI hA hC hs hu0 hu1
      go_wp2_with (go_at_call 49; ((with_reducible refine (c_toOrder _ _ _).mono ?_); rintro e w1 ⟨rfl, hb⟩; have HA1 := Lib.hid (blk_below HA.out hb); have x0 := (cell_of_row w1 w.heap.size (k * 2) _ _ _ HA1.out).trans HU0.out; have x1 := (cell_of_row w1 w.heap.size (k * 2 + 1) _ _ _ HA1.out).trans HU1.out; have f0 := blk_frozen HA1.out (k * 2); have f1 := blk_frozen HA1.out (k * 2 + 1)))
      go_roundw
      case rel =>
        obtain ⟨z0, z1⟩ := rows2 hs1.out hlt HC.out
        exact ⟨k + 1, by omega, by go_num, ⟨_, z0, blk_set (blk_set HA1.out (k * 2) _) (k * 2 + 1) _, z1⟩, ((Below.trans hB.out (hb.mono hB.out.size)).setCell (by simp) _).setCell (by simp) _⟩
      case measure => simp [intOf]; omega
    · obtain rfl : k = n := by omega
      have d1 : decide ((k : Int) < (k : Int)) = false := by simp
      go_wp2
      go_ret
      obtain ⟨arr, hs, hA, hC⟩ := hI.out
      exact ⟨arr, rfl, hs, hA, hC, hB.out⟩
theorem c_toOrderS (A : Option Addr) (n c : Nat) (s g : Nat → Int) (w : World) (h : LotsAt w A n s g) (hn : n ≤ 1048576) :
    Calls Try.prog 14 #[.slice A n c] w fun e w' => ∃ b, e = .returned (.slice (some ⟨b, 0, none⟩) n n) ∧ LotsAt w' (some ⟨b, 0, none⟩) n s g ∧ Below w.heap.size w w' := by
  refine (c_toOrderR A n c s g w h hn).mono ?_
  rintro e w1 ⟨arr, rfl, hs, hA, hC, hb⟩
  exact ⟨_, rfl, LotsAt.of_row hA hC, hb⟩

set_option maxHeartbeats 800000 in
theorem c_eqOrderS (A B : Option Addr) (n c c' : Nat) (s g : Nat → Int) (w : World) (h : LotsAt w A n s g) (h' : LotsAt w B n s g) (hn : n ≤ 1048576) :
    Calls Try.prog 18 #[.slice A n c, .slice B n c'] w fun e w' => e = .returned (.bool true) ∧ Below w.heap.size w w' := by
  have H := Lib.hid h
  have H' := Lib.hid h'
  clear h h'
  go_enter Try.func18, Try.ntmps18
  go_wp2
  go_loopw [5] (fun i wr => ∃ k : Nat, k ≤ n ∧ i = .int .i64 k ∧ Hid (Below w.heap.size w wr)) (fun i _ => n - (intOf i).toNat)
  case atStart => exact ⟨0, by omega, rfl, Below.refl _ _⟩
  case round =>
    obtain ⟨k, hk, rfl, hB⟩ := hrel
    by_cases hlt : k < n
    · have d1 : decide ((k : Int) < (n : Int)) = true := by simp; omega
      obtain ⟨ad, rfl, c0, c1⟩ := (H.out.below hB.out).at_ k hlt
      obtain ⟨ad', rfl, c0', c1'⟩ := (H'.out.below hB.out).at_ k hlt
      have k0 : (0 : Int) ≤ (k : Int) := by omega
      have k1 : (k : Int) < (n : Int) := by omega
      go_wp2
      go_still_tail 8, (by kernel_rfl)
      change wpList _ _ _ _ _ wr.drew
      have HBd : Hid (Below w.heap.size w wr.drew) := below_drew hB.out
      clear c0 c1 c0' c1'
      generalize wr.drew = wd at *
      go_wp2_with (go_at_call 53; ((with_reducible refine (c_eqOrder _ _ _).mono ?_); rintro e w1 ⟨rfl, hb⟩))
      go_roundw
      case rel => exact ⟨k + 1, by omega, by go_num, Below.trans HBd.out (hb.mono HBd.out.size)⟩
      case measure => simp [intOf]; omega
    · obtain rfl : k = n := by omega
      have d1 : decide ((k : Int) < (k : Int)) = false := by simp
      go_wp2
      go_ret
      exact ⟨rfl, hB.out⟩

set_option maxHeartbeats 800000 in
theorem c_indexOrder (F : Nat) (caps : Array Value) (he : ∀ args w, (callFunc F args).run Try.prog w = .ok (.enter F args) w) (q : Nat → Bool) (A : Option Addr) (n c : Nat) (s g : Nat → Int) (w : World) (h : LotsAt w A n s g) (hn : n ≤ 1048576)
    (hstep : ∀ j, j < n → ∀ w1, Below w.heap.size w w1 → Calls Try.prog F (#[.agg #[.int .i8 (s j), .int .i16 (g j)]] ++ caps) w1 fun e w2 => e = .returned (.bool (q j)) ∧ Below w1.heap.size w1 w2) :
    Calls Try.prog 101 #[.slice A n c, .func (.func F) #[] caps] w fun e w' => ∃ z : Int, e = .returned (.int .i64 z) ∧ decide (0 ≤ z) = (!(allB n fun j => !q j)) ∧ Below w.heap.size w w' := by
  have H := Lib.hid h
  have HS := Lib.hid hstep
  clear h hstep
  go_enter Try.func101, Try.ntmps101
  go_wp2
  go_loopw [8] (fun i wr => ∃ k : Nat, k ≤ n ∧ i = .int .i64 k ∧ Hid (allB k (fun j => !q j) = true) ∧ Hid (Below w.heap.size w wr)) (fun i _ => n - (intOf i).toNat)
  case atStart => exact ⟨0, by omega, rfl, rfl, Below.refl _ _⟩
  case round =>
    obtain ⟨k, hk, rfl, hI, hB⟩ := hrel
    by_cases hlt : k < n
    · have d1 : decide ((k : Int) < (n : Int)) = true := by simp; omega
      obtain ⟨ad, rfl, c0, c1⟩ := (H.out.below hB.out).at_ k hlt
      have k0 : (0 : Int) ≤ (k : Int) := by omega
      have k1 : (k : Int) < (n : Int) := by omega
      go_wp2
      refine (HS.out k hlt wr hB.out).mono ?_
      rintro e w1 ⟨rfl, hb⟩
      have hB1 := Lib.hid (Below.trans hB.out (hb.mono hB.out.size))
      cases hq : q k
      · have E : Hid (allB (k + 1) (fun j => !q j) = true) := by rw [Hid, allB, hI.out, hq]; rfl
        go_wp2
        go_roundw
        case rel => exact ⟨k + 1, by omega, by go_num, E, hB1⟩
        case measure => simp [intOf]; omega
      · have E := Lib.hid (allB_stop (p := fun j => !q j) (k := k) (n := n) (by simp [hq]) hlt)
        go_wp2
        go_ret
        exact ⟨_, rfl, by rw [E.out]; simp, hB1.out⟩
    · obtain rfl : k = n := by omega
      have d1 : decide ((k : Int) < (k : Int)) = false := by simp
      go_wp2
      go_ret
      exact ⟨_, rfl, by rw [hI.out]; rfl, hB.out⟩
end Go.Proofs.Ytabdpkmnpbpkjaa
