/- Moves in a slice. -/
import Derived.Test.YtdcemmhfbfogdaaDoorLotBase
namespace Go.Proofs.YtdcemmhfbfogdaaDoor
open Go.RowKit
set_option linter.unusedVariables false
set_option linter.unusedSimpArgs false
set_option maxRecDepth 100000

def mayMove (a b : Int) : Bool := (a == 0 && (b == 1 || b == 3)) || (a == 1 && (b == 2 || b == 3 || b == 4)) || (a == 2 && (b == 3 || b == 4))
theorem c_sMayMove (a b : Int) (w : World) : Calls Tryd.prog 62 #[.int .i64 a, .int .i64 b] w fun e w' => e = .returned (.bool (mayMove a b)) ∧ w = w' := by
  by_cases h0 : a = 0
  · subst h0
    go_enter Tryd.func62, Tryd.ntmps62
    go_wp2
    all_goals go_ret
    all_goals simp_all [mayMove]
  · by_cases h1 : a = 1
    · subst h1
      go_enter Tryd.func62, Tryd.ntmps62
      go_wp2
      all_goals go_ret
      all_goals simp_all [mayMove]
    · by_cases h2 : a = 2
      · subst h2
        go_enter Tryd.func62, Tryd.ntmps62
        go_wp2
        all_goals go_ret
        all_goals simp_all [mayMove]
      · go_enter Tryd.func62, Tryd.ntmps62
        go_wp2
        all_goals go_ret
        all_goals simp_all [mayMove]
theorem c_iMayMove (a b : Int) (w : World) : Calls Tryd.prog 60 #[.int .i64 a, .int .i64 b] w fun e w' => e = .returned (.bool (mayMove a b)) ∧ w = w' := by
  by_cases h0 : a = 0
  · subst h0
    go_enter Tryd.func60, Tryd.ntmps60
    go_wp2
    all_goals go_ret
    all_goals simp_all [mayMove]
  · by_cases h1 : a = 1
    · subst h1
      have e : inB b 2 4 = mayMove 1 b := by
        unfold inB mayMove
        rw [Bool.eq_iff_iff]
        simp
        omega
      go_enter Tryd.func60, Tryd.ntmps60
      go_wp2_with (go_at_call 61; ((with_reducible refine (c_within _ _ _ _).mono ?_); rintro e w1 ⟨rfl, rfl⟩))
      all_goals go_ret
      all_goals exact ⟨rfl, rfl⟩
    · by_cases h2 : a = 2
      · subst h2
        go_enter Tryd.func60, Tryd.ntmps60
        go_wp2
        all_goals go_ret
        all_goals simp_all [mayMove]
      · go_enter Tryd.func60, Tryd.ntmps60
        go_wp2
        all_goals go_ret
        all_goals simp_all [mayMove]

/-- n lots lie at A. -/
structure MovesAt (w : World) (A : Option Addr) (n : Nat) (s t g : Nat → Int) : Prop where
  at_ : ∀ j, j < n → ∃ ad, A = some ad ∧ w.cell? (ad.add (j * 3)) = some (.int .i8 (s j)) ∧ w.cell? ⟨(ad.add (j * 3)).block, (ad.add (j * 3)).off + 1, none⟩ = some (.int .i8 (t j)) ∧ w.cell? ⟨(ad.add (j * 3)).block, (ad.add (j * 3)).off + 2, none⟩ = some (.int .i16 (g j))
theorem MovesAt.below {w w1 : World} {A : Option Addr} {n : Nat} {s t g : Nat → Int} (h : MovesAt w A n s t g) (hb : Below w.heap.size w w1) : MovesAt w1 A n s t g := by
  refine ⟨fun j hj => ?_⟩
  obtain ⟨ad, e, c0, c1, c2⟩ := h.at_ j hj
  exact ⟨ad, e, (hb.cell (World.block_lt_of_cell? w _ c0)).trans c0, (hb.cell (World.block_lt_of_cell? w _ c1)).trans c1, (hb.cell (World.block_lt_of_cell? w _ c2)).trans c2⟩
def okMove (s t g : Int) : Bool := mayMove s t && inB g 1 5000
set_option maxHeartbeats 400000 in
theorem c_l07Move (s t g : Int) (w : World) (hg : -32768 ≤ g ∧ g ≤ 32767) (hs : -128 ≤ s ∧ s ≤ 127) (ht : -128 ≤ t ∧ t ≤ 127) :
    Calls Tryd.prog 46 #[.agg #[.int .i8 s, .int .i8 t, .int .i16 g]] w fun e w' => e = .returned (.bool (okMove s t g)) ∧ Below w.heap.size w w' := by
  obtain ⟨g0, g1⟩ := hg
  obtain ⟨s0, s1⟩ := hs
  obtain ⟨t0, t1⟩ := ht
  cases q1 : mayMove s t
  · go_enter Tryd.func46, Tryd.ntmps46
    go_wp2_with (first | (go_at_call 62; ((with_reducible refine (c_sMayMove _ _ _).mono ?_); rintro e w1 ⟨rfl, rfl⟩)) | (go_at_call 54; ((with_reducible refine (c_l00In _ _ _ _).mono ?_); rintro e w1 ⟨rfl, rfl⟩)))
    go_ret
    exact ⟨by rw [okMove, q1]; rfl, by (repeat (first | with_reducible exact Below.refl _ _ | with_reducible refine below_alloc ?_ _ | with_reducible refine below_drew ?_ | with_reducible refine below_drewN ?_ _ | with_reducible refine below_then ?_ (by assumption)))⟩
  · go_enter Tryd.func46, Tryd.ntmps46
    go_wp2_with (first | (go_at_call 62; ((with_reducible refine (c_sMayMove _ _ _).mono ?_); rintro e w1 ⟨rfl, rfl⟩)) | (go_at_call 54; ((with_reducible refine (c_l00In _ _ _ _).mono ?_); rintro e w1 ⟨rfl, rfl⟩)))
    go_ret
    exact ⟨by rw [okMove, q1]; rfl, by (repeat (first | with_reducible exact Below.refl _ _ | with_reducible refine below_alloc ?_ _ | with_reducible refine below_drew ?_ | with_reducible refine below_drewN ?_ _ | with_reducible refine below_then ?_ (by assumption)))⟩
set_option maxHeartbeats 800000 in
theorem c_l07Moves (A : Option Addr) (n c : Nat) (s t g : Nat → Int) (w : World) (h : MovesAt w A n s t g) (hn : n ≤ 1048576) (hg : ∀ j, j < n → (-32768 ≤ g j ∧ g j ≤ 32767) ∧ (-128 ≤ s j ∧ s j ≤ 127) ∧ (-128 ≤ t j ∧ t j ≤ 127)) :
    Calls Tryd.prog 40 #[.slice A n c] w fun e w' => e = .returned (.bool (allB n (fun j => okMove (s j) (t j) (g j)) && decide (n ≤ 60))) ∧ Below w.heap.size w w' := by
  have H := Lib.hid h
  have HG := Lib.hid hg
  clear h hg
  go_enter Tryd.func40, Tryd.ntmps40
  go_wp2
  go_loopw [3] (fun i wr => ∃ k : Nat, k ≤ n ∧ i = .int .i64 k ∧ Hid (allB k (fun j => okMove (s j) (t j) (g j)) = true) ∧ Hid (Below w.heap.size w wr)) (fun i _ => n - (intOf i).toNat)
  case atStart => exact ⟨0, by omega, rfl, rfl, Below.refl _ _⟩
  case round =>
    obtain ⟨k, hk, rfl, hI, hB⟩ := hrel
    by_cases hlt : k < n
    · have d1 : decide ((k : Int) < (n : Int)) = true := by simp; omega
      obtain ⟨ad, rfl, c0, c1, c2⟩ := (H.out.below hB.out).at_ k hlt
      have k0 : (0 : Int) ≤ (k : Int) := by omega
      have k1 : (k : Int) < (n : Int) := by omega
      have HGk := Lib.hid (HG.out k hlt)
      cases q1 : okMove (s k) (t k) (g k)
      · have E := Lib.hid (allB_stop (p := fun j => okMove (s j) (t j) (g j)) (k := k) (n := n) q1 hlt)
        go_wp2_with (go_at_call 46; ((with_reducible refine (c_l07Move _ _ _ _ HGk.out.1 HGk.out.2.1 HGk.out.2.2).mono ?_); rintro e w1 ⟨rfl, hb⟩))
        go_ret
        exact ⟨by rw [E.out]; rfl, Below.trans hB.out (hb.mono hB.out.size)⟩
      · have E : Hid (allB (k + 1) (fun j => okMove (s j) (t j) (g j)) = true) := by rw [Hid, allB, hI.out, q1]; rfl
        go_wp2_with (go_at_call 46; ((with_reducible refine (c_l07Move _ _ _ _ HGk.out.1 HGk.out.2.1 HGk.out.2.2).mono ?_); rintro e w1 ⟨rfl, hb⟩))
        go_roundw
        case rel => exact ⟨k + 1, by omega, by go_num, E, Below.trans hB.out (hb.mono hB.out.size)⟩
        case measure => simp [intOf]; omega
    · obtain rfl : k = n := by omega
      have d1 : decide ((k : Int) < (k : Int)) = false := by simp
      go_wp2
      go_ret
      exact ⟨by rw [hI.out, Bool.true_and, show decide (k ≤ 60) = decide ((k : Int) ≤ 60) by simp; omega]; rfl, hB.out⟩

theorem MovesAt.of_row {w : World} {b : Nat} {n : Nat} {s t g : Nat → Int} {arr : Array Value} {ty : TypeId} {fr : Nat × Nat} (h : w.heap[b]? = some (.cells arr ty fr)) (h0 : ∀ j, j < n → arr[j * 3]? = some (.int .i8 (s j)) ∧ arr[j * 3 + 1]? = some (.int .i8 (t j)) ∧ arr[j * 3 + 2]? = some (.int .i16 (g j))) : MovesAt w (some ⟨b, 0, none⟩) n s t g := by
  refine ⟨fun j hj => ⟨_, rfl, ?_, ?_, ?_⟩⟩
  all_goals have e : (Addr.add ⟨b, 0, none⟩ (j * 3)) = ⟨b, j * 3, none⟩ := by unfold Addr.add; split <;> simp_all
  · rw [e, cell_of_row w b _ _ _ _ h]; exact (h0 j hj).1
  · rw [e, cell_of_row w b _ _ _ _ h]; exact (h0 j hj).2.1
  · rw [e, cell_of_row w b _ _ _ _ h]; exact (h0 j hj).2.2
theorem c_szMoveS (A : Option Addr) (n c : Nat) (w : World) (hn : n ≤ 9223372036854775807) :
    Calls Tryd.prog 16 #[.slice A n c, .int .i64 1048576] w fun e w' => e = .returned (.int .i64 (if n ≤ 1048576 then 1048576 - (n : Int) else -1)) ∧ w = w' := by
  by_cases h : n ≤ 1048576
  · have E : Hid ((if n ≤ 1048576 then 1048576 - (n : Int) else -1) = 1048576 - (n : Int)) := by rw [Hid, if_pos h]
    have d : decide ((1048576 : Int) - (n : Int) < 0) = false := by simp; omega
    go_enter Tryd.func16, Tryd.ntmps16
    go_wp2
    go_ret
    exact ⟨by first | rfl | (rw [E.out]; rfl), rfl⟩
  · have E : Hid ((if n ≤ 1048576 then 1048576 - (n : Int) else -1) = -1) := by rw [Hid, if_neg h]
    have d : decide ((1048576 : Int) - (n : Int) < 0) = true := by simp; omega
    go_enter Tryd.func16, Tryd.ntmps16
    go_wp2
    go_ret
    exact ⟨by first | rfl | (rw [E.out]; rfl), rfl⟩
theorem c_toMove (a a2 b : Int) (w : World) :
    Calls Tryd.prog 42 #[.agg #[.int .i8 a, .int .i8 a2, .int .i16 b]] w fun e w' => e = .returned (.agg #[.int .i8 a, .int .i8 a2, .int .i16 b]) ∧ Below w.heap.size w w' := by
  go_enter Tryd.func42, Tryd.ntmps42
  go_wp2
  exact bodyPost_ret (v := .agg #[.int .i8 a, .int .i8 a2, .int .i16 b]) (by simp [results, Tryd.results42, go_sem]) rfl ⟨rfl, by (repeat (first | with_reducible exact Below.refl _ _ | with_reducible refine below_alloc ?_ _ | with_reducible refine below_drew ?_ | with_reducible refine below_drewN ?_ _ | with_reducible refine below_then ?_ (by assumption)))⟩
theorem c_eqMove (a a2 b : Int) (w : World) :
    Calls Tryd.prog 45 #[.agg #[.int .i8 a, .int .i8 a2, .int .i16 b], .agg #[.int .i8 a, .int .i8 a2, .int .i16 b]] w fun e w' => e = .returned (.bool true) ∧ Below w.heap.size w w' := by
  go_enter Tryd.func45, Tryd.ntmps45
  go_wp2
  go_ret
  exact ⟨rfl, by (repeat (first | with_reducible exact Below.refl _ _ | with_reducible refine below_alloc ?_ _ | with_reducible refine below_drew ?_ | with_reducible refine below_drewN ?_ _ | with_reducible refine below_then ?_ (by assumption)))⟩
theorem rows3 {arr : Array Value} {n k : Nat} {s t g : Nat → Int} (hs : arr.size = n * 3) (hk : k < n) (hC : ∀ j, j < k → arr[j * 3]? = some (.int .i8 (s j)) ∧ arr[j * 3 + 1]? = some (.int .i8 (t j)) ∧ arr[j * 3 + 2]? = some (.int .i16 (g j))) :
    (((arr.setIfInBounds (k * 3) (.int .i8 (s k))).setIfInBounds (k * 3 + 1) (.int .i8 (t k))).setIfInBounds (k * 3 + 2) (.int .i16 (g k))).size = n * 3 ∧ ∀ j, j < k + 1 → (((arr.setIfInBounds (k * 3) (.int .i8 (s k))).setIfInBounds (k * 3 + 1) (.int .i8 (t k))).setIfInBounds (k * 3 + 2) (.int .i16 (g k)))[j * 3]? = some (.int .i8 (s j)) ∧ (((arr.setIfInBounds (k * 3) (.int .i8 (s k))).setIfInBounds (k * 3 + 1) (.int .i8 (t k))).setIfInBounds (k * 3 + 2) (.int .i16 (g k)))[j * 3 + 1]? = some (.int .i8 (t j)) ∧ (((arr.setIfInBounds (k * 3) (.int .i8 (s k))).setIfInBounds (k * 3 + 1) (.int .i8 (t k))).setIfInBounds (k * 3 + 2) (.int .i16 (g k)))[j * 3 + 2]? = some (.int .i16 (g j)) := by
  refine ⟨by simp [hs], fun j hj => ?_⟩
  by_cases e : j = k
  · subst e
    refine ⟨?_, ?_, ?_⟩
    · rw [Array.getElem?_setIfInBounds_ne (by omega), Array.getElem?_setIfInBounds_ne (by omega), Array.getElem?_setIfInBounds_self_of_lt (by omega)]
    · rw [Array.getElem?_setIfInBounds_ne (by omega), Array.getElem?_setIfInBounds_self_of_lt (by simp; omega)]
    · rw [Array.getElem?_setIfInBounds_self_of_lt (by simp; omega)]
  · refine ⟨?_, ?_, ?_⟩
    · rw [Array.getElem?_setIfInBounds_ne (by omega), Array.getElem?_setIfInBounds_ne (by omega), Array.getElem?_setIfInBounds_ne (by omega)]
      exact (hC j (by omega)).1
    · rw [Array.getElem?_setIfInBounds_ne (by omega), Array.getElem?_setIfInBounds_ne (by omega), Array.getElem?_setIfInBounds_ne (by omega)]
      exact (hC j (by omega)).2.1
    · rw [Array.getElem?_setIfInBounds_ne (by omega), Array.getElem?_setIfInBounds_ne (by omega), Array.getElem?_setIfInBounds_ne (by omega)]
      exact (hC j (by omega)).2.2
set_option maxHeartbeats 800000 in
theorem c_toMoveR (A : Option Addr) (n c : Nat) (s t g : Nat → Int) (w : World) (h : MovesAt w A n s t g) (hn : n ≤ 1048576) :
    Calls Tryd.prog 18 #[.slice A n c] w fun e w' => ∃ arr : Array Value, e = .returned (.slice (some ⟨w.heap.size, 0, none⟩) n n) ∧ arr.size = n * 3 ∧ w'.heap[w.heap.size]? = some (.cells arr 62 (0, 0)) ∧ (∀ j, j < n → arr[j * 3]? = some (.int .i8 (s j)) ∧ arr[j * 3 + 1]? = some (.int .i8 (t j)) ∧ arr[j * 3 + 2]? = some (.int .i16 (g j))) ∧ Below w.heap.size w w' := by
  have H := Lib.hid h
  clear h
  have hmk : ∀ w : World, (Instr.makeSlice 39 (.int .i64 (n : Int)) (.int .i64 (n : Int))).run Tryd.prog w = .ok (.slice (some ⟨w.heap.size, 0, none⟩) n n) (w.alloc (.cells (madeCells #[.int .i8 0, .int .i8 0, .int .i16 0] (n * 3)) 62)) := fun w => by
    have hinfo : (Tryd.prog.info? 62).map (fun i => (i.zero, i.size, i.bytes)) = some (some (.agg #[.int .i8 0, .int .i8 0, .int .i16 0]), 3, 4) := by kernel_rfl
    obtain ⟨i, hi, hzz⟩ := Option.map_eq_some_iff.1 hinfo
    simp only [Prod.mk.injEq] at hzz
    obtain ⟨hz, hs, hb⟩ := hzz
    have := run_make (P := Tryd.prog) w 39 62 i _ Tryd.underlying39 hi hz .i64 .i64 (n : Int) (n : Int) (by omega) (Int.le_refl _) (by rw [hb]; omega) (by omega)
    rw [hs, Int.toNat_natCast] at this
    exact this
  have HMK := Lib.hid (heap_alloc_new w (.cells (madeCells #[.int .i8 0, .int .i8 0, .int .i16 0] (n * 3)) 62 (0, 0)))
  have hms : (madeCells #[Value.int .i8 0, .int .i8 0, .int .i16 0] (n * 3)).size = n * 3 := size_madeCells _ _
  generalize hM : madeCells #[Value.int .i8 0, .int .i8 0, .int .i16 0] (n * 3) = M at *
  go_enter Tryd.func18, Tryd.ntmps18
  go_wp2
  go_loopw [4] (fun i wr => ∃ k : Nat, k ≤ n ∧ i = .int .i64 k ∧ Hid (∃ arr : Array Value, arr.size = n * 3 ∧ wr.heap[w.heap.size]? = some (.cells arr 62 (0, 0)) ∧ ∀ j, j < k → arr[j * 3]? = some (.int .i8 (s j)) ∧ arr[j * 3 + 1]? = some (.int .i8 (t j)) ∧ arr[j * 3 + 2]? = some (.int .i16 (g j))) ∧ Hid (Below w.heap.size w wr)) (fun i _ => n - (intOf i).toNat)
  case atStart => exact ⟨0, by omega, rfl, ⟨M, hms, HMK.out, fun j hj => by omega⟩, by show Below w.heap.size w _; (repeat (first | with_reducible exact Below.refl _ _ | with_reducible refine below_alloc ?_ _ | with_reducible refine below_drew ?_ | with_reducible refine below_drewN ?_ _ | with_reducible refine below_then ?_ (by assumption)))⟩
  case round =>
    obtain ⟨k, hk, rfl, hI, hB⟩ := hrel
    by_cases hlt : k < n
    · have d1 : decide ((k : Int) < (n : Int)) = true := by simp; omega
      obtain ⟨ad, rfl, c0, c1, c2⟩ := (H.out.below hB.out).at_ k hlt
      obtain ⟨arr, hs, hA, hC⟩ := hI.out
      have HA := Lib.hid hA
      have HC := Lib.hid hC
      have k0 : (0 : Int) ≤ (k : Int) := by omega
      have k1 : (k : Int) < (n : Int) := by omega
      have hs1 := Lib.hid hs
      obtain ⟨u0, hu0⟩ : ∃ u, arr[k * 3]? = some u := ⟨arr[k * 3]'(by omega), by simp⟩
      obtain ⟨u1, hu1⟩ : ∃ u, arr[k * 3 + 1]? = some u := ⟨arr[k * 3 + 1]'(by omega), by simp⟩
      obtain ⟨u2, hu2⟩ : ∃ u, arr[k * 3 + 2]? = some u := ⟨arr[k * 3 + 2]'(by omega), by simp⟩
      have HU2 := Lib.hid hu2
      have HU0 := Lib.hid hu0
      have HU1 := Lib.hid hu1
      clear hI hA hC hs hu0 hu1 hu2
      go_wp2_with (go_at_call 42; ((with_reducible refine (c_toMove _ _ _ _).mono ?_); rintro e w1 ⟨rfl, hb⟩; have HA1 := Lib.hid (blk_below HA.out hb); have x0 := (cell_of_row w1 w.heap.size (k * 3) _ _ _ HA1.out).trans HU0.out; have x1 := (cell_of_row w1 w.heap.size (k * 3 + 1) _ _ _ HA1.out).trans HU1.out; have x2 := (cell_of_row w1 w.heap.size (k * 3 + 2) _ _ _ HA1.out).trans HU2.out; have f0 := blk_frozen HA1.out (k * 3); have f1 := blk_frozen HA1.out (k * 3 + 1); have f2 := blk_frozen HA1.out (k * 3 + 2)))
      go_roundw
      case rel =>
        obtain ⟨z0, z1⟩ := rows3 hs1.out hlt HC.out
        exact ⟨k + 1, by omega, by go_num, ⟨_, z0, blk_set (blk_set (blk_set HA1.out (k * 3) _) (k * 3 + 1) _) (k * 3 + 2) _, z1⟩, (((Below.trans hB.out (hb.mono hB.out.size)).setCell (by simp) _).setCell (by simp) _).setCell (by simp) _⟩
      case measure => simp [intOf]; omega
    · obtain rfl : k = n := by omega
      have d1 : decide ((k : Int) < (k : Int)) = false := by simp
      go_wp2
      go_ret
      obtain ⟨arr, hs, hA, hC⟩ := hI.out
      exact ⟨arr, rfl, hs, hA, hC, hB.out⟩
theorem c_toMoveS (A : Option Addr) (n c : Nat) (s t g : Nat → Int) (w : World) (h : MovesAt w A n s t g) (hn : n ≤ 1048576) :
    Calls Tryd.prog 18 #[.slice A n c] w fun e w' => ∃ b, e = .returned (.slice (some ⟨b, 0, none⟩) n n) ∧ MovesAt w' (some ⟨b, 0, none⟩) n s t g ∧ Below w.heap.size w w' := by
  refine (c_toMoveR A n c s t g w h hn).mono ?_
  rintro e w1 ⟨arr, rfl, hs, hA, hC, hb⟩
  exact ⟨_, rfl, MovesAt.of_row hA hC, hb⟩

set_option maxHeartbeats 800000 in
theorem c_eqMoveS (A B : Option Addr) (n c c' : Nat) (s t g : Nat → Int) (w : World) (h : MovesAt w A n s t g) (h' : MovesAt w B n s t g) (hn : n ≤ 1048576) :
    Calls Tryd.prog 20 #[.slice A n c, .slice B n c'] w fun e w' => e = .returned (.bool true) ∧ Below w.heap.size w w' := by
  have H := Lib.hid h
  have H' := Lib.hid h'
  clear h h'
  go_enter Tryd.func20, Tryd.ntmps20
  go_wp2
  go_loopw [5] (fun i wr => ∃ k : Nat, k ≤ n ∧ i = .int .i64 k ∧ Hid (Below w.heap.size w wr)) (fun i _ => n - (intOf i).toNat)
  case atStart => exact ⟨0, by omega, rfl, Below.refl _ _⟩
  case round =>
    obtain ⟨k, hk, rfl, hB⟩ := hrel
    by_cases hlt : k < n
    · have d1 : decide ((k : Int) < (n : Int)) = true := by simp; omega
      obtain ⟨ad, rfl, c0, c1, c2⟩ := (H.out.below hB.out).at_ k hlt
      obtain ⟨ad', rfl, c0', c1', c2'⟩ := (H'.out.below hB.out).at_ k hlt
      have k0 : (0 : Int) ≤ (k : Int) := by omega
      have k1 : (k : Int) < (n : Int) := by omega
      go_wp2
      go_still_tail 8, (by kernel_rfl)
      change wpList _ _ _ _ _ wr.drew
      have HBd : Hid (Below w.heap.size w wr.drew) := below_drew hB.out
      clear c0 c1 c2 c0' c1' c2'
      generalize wr.drew = wd at *
      go_wp2_with (go_at_call 45; ((with_reducible refine (c_eqMove _ _ _ _).mono ?_); rintro e w1 ⟨rfl, hb⟩))
      go_roundw
      case rel => exact ⟨k + 1, by omega, by go_num, Below.trans HBd.out (hb.mono HBd.out.size)⟩
      case measure => simp [intOf]; omega
    · obtain rfl : k = n := by omega
      have d1 : decide ((k : Int) < (k : Int)) = false := by simp
      go_wp2
      go_ret
      exact ⟨rfl, hB.out⟩

set_option maxHeartbeats 800000 in
theorem c_indexMove (F : Nat) (caps : Array Value) (he : ∀ args w, (callFunc F args).run Tryd.prog w = .ok (.enter F args) w) (q : Nat → Bool) (A : Option Addr) (n c : Nat) (s t g : Nat → Int) (w : World) (h : MovesAt w A n s t g) (hn : n ≤ 1048576)
    (hstep : ∀ j, j < n → ∀ w1, Below w.heap.size w w1 → Calls Tryd.prog F (#[.agg #[.int .i8 (s j), .int .i8 (t j), .int .i16 (g j)]] ++ caps) w1 fun e w2 => e = .returned (.bool (q j)) ∧ Below w1.heap.size w1 w2) :
    Calls Tryd.prog 95 #[.slice A n c, .func (.func F) #[] caps] w fun e w' => ∃ z : Int, e = .returned (.int .i64 z) ∧ decide (0 ≤ z) = (!(allB n fun j => !q j)) ∧ Below w.heap.size w w' := by
  have H := Lib.hid h
  have HS := Lib.hid hstep
  clear h hstep
  go_enter Tryd.func95, Tryd.ntmps95
  go_wp2
  go_loopw [8] (fun i wr => ∃ k : Nat, k ≤ n ∧ i = .int .i64 k ∧ Hid (allB k (fun j => !q j) = true) ∧ Hid (Below w.heap.size w wr)) (fun i _ => n - (intOf i).toNat)
  case atStart => exact ⟨0, by omega, rfl, rfl, Below.refl _ _⟩
  case round =>
    obtain ⟨k, hk, rfl, hI, hB⟩ := hrel
    by_cases hlt : k < n
    · have d1 : decide ((k : Int) < (n : Int)) = true := by simp; omega
      obtain ⟨ad, rfl, c0, c1, c2⟩ := (H.out.below hB.out).at_ k hlt
      have k0 : (0 : Int) ≤ (k : Int) := by omega
      have k1 : (k : Int) < (n : Int) := by omega
      go_wp2
      refine (HS.out k hlt wr hB.out).mono ?_
      rintro e w1 ⟨rfl, hb⟩
      have hB1 := Lib.hid (Below.trans hB.out (hb.mono hB.out.size))
      cases hq : q k
      · have E : Hid (allB (k + 1) (fun j => !q j) = true) := by rw [Hid, allB, hI.out, hq]; rfl
        go_wp2
        go_roundw
        case rel => exact ⟨k + 1, by omega, by go_num, E, hB1⟩
        case measure => simp [intOf]; omega
      · have E := Lib.hid (allB_stop (p := fun j => !q j) (k := k) (n := n) (by simp [hq]) hlt)
        go_wp2
        go_ret
        exact ⟨_, rfl, by rw [E.out]; simp, hB1.out⟩
    · obtain rfl : k = n := by omega
      have d1 : decide ((k : Int) < (k : Int)) = false := by simp
      go_wp2
      go_ret
      exact ⟨_, rfl, by rw [hI.out]; rfl, hB.out⟩
end Go.Proofs.YtdcemmhfbfogdaaDoor
