/- Lots in a slice: the reference's test. -/
import Derived.Test.YtabdpkmnpbpkjaaMem2
import Derived.Test.YtabdpkmnpbpkjaaScalars
import Derived.StillTailTactics
import Derived.Laws.MakeOwn
namespace Go.Proofs.Ytabdpkmnpbpkjaa
open Go.RowKit
set_option linter.unusedVariables false
set_option linter.unusedSimpArgs false
set_option maxRecDepth 100000

/-- n lots lie at A. -/
structure LotsAt (w : World) (A : Option Addr) (n : Nat) (s g : Nat → Int) : Prop where
  at_ : ∀ j, j < n → ∃ ad, A = some ad ∧ w.cell? (ad.add (j * 2)) = some (.int .i8 (s j)) ∧ w.cell? ⟨(ad.add (j * 2)).block, (ad.add (j * 2)).off + 1, none⟩ = some (.int .i16 (g j))
def shade (n : Int) : Bool := decide (0 ≤ n) && decide (n < 10)
def allB : Nat → (Nat → Bool) → Bool
  | 0, _ => true
  | n + 1, p => allB n p && p n
theorem c_l07Shade (n : Int) (w : World) : Calls Try.prog 80 #[.int .i8 n] w fun e w' => e = .returned (.bool (shade n)) ∧ w = w' := by
  by_cases h1 : 0 ≤ n
  · go_enter Try.func80, Try.ntmps80
    go_wp2
    go_ret
    simp [shade, h1]
  · go_enter Try.func80, Try.ntmps80
    go_wp2
    go_ret
    simp [shade, h1] <;> omega
theorem c_isShade (n : Int) (w : World) : Calls Try.prog 75 #[.int .i8 n] w fun e w' => e = .returned (.bool (shade n)) ∧ w = w' := by
  by_cases h1 : 0 ≤ n
  · go_enter Try.func75, Try.ntmps75
    go_wp2
    go_ret
    simp [shade, h1]
  · go_enter Try.func75, Try.ntmps75
    go_wp2
    go_ret
    simp [shade, h1] <;> omega
theorem allB_stop {p : Nat → Bool} {k : Nat} (h : p k = false) : ∀ {n : Nat}, k < n → allB n p = false
  | 0, hk => by omega
  | n + 1, hk => by
    by_cases e : k = n
    · subst e; simp [allB, h]
    · simp [allB, allB_stop h (show k < n by omega)]

theorem allB_get {p : Nat → Bool} : ∀ {n : Nat}, allB n p = true → ∀ j, j < n → p j = true
  | 0, _, j, hj => by omega
  | n + 1, h, j, hj => by
    simp [allB] at h
    by_cases e : j = n
    · subst e; exact h.2
    · exact allB_get h.1 j (by omega)
set_option maxHeartbeats 800000 in
theorem c_l07Lots (A : Option Addr) (n c : Nat) (s g : Nat → Int) (w : World) (h : LotsAt w A n s g) (hn : n ≤ 1048576) (hg : ∀ j, j < n → -32768 ≤ g j ∧ g j ≤ 32767) :
    Calls Try.prog 46 #[.slice A n c] w fun e w' => e = .returned (.bool (allB n (fun j => shade (s j) && inB (g j) 0 5000) && decide (n ≤ 6))) ∧ w = w' := by
  have H := Lib.hid h
  have HG := Lib.hid hg
  clear h hg
  go_enter Try.func46, Try.ntmps46
  go_wp2
  go_loop [3] (fun i => ∃ k : Nat, k ≤ n ∧ i = .int .i64 k ∧ Hid (allB k (fun j => shade (s j) && inB (g j) 0 5000) = true)) (fun i => n - (intOf i).toNat)
  case atStart => exact ⟨0, by omega, rfl, rfl⟩
  case round =>
    obtain ⟨k, hk, rfl, hI⟩ := hrel
    by_cases hlt : k < n
    · have d1 : decide ((k : Int) < (n : Int)) = true := by simp; omega
      obtain ⟨ad, rfl, c0, c1⟩ := H.out.at_ k hlt
      obtain ⟨g0, g1⟩ := HG.out k hlt
      have k0 : (0 : Int) ≤ (k : Int) := by omega
      have k1 : (k : Int) < (n : Int) := by omega
      cases q1 : shade (s k)
      · have E := Lib.hid (allB_stop (p := fun j => shade (s j) && inB (g j) 0 5000) (k := k) (n := n) (by simp [q1]) hlt)
        go_wp2_with (first | (go_at_call 80; ((with_reducible refine (c_l07Shade _ _).mono ?_); rintro e w1 ⟨rfl, rfl⟩)) | (go_at_call 65; ((with_reducible refine (c_l00In _ _ _ _).mono ?_); rintro e w1 ⟨rfl, rfl⟩)))
        go_ret
        exact ⟨by rw [E.out]; rfl, rfl⟩
      · cases q2 : inB (g k) 0 5000
        · have E := Lib.hid (allB_stop (p := fun j => shade (s j) && inB (g j) 0 5000) (k := k) (n := n) (by simp [q2]) hlt)
          go_wp2_with (first | (go_at_call 80; ((with_reducible refine (c_l07Shade _ _).mono ?_); rintro e w1 ⟨rfl, rfl⟩)) | (go_at_call 65; ((with_reducible refine (c_l00In _ _ _ _).mono ?_); rintro e w1 ⟨rfl, rfl⟩)))
          go_ret
          exact ⟨by rw [E.out]; rfl, rfl⟩
        · have E : Hid (allB (k + 1) (fun j => shade (s j) && inB (g j) 0 5000) = true) := by rw [Hid, allB, hI.out, q1, q2]; rfl
          go_wp2_with (first | (go_at_call 80; ((with_reducible refine (c_l07Shade _ _).mono ?_); rintro e w1 ⟨rfl, rfl⟩)) | (go_at_call 65; ((with_reducible refine (c_l00In _ _ _ _).mono ?_); rintro e w1 ⟨rfl, rfl⟩)))
          go_round
          case rel => exact ⟨k + 1, by omega, by go_num, E⟩
          case measure => simp [intOf]; omega
    · obtain rfl : k = n := by omega
      have d1 : decide ((k : Int) < (k : Int)) = false := by simp
      go_wp2
      go_ret
      exact ⟨by rw [hI.out, Bool.true_and, show decide (k ≤ 6) = decide ((k : Int) ≤ 6) by simp; omega]; rfl, rfl⟩

theorem LotsAt.below {w w1 : World} {A : Option Addr} {n : Nat} {s g : Nat → Int} (h : LotsAt w A n s g) (hb : Below w.heap.size w w1) : LotsAt w1 A n s g := by
  refine ⟨fun j hj => ?_⟩
  obtain ⟨ad, e, c0, c1⟩ := h.at_ j hj
  exact ⟨ad, e, (hb.cell (World.block_lt_of_cell? w _ c0)).trans c0, (hb.cell (World.block_lt_of_cell? w _ c1)).trans c1⟩
theorem LotsAt.of_row {w : World} {b : Nat} {n : Nat} {s g : Nat → Int} {arr : Array Value} {t : TypeId} {fr : Nat × Nat} (h : w.heap[b]? = some (.cells arr t fr)) (h0 : ∀ j, j < n → arr[j * 2]? = some (.int .i8 (s j)) ∧ arr[j * 2 + 1]? = some (.int .i16 (g j))) : LotsAt w (some ⟨b, 0, none⟩) n s g := by
  refine ⟨fun j hj => ⟨_, rfl, ?_, ?_⟩⟩
  · have e : (Addr.add ⟨b, 0, none⟩ (j * 2)) = ⟨b, j * 2, none⟩ := by unfold Addr.add; split <;> simp_all
    rw [e, cell_of_row w b _ _ _ _ h]; exact (h0 j hj).1
  · have e : (Addr.add ⟨b, 0, none⟩ (j * 2)) = ⟨b, j * 2, none⟩ := by unfold Addr.add; split <;> simp_all
    rw [e, cell_of_row w b _ _ _ _ h]; exact (h0 j hj).2
theorem c_szLotS (A : Option Addr) (n c : Nat) (w : World) (hn : n ≤ 9223372036854775807) :
    Calls Try.prog 10 #[.slice A n c, .int .i64 1048576] w fun e w' => e = .returned (.int .i64 (if n ≤ 1048576 then 1048576 - (n : Int) else -1)) ∧ w = w' := by
  by_cases h : n ≤ 1048576
  · have E : Hid ((if n ≤ 1048576 then 1048576 - (n : Int) else -1) = 1048576 - (n : Int)) := by rw [Hid, if_pos h]
    have d : decide ((1048576 : Int) - (n : Int) < 0) = false := by simp; omega
    go_enter Try.func10, Try.ntmps10
    go_wp2
    go_ret
    exact ⟨by first | rfl | (rw [E.out]; rfl), rfl⟩
  · have E : Hid ((if n ≤ 1048576 then 1048576 - (n : Int) else -1) = -1) := by rw [Hid, if_neg h]
    have d : decide ((1048576 : Int) - (n : Int) < 0) = true := by simp; omega
    go_enter Try.func10, Try.ntmps10
    go_wp2
    go_ret
    exact ⟨by first | rfl | (rw [E.out]; rfl), rfl⟩
theorem c_toLot (a b : Int) (w : World) :
    Calls Try.prog 48 #[.agg #[.int .i8 a, .int .i16 b]] w fun e w' => e = .returned (.agg #[.int .i8 a, .int .i16 b]) ∧ Below w.heap.size w w' := by
  go_enter Try.func48, Try.ntmps48
  go_wp2
  exact bodyPost_ret (v := .agg #[.int .i8 a, .int .i16 b]) (by simp [results, Try.results48, go_sem]) rfl ⟨rfl, by (repeat (first | with_reducible exact Below.refl _ _ | with_reducible refine below_alloc ?_ _ | with_reducible refine below_drew ?_ | with_reducible refine below_drewN ?_ _ | with_reducible refine below_then ?_ (by assumption)))⟩
theorem c_eqLot (a b : Int) (w : World) :
    Calls Try.prog 52 #[.agg #[.int .i8 a, .int .i16 b], .agg #[.int .i8 a, .int .i16 b]] w fun e w' => e = .returned (.bool true) ∧ Below w.heap.size w w' := by
  go_enter Try.func52, Try.ntmps52
  go_wp2
  go_ret
  exact ⟨rfl, by (repeat (first | with_reducible exact Below.refl _ _ | with_reducible refine below_alloc ?_ _ | with_reducible refine below_drew ?_ | with_reducible refine below_drewN ?_ _ | with_reducible refine below_then ?_ (by assumption)))⟩
theorem rows2 {arr : Array Value} {n k : Nat} {s g : Nat → Int} (hs : arr.size = n * 2) (hk : k < n) (hC : ∀ j, j < k → arr[j * 2]? = some (.int .i8 (s j)) ∧ arr[j * 2 + 1]? = some (.int .i16 (g j))) :
    ((arr.setIfInBounds (k * 2) (.int .i8 (s k))).setIfInBounds (k * 2 + 1) (.int .i16 (g k))).size = n * 2 ∧ ∀ j, j < k + 1 → ((arr.setIfInBounds (k * 2) (.int .i8 (s k))).setIfInBounds (k * 2 + 1) (.int .i16 (g k)))[j * 2]? = some (.int .i8 (s j)) ∧ ((arr.setIfInBounds (k * 2) (.int .i8 (s k))).setIfInBounds (k * 2 + 1) (.int .i16 (g k)))[j * 2 + 1]? = some (.int .i16 (g j)) := by
  refine ⟨by simp [hs], fun j hj => ?_⟩
  by_cases e : j = k
  · subst e
    refine ⟨?_, ?_⟩
    · rw [Array.getElem?_setIfInBounds_ne (by omega), Array.getElem?_setIfInBounds_self_of_lt (by omega)]
    · rw [Array.getElem?_setIfInBounds_self_of_lt (by simp; omega)]
  · refine ⟨?_, ?_⟩
    · rw [Array.getElem?_setIfInBounds_ne (by omega), Array.getElem?_setIfInBounds_ne (by omega)]
      exact (hC j (by omega)).1
    · rw [Array.getElem?_setIfInBounds_ne (by omega), Array.getElem?_setIfInBounds_ne (by omega)]
      exact (hC j (by omega)).2
set_option maxHeartbeats 800000 in
theorem c_toLotR (A : Option Addr) (n c : Nat) (s g : Nat → Int) (w : World) (h : LotsAt w A n s g) (hn : n ≤ 1048576) :
    Calls Try.prog 13 #[.slice A n c] w fun e w' => ∃ arr : Array Value, e = .returned (.slice (some ⟨w.heap.size, 0, none⟩) n n) ∧ arr.size = n * 2 ∧ w'.heap[w.heap.size]? = some (.cells arr 64 (0, 0)) ∧ (∀ j, j < n → arr[j * 2]? = some (.int .i8 (s j)) ∧ arr[j * 2 + 1]? = some (.int .i16 (g j))) ∧ Below w.heap.size w w' := by
  have H := Lib.hid h
  clear h
  have hmk : ∀ w : World, (Instr.makeSlice 29 (.int .i64 (n : Int)) (.int .i64 (n : Int))).run Try.prog w = .ok (.slice (some ⟨w.heap.size, 0, none⟩) n n) (w.alloc (.cells (madeCells #[.int .i8 0, .int .i16 0] (n * 2)) 64)) := fun w => by
    have hinfo : (Try.prog.info? 64).map (fun i => (i.zero, i.size, i.bytes)) = some (some (.agg #[.int .i8 0, .int .i16 0]), 2, 4) := by kernel_rfl
    obtain ⟨i, hi, hzz⟩ := Option.map_eq_some_iff.1 hinfo
    simp only [Prod.mk.injEq] at hzz
    obtain ⟨hz, hs, hb⟩ := hzz
    have := run_make (P := Try.prog) w 29 64 i _ Try.underlying29 hi hz .i64 .i64 (n : Int) (n : Int) (by omega) (Int.le_refl _) (by rw [hb]; omega) (by omega)
    rw [hs, Int.toNat_natCast] at this
    exact this
  have HMK := Lib.hid (heap_alloc_new w (.cells (madeCells #[.int .i8 0, .int .i16 0] (n * 2)) 64 (0, 0)))
  have hms : (madeCells #[Value.int .i8 0, .int .i16 0] (n * 2)).size = n * 2 := size_madeCells _ _
  generalize hM : madeCells #[Value.int .i8 0, .int .i16 0] (n * 2) = M at *
  go_enter Try.func13, Try.ntmps13
  go_wp2
  go_loopw [4] (fun i wr => ∃ k : Nat, k ≤ n ∧ i = .int .i64 k ∧ Hid (∃ arr : Array Value, arr.size = n * 2 ∧ wr.heap[w.heap.size]? = some (.cells arr 64 (0, 0)) ∧ ∀ j, j < k → arr[j * 2]? = some (.int .i8 (s j)) ∧ arr[j * 2 + 1]? = some (.int .i16 (g j))) ∧ Hid (Below w.heap.size w wr)) (fun i _ => n - (intOf i).toNat)
  case atStart => exact ⟨0, by omega, rfl, ⟨M, hms, HMK.out, fun j hj => by omega⟩, by show Below w.heap.size w _; (repeat (first | with_reducible exact Below.refl _ _ | with_reducible refine below_alloc ?_ _ | with_reducible refine below_drew ?_ | with_reducible refine below_drewN ?_ _ | with_reducible refine below_then ?_ (by assumption)))⟩
  case round =>
    obtain ⟨k, hk, rfl, hI, hB⟩ := hrel
    by_cases hlt : k < n
    · have d1 : decide ((k : Int) < (n : Int)) = true := by simp; omega
      obtain ⟨ad, rfl, c0, c1⟩ := (H.out.below hB.out).at_ k hlt
      obtain ⟨arr, hs, hA, hC⟩ := hI.out
      have HA := Lib.hid hA
      have HC := Lib.hid hC
      have k0 : (0 : Int) ≤ (k : Int) := by omega
      have k1 : (k : Int) < (n : Int) := by omega
      have hs1 := Lib.hid hs
      obtain ⟨u0, hu0⟩ : ∃ u, arr[k * 2]? = some u := ⟨arr[k * 2]'(by omega), by simp⟩
      obtain ⟨u1, hu1⟩ : ∃ u, arr[k * 2 + 1]? = some u := ⟨arr[k * 2 + 1]'(by omega), by simp⟩
      have HU0 := Lib.hid hu0
      have HU1 := Lib.hid hu1
      clear hI hA hC hs hu0 hu1
      go_wp2_with (go_at_call 48; ((with_reducible refine (c_toLot _ _ _).mono ?_); rintro e w1 ⟨rfl, hb⟩; have HA1 := Lib.hid (blk_below HA.out hb); have x0 := (cell_of_row w1 w.heap.size (k * 2) _ _ _ HA1.out).trans HU0.out; have x1 := (cell_of_row w1 w.heap.size (k * 2 + 1) _ _ _ HA1.out).trans HU1.out; have f0 := blk_frozen HA1.out (k * 2); have f1 := blk_frozen HA1.out (k * 2 + 1)))
      go_roundw
      case rel =>
        obtain ⟨z0, z1⟩ := rows2 hs1.out hlt HC.out
        exact ⟨k + 1, by omega, by go_num, ⟨_, z0, blk_set (blk_set HA1.out (k * 2) _) (k * 2 + 1) _, z1⟩, ((Below.trans hB.out (hb.mono hB.out.size)).setCell (by simp) _).setCell (by simp) _⟩
      case measure => simp [intOf]; omega
    · obtain rfl : k = n := by omega
      have d1 : decide ((k : Int) < (k : Int)) = false := by simp
      go_wp2
      go_ret
      obtain ⟨arr, hs, hA, hC⟩ := hI.out
      exact ⟨arr, rfl, hs, hA, hC, hB.out⟩
theorem c_toLotS (A : Option Addr) (n c : Nat) (s g : Nat → Int) (w : World) (h : LotsAt w A n s g) (hn : n ≤ 1048576) :
    Calls Try.prog 13 #[.slice A n c] w fun e w' => ∃ b, e = .returned (.slice (some ⟨b, 0, none⟩) n n) ∧ LotsAt w' (some ⟨b, 0, none⟩) n s g ∧ Below w.heap.size w w' := by
  refine (c_toLotR A n c s g w h hn).mono ?_
  rintro e w1 ⟨arr, rfl, hs, hA, hC, hb⟩
  exact ⟨_, rfl, LotsAt.of_row hA hC, hb⟩

set_option maxHeartbeats 800000 in
theorem c_eqLotS (A B : Option Addr) (n c c' : Nat) (s g : Nat → Int) (w : World) (h : LotsAt w A n s g) (h' : LotsAt w B n s g) (hn : n ≤ 1048576) :
    Calls Try.prog 17 #[.slice A n c, .slice B n c'] w fun e w' => e = .returned (.bool true) ∧ Below w.heap.size w w' := by
  have H := Lib.hid h
  have H' := Lib.hid h'
  clear h h'
  go_enter Try.func17, Try.ntmps17
  go_wp2
  go_loopw [5] (fun i wr => ∃ k : Nat, k ≤ n ∧ i = .int .i64 k ∧ Hid (Below w.heap.size w wr)) (fun i _ => n - (intOf i).toNat)
  case atStart => exact ⟨0, by omega, rfl, Below.refl _ _⟩
  case round =>
    obtain ⟨k, hk, rfl, hB⟩ := hrel
    by_cases hlt : k < n
    · have d1 : decide ((k : Int) < (n : Int)) = true := by simp; omega
      obtain ⟨ad, rfl, c0, c1⟩ := (H.out.below hB.out).at_ k hlt
      obtain ⟨ad', rfl, c0', c1'⟩ := (H'.out.below hB.out).at_ k hlt
      have k0 : (0 : Int) ≤ (k : Int) := by omega
      have k1 : (k : Int) < (n : Int) := by omega
      go_wp2
      go_still_tail 8, (by kernel_rfl)
      change wpList _ _ _ _ _ wr.drew
      have HBd : Hid (Below w.heap.size w wr.drew) := below_drew hB.out
      clear c0 c1 c0' c1'
      generalize wr.drew = wd at *
      go_wp2_with (go_at_call 52; ((with_reducible refine (c_eqLot _ _ _).mono ?_); rintro e w1 ⟨rfl, hb⟩))
      go_roundw
      case rel => exact ⟨k + 1, by omega, by go_num, Below.trans HBd.out (hb.mono HBd.out.size)⟩
      case measure => simp [intOf]; omega
    · obtain rfl : k = n := by omega
      have d1 : decide ((k : Int) < (k : Int)) = false := by simp
      go_wp2
      go_ret
      exact ⟨rfl, hB.out⟩

set_option maxHeartbeats 800000 in
theorem c_indexLot (F : Nat) (caps : Array Value) (he : ∀ args w, (callFunc F args).run Try.prog w = .ok (.enter F args) w) (q : Nat → Bool) (A : Option Addr) (n c : Nat) (s g : Nat → Int) (w : World) (h : LotsAt w A n s g) (hn : n ≤ 1048576)
    (hstep : ∀ j, j < n → ∀ w1, Below w.heap.size w w1 → Calls Try.prog F (#[.agg #[.int .i8 (s j), .int .i16 (g j)]] ++ caps) w1 fun e w2 => e = .returned (.bool (q j)) ∧ Below w1.heap.size w1 w2) :
    Calls Try.prog 100 #[.slice A n c, .func (.func F) #[] caps] w fun e w' => ∃ z : Int, e = .returned (.int .i64 z) ∧ decide (0 ≤ z) = (!(allB n fun j => !q j)) ∧ Below w.heap.size w w' := by
  have H := Lib.hid h
  have HS := Lib.hid hstep
  clear h hstep
  go_enter Try.func100, Try.ntmps100
  go_wp2
  go_loopw [8] (fun i wr => ∃ k : Nat, k ≤ n ∧ i = .int .i64 k ∧ Hid (allB k (fun j => !q j) = true) ∧ Hid (Below w.heap.size w wr)) (fun i _ => n - (intOf i).toNat)
  case atStart => exact ⟨0, by omega, rfl, rfl, Below.refl _ _⟩
  case round =>
    obtain ⟨k, hk, rfl, hI, hB⟩ := hrel
    by_cases hlt : k < n
    · have d1 : decide ((k : Int) < (n : Int)) = true := by simp; omega
      obtain ⟨ad, rfl, c0, c1⟩ := (H.out.below hB.out).at_ k hlt
      have k0 : (0 : Int) ≤ (k : Int) := by omega
      have k1 : (k : Int) < (n : Int) := by omega
      go_wp2
      refine (HS.out k hlt wr hB.out).mono ?_
      rintro e w1 ⟨rfl, hb⟩
      have hB1 := Lib.hid (Below.trans hB.out (hb.mono hB.out.size))
      cases hq : q k
      · have E : Hid (allB (k + 1) (fun j => !q j) = true) := by rw [Hid, allB, hI.out, hq]; rfl
        go_wp2
        go_roundw
        case rel => exact ⟨k + 1, by omega, by go_num, E, hB1⟩
        case measure => simp [intOf]; omega
      · have E := Lib.hid (allB_stop (p := fun j => !q j) (k := k) (n := n) (by simp [hq]) hlt)
        go_wp2
        go_ret
        exact ⟨_, rfl, by rw [E.out]; simp, hB1.out⟩
    · obtain rfl : k = n := by omega
      have d1 : decide ((k : Int) < (k : Int)) = false := by simp
      go_wp2
      go_ret
      exact ⟨_, rfl, by rw [hI.out]; rfl, hB.out⟩
end Go.Proofs.Ytabdpkmnpbpkjaa
