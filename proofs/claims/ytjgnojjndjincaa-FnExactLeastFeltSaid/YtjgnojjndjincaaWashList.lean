/- Programs of washing in a slice: read, copied, compared, tested, marked. -/
import Derived.Test.YtjgnojjndjincaaLotBase
import Derived.Test.YtjgnojjndjincaaLotLaw
import Derived.Test.YtjgnojjndjincaaWashFelt
import Derived.Test.YtjgnojjndjincaaWashBy
import Derived.Test.YtjgnojjndjincaaInt64S
namespace Go.Proofs.Ytjgnojjndjincaa
open Go.RowKit
set_option linter.unusedVariables false
set_option linter.unusedSimpArgs false
set_option maxRecDepth 100000

structure ProgsAt (w : World) (A : Option Addr) (n : Nat) (s t g : Nat → Int) : Prop where
  at_ : ∀ j, j < n → ∃ ad, A = some ad ∧ w.cell? (ad.add (j * 3)) = some (.int .i8 (s j)) ∧ w.cell? ⟨(ad.add (j * 3)).block, (ad.add (j * 3)).off + 1, none⟩ = some (.int .i8 (t j)) ∧ w.cell? ⟨(ad.add (j * 3)).block, (ad.add (j * 3)).off + 2, none⟩ = some (.int .i8 (g j))
theorem ProgsAt.below {w w1 : World} {A : Option Addr} {n : Nat} {s t g : Nat → Int} (h : ProgsAt w A n s t g) (hb : Below w.heap.size w w1) : ProgsAt w1 A n s t g := by
  refine ⟨fun j hj => ?_⟩
  obtain ⟨ad, e, c0, c1, c2⟩ := h.at_ j hj
  exact ⟨ad, e, (hb.cell (World.block_lt_of_cell? w _ c0)).trans c0, (hb.cell (World.block_lt_of_cell? w _ c1)).trans c1, (hb.cell (World.block_lt_of_cell? w _ c2)).trans c2⟩
theorem ProgsAt.of_row {w : World} {b : Nat} {n : Nat} {s t g : Nat → Int} {arr : Array Value} {ty : TypeId} {fr : Nat × Nat} (h : w.heap[b]? = some (.cells arr ty fr)) (h0 : ∀ j, j < n → arr[j * 3]? = some (.int .i8 (s j)) ∧ arr[j * 3 + 1]? = some (.int .i8 (t j)) ∧ arr[j * 3 + 2]? = some (.int .i8 (g j))) : ProgsAt w (some ⟨b, 0, none⟩) n s t g := by
  refine ⟨fun j hj => ⟨_, rfl, ?_, ?_, ?_⟩⟩
  all_goals have e : (Addr.add ⟨b, 0, none⟩ (j * 3)) = ⟨b, j * 3, none⟩ := by unfold Addr.add; split <;> simp_all
  · rw [e, cell_of_row w b _ _ _ _ h]; exact (h0 j hj).1
  · rw [e, cell_of_row w b _ _ _ _ h]; exact (h0 j hj).2.1
  · rw [e, cell_of_row w b _ _ _ _ h]; exact (h0 j hj).2.2
theorem c_szProgramS (A : Option Addr) (n c : Nat) (w : World) (hn : n ≤ 9223372036854775807) :
    Calls Try.prog 8 #[.slice A n c, .int .i64 1048576] w fun e w' => e = .returned (.int .i64 (if n ≤ 1048576 then 1048576 - (n : Int) else -1)) ∧ w = w' := by
  by_cases h : n ≤ 1048576
  · have E : Hid ((if n ≤ 1048576 then 1048576 - (n : Int) else -1) = 1048576 - (n : Int)) := by rw [Hid, if_pos h]
    have d : decide ((1048576 : Int) - (n : Int) < 0) = false := by simp; omega
    go_enter Try.func8, Try.ntmps8
    go_wp2
    go_ret
    exact ⟨by first | rfl | (rw [E.out]; rfl), rfl⟩
  · have E : Hid ((if n ≤ 1048576 then 1048576 - (n : Int) else -1) = -1) := by rw [Hid, if_neg h]
    have d : decide ((1048576 : Int) - (n : Int) < 0) = true := by simp; omega
    go_enter Try.func8, Try.ntmps8
    go_wp2
    go_ret
    exact ⟨by first | rfl | (rw [E.out]; rfl), rfl⟩
theorem c_eqProgram (a a2 b : Int) (w : World) :
    Calls Try.prog 51 #[.agg #[.int .i8 a, .int .i8 a2, .int .i8 b], .agg #[.int .i8 a, .int .i8 a2, .int .i8 b]] w fun e w' => e = .returned (.bool true) ∧ Below w.heap.size w w' := by
  go_enter Try.func51, Try.ntmps51
  go_wp2
  go_ret
  exact ⟨rfl, by (repeat (first | with_reducible exact Below.refl _ _ | with_reducible refine below_alloc ?_ _ | with_reducible refine below_drew ?_ | with_reducible refine below_drewN ?_ _ | with_reducible refine below_then ?_ (by assumption)))⟩
theorem rows3 {arr : Array Value} {n k : Nat} {s t g : Nat → Int} (hs : arr.size = n * 3) (hk : k < n) (hC : ∀ j, j < k → arr[j * 3]? = some (.int .i8 (s j)) ∧ arr[j * 3 + 1]? = some (.int .i8 (t j)) ∧ arr[j * 3 + 2]? = some (.int .i8 (g j))) :
    (((arr.setIfInBounds (k * 3) (.int .i8 (s k))).setIfInBounds (k * 3 + 1) (.int .i8 (t k))).setIfInBounds (k * 3 + 2) (.int .i8 (g k))).size = n * 3 ∧ ∀ j, j < k + 1 → (((arr.setIfInBounds (k * 3) (.int .i8 (s k))).setIfInBounds (k * 3 + 1) (.int .i8 (t k))).setIfInBounds (k * 3 + 2) (.int .i8 (g k)))[j * 3]? = some (.int .i8 (s j)) ∧ (((arr.setIfInBounds (k * 3) (.int .i8 (s k))).setIfInBounds (k * 3 + 1) (.int .i8 (t k))).setIfInBounds (k * 3 + 2) (.int .i8 (g k)))[j * 3 + 1]? = some (.int .i8 (t j)) ∧ (((arr.setIfInBounds (k * 3) (.int .i8 (s k))).setIfInBounds (k * 3 + 1) (.int .i8 (t k))).setIfInBounds (k * 3 + 2) (.int .i8 (g k)))[j * 3 + 2]? = some (.int .i8 (g j)) := by
  refine ⟨by simp [hs], fun j hj => ?_⟩
  by_cases e : j = k
  · subst e
    refine ⟨?_, ?_, ?_⟩
    · rw [Array.getElem?_setIfInBounds_ne (by omega), Array.getElem?_setIfInBounds_ne (by omega), Array.getElem?_setIfInBounds_self_of_lt (by omega)]
    · rw [Array.getElem?_setIfInBounds_ne (by omega), Array.getElem?_setIfInBounds_self_of_lt (by simp; omega)]
    · rw [Array.getElem?_setIfInBounds_self_of_lt (by simp; omega)]
  · refine ⟨?_, ?_, ?_⟩
    · rw [Array.getElem?_setIfInBounds_ne (by omega), Array.getElem?_setIfInBounds_ne (by omega), Array.getElem?_setIfInBounds_ne (by omega)]
      exact (hC j (by omega)).1
    · rw [Array.getElem?_setIfInBounds_ne (by omega), Array.getElem?_setIfInBounds_ne (by omega), Array.getElem?_setIfInBounds_ne (by omega)]
      exact (hC j (by omega)).2.1
    · rw [Array.getElem?_setIfInBounds_ne (by omega), Array.getElem?_setIfInBounds_ne (by omega), Array.getElem?_setIfInBounds_ne (by omega)]
      exact (hC j (by omega)).2.2
set_option maxHeartbeats 800000 in
theorem c_toProgramR (A : Option Addr) (n c : Nat) (s t g : Nat → Int) (w : World) (h : ProgsAt w A n s t g) (hn : n ≤ 1048576) :
    Calls Try.prog 11 #[.slice A n c] w fun e w' => ∃ arr : Array Value, e = .returned (.slice (some ⟨w.heap.size, 0, none⟩) n n) ∧ arr.size = n * 3 ∧ w'.heap[w.heap.size]? = some (.cells arr 59 (0, 0)) ∧ (∀ j, j < n → arr[j * 3]? = some (.int .i8 (s j)) ∧ arr[j * 3 + 1]? = some (.int .i8 (t j)) ∧ arr[j * 3 + 2]? = some (.int .i8 (g j))) ∧ Below w.heap.size w w' := by
  have H := Lib.hid h
  clear h
  have hmk : ∀ w : World, (Instr.makeSlice 33 (.int .i64 (n : Int)) (.int .i64 (n : Int))).run Try.prog w = .ok (.slice (some ⟨w.heap.size, 0, none⟩) n n) (w.alloc (.cells (madeCells #[.int .i8 0, .int .i8 0, .int .i8 0] (n * 3)) 59)) := fun w => by
    have hinfo : (Try.prog.info? 59).map (fun i => (i.zero, i.size, i.bytes)) = some (some (.agg #[.int .i8 0, .int .i8 0, .int .i8 0]), 3, 3) := by kernel_rfl
    obtain ⟨i, hi, hzz⟩ := Option.map_eq_some_iff.1 hinfo
    simp only [Prod.mk.injEq] at hzz
    obtain ⟨hz, hs, hb⟩ := hzz
    have := run_make (P := Try.prog) w 33 59 i _ Try.underlying33 hi hz .i64 .i64 (n : Int) (n : Int) (by omega) (Int.le_refl _) (by rw [hb]; omega) (by omega)
    rw [hs, Int.toNat_natCast] at this
    exact this
  have HMK := Lib.hid (heap_alloc_new w (.cells (madeCells #[.int .i8 0, .int .i8 0, .int .i8 0] (n * 3)) 59 (0, 0)))
  have hms : (madeCells #[Value.int .i8 0, .int .i8 0, .int .i8 0] (n * 3)).size = n * 3 := size_madeCells _ _
  generalize hM : madeCells #[Value.int .i8 0, .int .i8 0, .int .i8 0] (n * 3) = M at *
  go_enter Try.func11, Try.ntmps11
  go_wp2
  go_loopw [4] (fun i wr => ∃ k : Nat, k ≤ n ∧ i = .int .i64 k ∧ Hid (∃ arr : Array Value, arr.size = n * 3 ∧ wr.heap[w.heap.size]? = some (.cells arr 59 (0, 0)) ∧ ∀ j, j < k → arr[j * 3]? = some (.int .i8 (s j)) ∧ arr[j * 3 + 1]? = some (.int .i8 (t j)) ∧ arr[j * 3 + 2]? = some (.int .i8 (g j))) ∧ Hid (Below w.heap.size w wr)) (fun i _ => n - (intOf i).toNat)
  case atStart => exact ⟨0, by omega, rfl, ⟨M, hms, HMK.out, fun j hj => by omega⟩, by show Below w.heap.size w _; (repeat (first | with_reducible exact Below.refl _ _ | with_reducible refine below_alloc ?_ _ | with_reducible refine below_drew ?_ | with_reducible refine below_drewN ?_ _ | with_reducible refine below_then ?_ (by assumption)))⟩
  case round =>
    obtain ⟨k, hk, rfl, hI, hB⟩ := hrel
    by_cases hlt : k < n
    · have d1 : decide ((k : Int) < (n : Int)) = true := by simp; omega
      obtain ⟨ad, rfl, c0, c1, c2⟩ := (H.out.below hB.out).at_ k hlt
      obtain ⟨arr, hs, hA, hC⟩ := hI.out
      have HA := Lib.hid hA
      have HC := Lib.hid hC
      have k0 : (0 : Int) ≤ (k : Int) := by omega
      have k1 : (k : Int) < (n : Int) := by omega
      have hs1 := Lib.hid hs
      obtain ⟨u0, hu0⟩ : ∃ u, arr[k * 3]? = some u := ⟨arr[k * 3]'(by omega), by simp⟩
      obtain ⟨u1, hu1⟩ : ∃ u, arr[k * 3 + 1]? = some u := ⟨arr[k * 3 + 1]'(by omega), by simp⟩
      obtain ⟨u2, hu2⟩ : ∃ u, arr[k * 3 + 2]? = some u := ⟨arr[k * 3 + 2]'(by omega), by simp⟩
      have HU2 := Lib.hid hu2
      have HU0 := Lib.hid hu0
      have HU1 := Lib.hid hu1
      clear hI hA hC hs hu0 hu1 hu2
      go_wp2_with (go_at_call 44; ((with_reducible refine (c_toProgram _ _ _ _).mono ?_); rintro e w1 ⟨rfl, hb⟩; have HA1 := Lib.hid (blk_below HA.out hb); have x0 := (cell_of_row w1 w.heap.size (k * 3) _ _ _ HA1.out).trans HU0.out; have x1 := (cell_of_row w1 w.heap.size (k * 3 + 1) _ _ _ HA1.out).trans HU1.out; have x2 := (cell_of_row w1 w.heap.size (k * 3 + 2) _ _ _ HA1.out).trans HU2.out; have f0 := blk_frozen HA1.out (k * 3); have f1 := blk_frozen HA1.out (k * 3 + 1); have f2 := blk_frozen HA1.out (k * 3 + 2)))
      go_roundw
      case rel =>
        obtain ⟨z0, z1⟩ := rows3 hs1.out hlt HC.out
        exact ⟨k + 1, by omega, by go_num, ⟨_, z0, blk_set (blk_set (blk_set HA1.out (k * 3) _) (k * 3 + 1) _) (k * 3 + 2) _, z1⟩, (((Below.trans hB.out (hb.mono hB.out.size)).setCell (by simp) _).setCell (by simp) _).setCell (by simp) _⟩
      case measure => simp [intOf]; omega
    · obtain rfl : k = n := by omega
      have d1 : decide ((k : Int) < (k : Int)) = false := by simp
      go_wp2
      go_ret
      obtain ⟨arr, hs, hA, hC⟩ := hI.out
      exact ⟨arr, rfl, hs, hA, hC, hB.out⟩
theorem c_toProgramS (A : Option Addr) (n c : Nat) (s t g : Nat → Int) (w : World) (h : ProgsAt w A n s t g) (hn : n ≤ 1048576) :
    Calls Try.prog 11 #[.slice A n c] w fun e w' => ∃ b, e = .returned (.slice (some ⟨b, 0, none⟩) n n) ∧ ProgsAt w' (some ⟨b, 0, none⟩) n s t g ∧ Below w.heap.size w w' := by
  refine (c_toProgramR A n c s t g w h hn).mono ?_
  rintro e w1 ⟨arr, rfl, hs, hA, hC, hb⟩
  exact ⟨_, rfl, ProgsAt.of_row hA hC, hb⟩

set_option maxHeartbeats 800000 in
theorem c_eqProgramS (A B : Option Addr) (n c c' : Nat) (s t g : Nat → Int) (w : World) (h : ProgsAt w A n s t g) (h' : ProgsAt w B n s t g) (hn : n ≤ 1048576) :
    Calls Try.prog 15 #[.slice A n c, .slice B n c'] w fun e w' => e = .returned (.bool true) ∧ Below w.heap.size w w' := by
  have H := Lib.hid h
  have H' := Lib.hid h'
  clear h h'
  go_enter Try.func15, Try.ntmps15
  go_wp2
  go_loopw [5] (fun i wr => ∃ k : Nat, k ≤ n ∧ i = .int .i64 k ∧ Hid (Below w.heap.size w wr)) (fun i _ => n - (intOf i).toNat)
  case atStart => exact ⟨0, by omega, rfl, Below.refl _ _⟩
  case round =>
    obtain ⟨k, hk, rfl, hB⟩ := hrel
    by_cases hlt : k < n
    · have d1 : decide ((k : Int) < (n : Int)) = true := by simp; omega
      obtain ⟨ad, rfl, c0, c1, c2⟩ := (H.out.below hB.out).at_ k hlt
      obtain ⟨ad', rfl, c0', c1', c2'⟩ := (H'.out.below hB.out).at_ k hlt
      have k0 : (0 : Int) ≤ (k : Int) := by omega
      have k1 : (k : Int) < (n : Int) := by omega
      go_wp2
      go_still_tail 8, (by kernel_rfl)
      change wpList _ _ _ _ _ wr.drew
      have HBd : Hid (Below w.heap.size w wr.drew) := below_drew hB.out
      clear c0 c1 c2 c0' c1' c2'
      generalize wr.drew = wd at *
      go_wp2_with (go_at_call 51; ((with_reducible refine (c_eqProgram _ _ _ _).mono ?_); rintro e w1 ⟨rfl, hb⟩))
      go_roundw
      case rel => exact ⟨k + 1, by omega, by go_num, Below.trans HBd.out (hb.mono HBd.out.size)⟩
      case measure => simp [intOf]; omega
    · obtain rfl : k = n := by omega
      have d1 : decide ((k : Int) < (k : Int)) = false := by simp
      go_wp2
      go_ret
      exact ⟨rfl, hB.out⟩

set_option maxHeartbeats 800000 in
theorem c_indexProgram (F : Nat) (caps : Array Value) (he : ∀ args w, (callFunc F args).run Try.prog w = .ok (.enter F args) w) (q : Nat → Bool) (A : Option Addr) (n c : Nat) (s t g : Nat → Int) (w : World) (h : ProgsAt w A n s t g) (hn : n ≤ 1048576)
    (hstep : ∀ j, j < n → ∀ w1, Below w.heap.size w w1 → Calls Try.prog F (#[.agg #[.int .i8 (s j), .int .i8 (t j), .int .i8 (g j)]] ++ caps) w1 fun e w2 => e = .returned (.bool (q j)) ∧ Below w1.heap.size w1 w2) :
    Calls Try.prog 86 #[.slice A n c, .func (.func F) #[] caps] w fun e w' => ∃ z : Int, e = .returned (.int .i64 z) ∧ decide (0 ≤ z) = (!(allB n fun j => !q j)) ∧ Below w.heap.size w w' := by
  have H := Lib.hid h
  have HS := Lib.hid hstep
  clear h hstep
  go_enter Try.func86, Try.ntmps86
  go_wp2
  go_loopw [8] (fun i wr => ∃ k : Nat, k ≤ n ∧ i = .int .i64 k ∧ Hid (allB k (fun j => !q j) = true) ∧ Hid (Below w.heap.size w wr)) (fun i _ => n - (intOf i).toNat)
  case atStart => exact ⟨0, by omega, rfl, rfl, Below.refl _ _⟩
  case round =>
    obtain ⟨k, hk, rfl, hI, hB⟩ := hrel
    by_cases hlt : k < n
    · have d1 : decide ((k : Int) < (n : Int)) = true := by simp; omega
      obtain ⟨ad, rfl, c0, c1, c2⟩ := (H.out.below hB.out).at_ k hlt
      have k0 : (0 : Int) ≤ (k : Int) := by omega
      have k1 : (k : Int) < (n : Int) := by omega
      go_wp2
      refine (HS.out k hlt wr hB.out).mono ?_
      rintro e w1 ⟨rfl, hb⟩
      have hB1 := Lib.hid (Below.trans hB.out (hb.mono hB.out.size))
      cases hq : q k
      · have E : Hid (allB (k + 1) (fun j => !q j) = true) := by rw [Hid, allB, hI.out, hq]; rfl
        go_wp2
        go_roundw
        case rel => exact ⟨k + 1, by omega, by go_num, E, hB1⟩
        case measure => simp [intOf]; omega
      · have E := Lib.hid (allB_stop (p := fun j => !q j) (k := k) (n := n) (by simp [hq]) hlt)
        go_wp2
        go_ret
        exact ⟨_, rfl, by rw [E.out]; simp, hB1.out⟩
    · obtain rfl : k = n := by omega
      have d1 : decide ((k : Int) < (k : Int)) = false := by simp
      go_wp2
      go_ret
      exact ⟨_, rfl, by rw [hI.out]; rfl, hB.out⟩

theorem c_areAllProgram1 (s t g : Int) (b : Nat) (w : World) (hg : (-128 ≤ g ∧ g ≤ 127) ∧ (-128 ≤ s ∧ s ≤ 127) ∧ (-128 ≤ t ∧ t ≤ 127)) (hc : w.cell? ⟨b, 0, none⟩ = some (.func (.func 37) #[] #[])) (hb : b < w.heap.size) :
    Calls Try.prog 83 #[.agg #[.int .i8 s, .int .i8 t, .int .i8 g], .pointer (some ⟨b, 0, none⟩)] w fun e w' => e = .returned (.bool (!okProgram s t g)) ∧ Below w.heap.size w w' := by
  have he : ∀ args w, (callFunc 37 args).run Try.prog w = .ok (.enter 37 args) w := enters_of Try.func37 (by kernel_rfl) rfl
  have hne : ¬ b = w.heap.size := by omega
  go_enter Try.func83, Try.ntmps83
  go_wp2_with (go_at_call 37; ((with_reducible refine (c_iValidProgram _ _ _ _).mono ?_); rintro e w1 ⟨rfl, hb⟩))
  go_ret
  exact ⟨rfl, by (repeat (first | with_reducible exact Below.refl _ _ | with_reducible refine below_alloc ?_ _ | with_reducible refine below_drew ?_ | with_reducible refine below_drewN ?_ _ | with_reducible refine below_then ?_ (by assumption)))⟩
theorem c_areAllProgram (A : Option Addr) (n c : Nat) (s t g : Nat → Int) (w : World) (h : ProgsAt w A n s t g) (hn : n ≤ 1048576) (hg : ∀ j, j < n → (-128 ≤ g j ∧ g j ≤ 127) ∧ (-128 ≤ s j ∧ s j ≤ 127) ∧ (-128 ≤ t j ∧ t j ≤ 127)) :
    Calls Try.prog 73 #[.slice A n c, .func (.func 37) #[] #[]] w fun e w' => e = .returned (.bool (allB n fun j => okProgram (s j) (t j) (g j))) ∧ Below w.heap.size w w' := by
  have he : ∀ args w, (callFunc 83 args).run Try.prog w = .ok (.enter 83 args) w := enters_of Try.func83 (by kernel_rfl) rfl
  have hcell := cell_of_row _ w.heap.size 0 _ _ _ (heap_alloc_new w (.cells #[.func (.func 37) #[] #[]] 61 (0, 0)))
  have hI := c_indexProgram 83 #[.pointer (some ⟨w.heap.size, 0, none⟩)] he (fun j => !okProgram (s j) (t j) (g j)) A n c s t g (w.alloc (.cells #[.func (.func 37) #[] #[]] 61 (0, 0))) (h.below (by (repeat (first | with_reducible exact Below.refl _ _ | with_reducible refine below_alloc ?_ _ | with_reducible refine below_drew ?_ | with_reducible refine below_drewN ?_ _ | with_reducible refine below_then ?_ (by assumption))))) hn
    (fun j hj w1 hb => c_areAllProgram1 (s j) (t j) (g j) w.heap.size w1 (hg j hj) ((hb.cell (p := ⟨w.heap.size, 0, none⟩) (by simp)).trans hcell) (Nat.lt_of_lt_of_le (by simp) hb.size))
  have HI := Lib.hid hI
  have hB : Below w.heap.size w (w.alloc (.cells #[.func (.func 37) #[] #[]] 61 (0, 0))) := by (repeat (first | with_reducible exact Below.refl _ _ | with_reducible refine below_alloc ?_ _ | with_reducible refine below_drew ?_ | with_reducible refine below_drewN ?_ _ | with_reducible refine below_then ?_ (by assumption)))
  have HB := Lib.hid hB
  have EN := allB_not n (fun j => okProgram (s j) (t j) (g j))
  have HE := Lib.hid EN
  clear hI hcell hB EN
  have HC : Hid (Calls Try.prog 82 #[.slice A n c, .func (.func 83) #[] #[.pointer (some ⟨w.heap.size, 0, none⟩)]] (w.alloc (.cells #[.func (.func 37) #[] #[]] 61 (0, 0))) fun e w' => e = .returned (.bool (!(allB n fun j => okProgram (s j) (t j) (g j)))) ∧ Below w.heap.size w w') := by
    show Calls _ _ _ _ _
    generalize w.alloc (.cells #[.func (.func 37) #[] #[]] 61 (0, 0)) = wa at *
    go_enter Try.func82, Try.ntmps82
    go_wp2_with (go_at_call 86; ((with_reducible refine HI.out.mono ?_); rintro e w1 ⟨z, rfl, hz, hb⟩; have HZ := Lib.hid hz; clear hz))
    go_ret
    exact ⟨by rw [← HE.out, ← HZ.out]; rfl, Below.trans HB.out (hb.mono HB.out.size)⟩
  clear HI
  go_enter Try.func73, Try.ntmps73
  go_wp2_with (go_at_call 82; ((with_reducible refine HC.out.mono ?_); rintro e w1 ⟨rfl, hb⟩))
  go_ret
  exact ⟨by simp, hb⟩
theorem progs_of {W : World} {A : Option Addr} : ∀ {es : List (List Value)}, (∀ c ∈ es, IntCells [.i8, .i8, .i8] c) → ∃ zs : List (Int × Int × Int), es = zs.map (fun z => [Value.int .i8 z.1, Value.int .i8 z.2.1, Value.int .i8 z.2.2]) ∧ ∀ z ∈ zs, (-128 ≤ z.2.2 ∧ z.2.2 ≤ 127) ∧ (-128 ≤ z.1 ∧ z.1 ≤ 127) ∧ (-128 ≤ z.2.1 ∧ z.2.1 ≤ 127)
  | [], _ => ⟨[], rfl, by simp⟩
  | c :: es, h => by
    obtain ⟨a0, a1, a2, e, w0, w1, w2⟩ := intCells3 (h c (by simp))
    obtain ⟨zs, h1, h2⟩ := progs_of (W := W) (A := A) (es := es) (fun c hc => h c (by simp [hc]))
    refine ⟨(a0, a1, a2) :: zs, by rw [e, h1]; rfl, fun z hz => ?_⟩
    rcases List.mem_cons.1 hz with rfl | hz
    · exact ⟨wf_i8 w2, wf_i8 w0, wf_i8 w1⟩
    · exact h2 z hz
theorem progsAt_of {W : World} {A : Option Addr} {zs : List (Int × Int × Int)} (h : RdRow W A (zs.map (fun z => [Value.int .i8 z.1, Value.int .i8 z.2.1, Value.int .i8 z.2.2])).flatten) : ProgsAt W A zs.length (fun j => (zs.getD j (0, 0, 0)).1) (fun j => (zs.getD j (0, 0, 0)).2.1) (fun j => (zs.getD j (0, 0, 0)).2.2) := by
  refine ⟨fun j hj => ?_⟩
  have hf := flatten_get (sz := 3) (es := zs.map (fun z => [Value.int .i8 z.1, Value.int .i8 z.2.1, Value.int .i8 z.2.2])) (by intro c hc; obtain ⟨z, _, rfl⟩ := List.mem_map.1 hc; rfl) j (by simpa using hj)
  have g0 := hf 0 (by omega)
  have g1 := hf 1 (by omega)
  have g2 := hf 2 (by omega)
  have ez : zs[j]? = some (zs[j]'hj) := by simp [hj]
  have ed : zs.getD j (0, 0, 0) = zs[j]'hj := by simp [List.getD, ez]
  simp [ez] at g0 g1 g2
  obtain ⟨ad, e, c0⟩ := h _ _ g0
  obtain ⟨ad', e', c1⟩ := h _ _ g1
  obtain ⟨ad2, e2, c2⟩ := h _ _ g2
  have hadd : ad' = ad := by rw [e] at e'; exact (Option.some.inj e').symm
  have hadd2 : ad2 = ad := by rw [e] at e2; exact (Option.some.inj e2).symm
  subst hadd
  subst hadd2
  have e1 : ∀ m, m ≠ 0 → ad2.add (j * 3 + m) = ⟨(ad2.add (j * 3)).block, (ad2.add (j * 3)).off + m, none⟩ := by
    intro m hm
    unfold Addr.add
    by_cases hj0 : j * 3 = 0
    · rw [if_pos hj0, if_neg (by omega), hj0, Nat.zero_add]
    · rw [if_neg hj0, if_neg (by omega)]; simp [Nat.add_assoc]
  refine ⟨ad2, e, by rw [ed]; exact c0, ?_, ?_⟩
  · rw [ed, ← e1 1 (by omega)]
    exact c1
  · rw [ed, ← e1 2 (by omega)]
    exact c2
theorem progs_open {W : World} {A : Option Addr} {es : List (List Value)} (w0 : ∀ c ∈ es, IntCells [.i8, .i8, .i8] c) (r0 : RdRow W A es.flatten) : ∃ s t g : Nat → Int, ProgsAt W A es.length s t g ∧ ∀ j, j < es.length → (-128 ≤ g j ∧ g j ≤ 127) ∧ (-128 ≤ s j ∧ s j ≤ 127) ∧ (-128 ≤ t j ∧ t j ≤ 127) := by
  obtain ⟨zs, rfl, hz⟩ := progs_of (W := W) (A := A) w0
  have hL := progsAt_of r0
  refine ⟨_, _, _, by rw [List.length_map]; exact hL, fun j hj => ?_⟩
  rw [List.length_map] at hj
  have ed : zs.getD j (0, 0, 0) = zs[j]'hj := by simp [List.getD, hj]
  rw [ed]; exact hz _ (List.getElem_mem hj)
def fProgram (k0 : Nat) (i : Nat) : Value := if i % 3 = 0 then .int .i8 (IntKind.i8.wrap ((k0 : Int) + (i : Int))) else if i % 3 = 1 then .int .i8 (IntKind.i8.wrap ((k0 : Int) + (i : Int))) else .int .i8 (IntKind.i8.wrap ((k0 : Int) + (i : Int)))
theorem fProgram_0 (k0 k : Nat) : fProgram k0 (k * 3) = .int .i8 (IntKind.i8.wrap ((k0 : Int) + (k : Int) * 3)) := by
  rw [fProgram, if_pos (show (k * 3) % 3 = 0 by omega)]; simp [Int.add_assoc]
theorem fProgram_1 (k0 k : Nat) : fProgram k0 (k * 3 + 1) = .int .i8 (IntKind.i8.wrap ((k0 : Int) + (k : Int) * 3 + 1)) := by
  rw [fProgram, if_neg (show ¬ (k * 3 + 1) % 3 = 0 by omega), if_pos (show (k * 3 + 1) % 3 = 1 by omega)]; simp [Int.add_assoc]
theorem fProgram_2 (k0 k : Nat) : fProgram k0 (k * 3 + 2) = .int .i8 (IntKind.i8.wrap ((k0 : Int) + (k : Int) * 3 + 1 + 1)) := by
  rw [fProgram, if_neg (show ¬ (k * 3 + 2) % 3 = 0 by omega), if_neg (show ¬ (k * 3 + 2) % 3 = 1 by omega)]; simp [Int.add_assoc]
set_option maxHeartbeats 1000000 in
theorem c_markProgramS (v : Value) (base n k0 : Nat) (q : Int) (xs : List Value) (w : World) (h : w.ownsRow base 59 3 v n xs) (hn : n ≤ 1048576) (hk0 : k0 ≤ 100000000) (hq : q = (k0 : Int)) :
    Calls Try.prog 19 #[v, .int .i64 q] w fun e w' => e = .returned (.int .i64 (q + ((n * 3 : Nat) : Int))) ∧ w'.ownsRow base 59 3 v n ((List.range (n * 3)).map (fProgram k0)) ∧ TouV v w w' := by
  subst hq
  obtain ⟨A, c, rfl, hA⟩ := own_form h
  have HX := Lib.hid h
  have hx := h.1
  clear h
  go_enter Try.func19, Try.ntmps19
  go_wp2
  go_loopw [5, 1] (fun i q wr => ∃ k : Nat, k ≤ n ∧ i = .int .i64 k ∧ q = .int .i64 ((k0 : Int) + ((k * 3 : Nat) : Int)) ∧ Hid (wr.ownsRow base 59 3 (.slice A n c) n (marked (fProgram k0) (k * 3) xs)) ∧ Hid (TouV (.slice A n c) w wr)) (fun i _ _ => n - (intOf i).toNat)
  case atStart => exact ⟨0, by omega, rfl, by simp, by rw [Hid, Nat.zero_mul, marked_zero]; exact HX.out, TouV.refl _ _⟩
  case round =>
    obtain ⟨k, hk, rfl, rfl, hI, hB⟩ := hrel
    by_cases hlt : k < n
    · have d1 : decide ((k : Int) < (n : Int)) = true := by simp; omega
      obtain ⟨g, rfl, hg⟩ := hA (by omega)
      have k1 : (0 : Int) ≤ (k : Int) := by omega
      have k2 : (k : Int) < (n : Int) := by omega
      have hL : (marked (fProgram k0) (k * 3) xs).length = n * 3 := by rw [marked_len _ (by omega)]; exact hx
      obtain ⟨x0, f0⟩ := own_get hI.out (List.getElem?_eq_getElem (show k * 3 < (marked (fProgram k0) (k * 3) xs).length by omega))
      obtain ⟨x1, f1⟩ := own_get hI.out (List.getElem?_eq_getElem (show k * 3 + 1 < (marked (fProgram k0) (k * 3) xs).length by omega))
      obtain ⟨x2, f2⟩ := own_get hI.out (List.getElem?_eq_getElem (show k * 3 + 2 < (marked (fProgram k0) (k * 3) xs).length by omega))
      generalize (marked (fProgram k0) (k * 3) xs)[k * 3]'(by omega) = u0 at *
      generalize (marked (fProgram k0) (k * 3) xs)[k * 3 + 1]'(by omega) = u1 at *
      generalize (marked (fProgram k0) (k * 3) xs)[k * 3 + 2]'(by omega) = u2 at *
      go_wp2
      go_roundw
      case rel =>
        refine ⟨k + 1, by omega, by go_num, by congr 1; omega, ?_, TouV.setCell (TouV.setCell (TouV.setCell hB.out rfl _ _) rfl _ _) rfl _ _⟩
        have := own_set (own_set (own_set hI.out (k * 3) (by omega) (fProgram k0 (k * 3))) (k * 3 + 1) (by omega) (fProgram k0 (k * 3 + 1))) (k * 3 + 2) (by omega) (fProgram k0 (k * 3 + 2))
        rw [marked_set (fProgram k0) (by omega), marked_set (fProgram k0) (by omega), marked_set (fProgram k0) (by omega), fProgram_0, fProgram_1, fProgram_2] at this
        rw [Hid, show (k + 1) * 3 = k * 3 + 2 + 1 by omega]
        exact this
      case measure => simp [intOf]; omega
    · obtain rfl : k = n := by omega
      have d1 : decide ((k : Int) < (k : Int)) = false := by simp
      have hO := hI.out
      rw [marked_all _ (by omega)] at hO
      have HO := Lib.hid hO
      clear hO hI
      go_wp2
      go_ret
      exact ⟨rfl, HO.out, hB.out⟩
theorem c_markProgramE (v : Value) (base n : Nat) (q : Int) (xs : List Value) (w : World) (h : w.ownsRow base 59 3 v n xs) (hn : n ≤ 1048576) (h0 : 0 ≤ q) (h1 : q ≤ 50000000) :
    Calls Try.prog 19 #[v, .int .i64 q] w fun e w' => ∃ r : Int, e = .returned (.int .i64 r) ∧ q ≤ r ∧ r ≤ q + 3 * (n : Int) ∧ (∃ ys, w'.ownsRow base 59 3 v n ys) ∧ TouV v w w' := by
  refine (c_markProgramS v base n q.toNat q xs w h hn (by omega) (by omega)).mono ?_
  rintro e w1 ⟨rfl, hO, ht⟩
  exact ⟨_, rfl, by omega, by push_cast; omega, ⟨_, hO⟩, ht⟩
theorem c_szProgramL (A : Option Addr) (n c : Nat) (left : Int) (w : World) (hn : n ≤ 9223372036854775807) (h0 : 0 ≤ left) (h1 : left ≤ 1048576) :
    Calls Try.prog 8 #[.slice A n c, .int .i64 left] w fun e w' => e = .returned (.int .i64 (if (n : Int) ≤ left then left - (n : Int) else -1)) ∧ w = w' := by
  by_cases h : (n : Int) ≤ left
  · have E : Hid ((if (n : Int) ≤ left then left - (n : Int) else -1) = left - (n : Int)) := by rw [Hid, if_pos h]
    have d : decide (left - (n : Int) < 0) = false := by simp; omega
    go_enter Try.func8, Try.ntmps8
    go_wp2
    go_ret
    exact ⟨by first | rfl | (rw [E.out]; rfl), rfl⟩
  · have E : Hid ((if (n : Int) ≤ left then left - (n : Int) else -1) = -1) := by rw [Hid, if_neg h]
    have d : decide (left - (n : Int) < 0) = true := by simp; omega
    go_enter Try.func8, Try.ntmps8
    go_wp2
    go_ret
    exact ⟨by first | rfl | (rw [E.out]; rfl), rfl⟩
theorem c_toProgramX (A : Option Addr) (n c : Nat) (s t g : Nat → Int) (w : World) (h : ProgsAt w A n s t g) (hn : n ≤ 1048576) :
    Calls Try.prog 11 #[.slice A n c] w fun e w' => ∃ b xs, e = .returned (.slice (some ⟨b, 0, none⟩) n n) ∧ ProgsAt w' (some ⟨b, 0, none⟩) n s t g ∧ w'.ownsRow w.heap.size 59 3 (.slice (some ⟨b, 0, none⟩) n n) n xs ∧ Below w.heap.size w w' := by
  refine (c_toProgramR A n c s t g w h hn).mono ?_
  rintro e w1 ⟨arr, rfl, hs, hA, hC, hb⟩
  exact ⟨_, _, rfl, ProgsAt.of_row hA hC, own_of_row hA hs (Nat.le_refl _) hn, hb⟩
end Go.Proofs.Ytjgnojjndjincaa
