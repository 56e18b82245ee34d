/- Holes of a piece: eight bytes, read bit by bit. -/
import Derived.Test.YtcbegcekdmmjpaaProg
import Derived.Test.YtcbegcekdmmjpaaHolesPure
import Derived.Test.YtcbegcekdmmjpaaScalars
import Derived.Test.YtcbegcekdmmjpaaShelf
namespace Go.Proofs.Ytcbegcekdmmjpaa
open Go.RowKit
set_option linter.unusedVariables false
set_option linter.unusedSimpArgs false

/-- Holes lie at a place: eight bytes. -/
def HAt (w : World) (g o : Nat) (hs : List Int) : Prop := ∀ j : Nat, j < 8 → w.cell? ⟨g, o + j, none⟩ = some (.int .u8 (gi hs j))
theorem ret_int {k : IntKind} {a b : Int} (h : a = b) : Ending.returned (.int k a) = .returned (.int k b) := by rw [h]
theorem tmod2 (a : Int) (h : 0 ≤ a) : a.tmod 2 = a % 2 := Int.tmod_eq_emod_of_nonneg h

theorem c_l06Hole (g o : Nat) (hs : List Int) (x y : Int) (w : World) (h8 : Holes8 hs) (hc : HAt w g o hs) :
    Calls Try.prog 46 #[.pointer (some ⟨g, o, none⟩), .int .i64 x, .int .i64 y] w fun e w' => e = .returned (.bool (hole hs x y)) ∧ w = w' := by
  by_cases a1 : 0 ≤ x
  · by_cases a2 : 0 ≤ y
    · by_cases a3 : x < 8
      · by_cases a4 : y < 8
        · have h1 := hc y.toNat (by omega)
          have h2 := h8.bd y.toNat
          have h3 : 0 ≤ gi hs y.toNat / 2 ^ x.toNat := Int.ediv_nonneg h2.1 (Int.pow_nonneg (by omega))
          have e : (((gi hs y.toNat / 2 ^ x.toNat).tmod 2 == 1) : Bool) = hole hs x y := by
            rw [tmod2 _ h3]
            simp [hole, bitAt, a1, a2, a3, a4]
          have E := Lib.hid e
          clear e hc h3 h8
          go_enter Try.func46, Try.ntmps46
          go_wp2
          go_ret
          exact ⟨by rw [← E.out]; rfl, rfl⟩
        · have e : hole hs x y = false := by simp [hole, a4]
          have E := Lib.hid e
          clear e hc h8
          go_enter Try.func46, Try.ntmps46
          go_wp2
          go_ret
          exact ⟨by rw [E.out]; rfl, rfl⟩
      · have e : hole hs x y = false := by simp [hole, a3]
        have E := Lib.hid e
        clear e hc h8
        go_enter Try.func46, Try.ntmps46
        go_wp2
        go_ret
        exact ⟨by rw [E.out]; rfl, rfl⟩
    · have e : hole hs x y = false := by simp [hole, a2]
      have E := Lib.hid e
      clear e hc h8
      go_enter Try.func46, Try.ntmps46
      go_wp2
      go_ret
      exact ⟨by rw [E.out]; rfl, rfl⟩
  · have e : hole hs x y = false := by simp [hole, a1]
    have E := Lib.hid e
    clear e hc h8
    go_enter Try.func46, Try.ntmps46
    go_wp2
    go_ret
    exact ⟨by rw [E.out]; rfl, rfl⟩

set_option maxHeartbeats 400000 in
theorem c_l06Count (g o : Nat) (hs : List Int) (w : World) (h8 : Holes8 hs) (hc : HAt w g o hs) :
    Calls Try.prog 40 #[.pointer (some ⟨g, o, none⟩)] w fun e w' => e = .returned (.int .i64 (cnt hs 64)) ∧ w = w' := by
  have H8 := Lib.hid h8
  have HC := Lib.hid hc
  clear h8 hc
  go_enter Try.func40, Try.ntmps40
  go_wp2
  go_loop [3, 4] (fun n y => ∃ k : Nat, k ≤ 8 ∧ y = .int .i64 k ∧ n = .int .i64 (cnt hs (8 * k))) (fun _ y => 8 - (intOf y).toNat)
  case atStart => exact ⟨0, by omega, rfl, rfl⟩
  case round =>
    obtain ⟨k, hk, rfl, rfl⟩ := hrel
    by_cases hlt : k < 8
    · go_wp2
      go_loop [3, 5] (fun n x => ∃ j : Nat, j ≤ 8 ∧ x = .int .i64 j ∧ n = .int .i64 (cnt hs (8 * k + j))) (fun _ x => 8 - (intOf x).toNat)
      case atStart => exact ⟨0, by omega, rfl, rfl⟩
      case round =>
        obtain ⟨j, hj, rfl, rfl⟩ := hrel
        have hb := cnt_bd hs (8 * k + j)
        by_cases hlt2 : j < 8
        · cases hh : hole hs (j : Int) (k : Int)
          · have e : Hid (cnt hs (8 * k + (j + 1)) = cnt hs (8 * k + j)) := by rw [Hid, cnt_step hs k j hlt2, hh]; simp
            go_wp2_with (go_at_call 46; ((with_reducible refine (c_l06Hole g o hs _ _ _ H8.out HC.out).mono ?_); rintro e w1 ⟨rfl, rfl⟩))
            go_round
            case rel => exact ⟨j + 1, by omega, by go_num, by rw [e.out]⟩
            case measure => simp [intOf]; omega
          · have e : Hid (cnt hs (8 * k + (j + 1)) = cnt hs (8 * k + j) + 1) := by rw [Hid, cnt_step hs k j hlt2, hh]; simp
            go_wp2_with (go_at_call 46; ((with_reducible refine (c_l06Hole g o hs _ _ _ H8.out HC.out).mono ?_); rintro e w1 ⟨rfl, rfl⟩))
            go_round
            case rel => exact ⟨j + 1, by omega, by go_num, by rw [e.out]⟩
            case measure => simp [intOf]; omega
        · obtain rfl : j = 8 := by omega
          go_wp2
          go_round
          case rel => exact ⟨k + 1, by omega, by go_num, by rw [show 8 * (k + 1) = 8 * k + 8 by omega]⟩
          case measure => simp [intOf]; omega
    · obtain rfl : k = 8 := by omega
      go_wp2
      go_ret
      exact ⟨rfl, rfl⟩

theorem HAt_row {w : World} {g : Nat} {hs : List Int} {t : TypeId} {fr : Nat × Nat} (hl : hs.length = 8) (h : w.heap[g]? = some (.cells (nums .u8 hs).toArray t fr)) : HAt w g 0 hs := by
  intro j hj
  rw [Nat.zero_add, cell_of_row w g j _ t fr h]
  simpa using nums_at j (by omega)

theorem c_sCountHoles (hs : List Int) (w : World) (h8 : Holes8 hs) :
    Calls Try.prog 18 #[.agg (nums .u8 hs).toArray] w fun e w' => e = .returned (.int .i64 (cnt hs 64)) ∧ Below w.heap.size w w' := by
  have H8 := Lib.hid h8
  clear h8
  go_enter Try.func18, Try.ntmps18
  go_wp2_with (go_at_call 40; ((with_reducible refine (c_l06Count _ 0 hs _ H8.out (HAt_row H8.out.len (heap_alloc_new w _))).mono ?_); rintro e w1 ⟨rfl, rfl⟩))
  go_ret
  exact ⟨rfl, by (repeat (first | with_reducible exact Below.refl _ _ | with_reducible refine below_alloc ?_ _ | with_reducible refine below_drew ?_ | with_reducible refine below_drewN ?_ _ | with_reducible refine below_then ?_ (by assumption)))⟩

def popRow (b : Int) : Int := (if bitAt b 0 == 1 then 1 else 0) + (if bitAt b 1 == 1 then 1 else 0) + (if bitAt b 2 == 1 then 1 else 0) + (if bitAt b 3 == 1 then 1 else 0) + (if bitAt b 4 == 1 then 1 else 0) + (if bitAt b 5 == 1 then 1 else 0) + (if bitAt b 6 == 1 then 1 else 0) + (if bitAt b 7 == 1 then 1 else 0)
theorem cnt_row (hs : List Int) (k : Nat) (hk : k < 8) : cnt hs (8 * (k + 1)) = cnt hs (8 * k) + popRow (gi hs k) := by
  have h := fun j (hj : j < 8) => cnt_step hs k j hj
  have e := fun j (hj : j < 8) => hole_in (hs := hs) hj hk
  rw [show 8 * (k + 1) = 8 * k + (7 + 1) by omega, h 7 (by omega), h 6 (by omega), h 5 (by omega), h 4 (by omega), h 3 (by omega), h 2 (by omega), h 1 (by omega), h 0 (by omega), e 0 (by omega), e 1 (by omega), e 2 (by omega), e 3 (by omega), e 4 (by omega), e 5 (by omega), e 6 (by omega), e 7 (by omega)]
  simp only [popRow]
  simp only [Nat.add_zero, Int.add_assoc]
  rfl
theorem pop_fin : ∀ b : Fin 256, ((Lib.onesCount b.val : Nat) : Int) = popRow (b.val : Int) := by decide +kernel
theorem pop_row (b : Int) (h0 : 0 ≤ b) (h1 : b ≤ 255) : ((Lib.onesCount b.toNat : Nat) : Int) = popRow b := by
  have := pop_fin ⟨b.toNat, by omega⟩
  simp only at this
  rw [this, Int.toNat_of_nonneg h0]

theorem c_Ones (b : Int) (w : World) (h0 : 0 ≤ b) (h1 : b ≤ 255) : Calls Try.prog 39 #[.int .u8 b] w fun e w' => e = .returned (.int .i64 (popRow b)) ∧ w = w' :=
  (Try.bits_OnesCount8 b w h0 h1).mono fun _ _ ⟨a, c⟩ => ⟨by rw [a, pop_row b h0 h1], c.symm⟩
theorem popRow_bd (b : Int) : 0 ≤ popRow b ∧ popRow b ≤ 8 := by
  unfold popRow
  repeat' split
  all_goals omega
set_option maxRecDepth 100000 in
theorem c_iCountHoles (hs : List Int) (w : World) (h8 : Holes8 hs) :
    Calls Try.prog 16 #[.agg (nums .u8 hs).toArray] w fun e w' => e = .returned (.int .i64 (cnt hs 64)) ∧ Below w.heap.size w w' := by
  have H8 := Lib.hid h8
  clear h8
  have hi : (Try.prog.info? 25).map (·.size) = some (nums .u8 hs).toArray.size := by
    have e : (Try.prog.info? 25).map (·.size) = some 8 := by kernel_rfl
    rw [e]; simp [nums, H8.out.len]
  have HI := Lib.hid hi
  clear hi
  go_enter Try.func16, Try.ntmps16
  go_wp2_with (refine wpList_load_row rfl 25 (.tmp 1) rfl w.heap.size rfl 25 _ (0, 0) _ (heap_alloc_new w _) Try.underlying25 rfl HI.out ?_)
  go_loop [3, 7] (fun n y => ∃ k : Nat, k ≤ 8 ∧ y = .int .i64 k ∧ n = .int .i64 (cnt hs (8 * k))) (fun _ y => 8 - (intOf y).toNat)
  case atStart => exact ⟨0, by omega, rfl, rfl⟩
  case round =>
    obtain ⟨k, hk, rfl, rfl⟩ := hrel
    by_cases hlt : k < 8
    · have h8 := H8.out
      have e1 := nums_at (k := .u8) (xs := hs) k (by rw [h8.len]; omega)
      have r1 : ∀ w, (Instr.index 25 (.agg (nums .u8 hs).toArray) (.int .i64 (k : Int))).run Try.prog w = .ok (.int .u8 (gi hs k)) w := fun w =>
        run_index_arr Try.underlying25 Try.underlying5 (by kernel_rfl) w _ k (by omega) _ (by simpa using e1) .i64
      have hb := h8.bd k
      have hcb := cnt_bd hs (8 * k)
      have hpb := popRow_bd (gi hs k)
      have E := Lib.hid (cnt_row hs k hlt)
      clear e1 h8
      go_wp2_with (go_at_call 39; ((with_reducible refine (c_Ones _ _ hb.1 hb.2).mono ?_); rintro e w1 ⟨rfl, rfl⟩))
      go_round
      case rel => exact ⟨k + 1, by omega, by go_num, by rw [E.out]⟩
      case measure => simp [intOf]; omega
    · obtain rfl : k = 8 := by omega
      go_wp2
      go_ret
      exact ⟨rfl, by (repeat (first | with_reducible exact Below.refl _ _ | with_reducible refine below_alloc ?_ _ | with_reducible refine below_drew ?_ | with_reducible refine below_drewN ?_ _ | with_reducible refine below_then ?_ (by assumption)))⟩
end Go.Proofs.Ytcbegcekdmmjpaa
