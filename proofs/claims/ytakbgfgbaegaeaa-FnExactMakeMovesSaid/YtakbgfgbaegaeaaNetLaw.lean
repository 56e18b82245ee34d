/- The law on what each place has more. -/
import Derived.Test.YtakbgfgbaegaeaaNetSpec
import Derived.Deep.QuietTactic
import Derived.BigQuiet
namespace Go.Proofs.Ytakbgfgbaegaeaa
open Go.RowKit
set_option linter.unusedVariables false
set_option linter.unusedSimpArgs false
set_option maxRecDepth 100000

theorem tou_newP {w w1 : World} {o : Obj} (ht : Tou w.heap.size (w.alloc o) w1) : Below w.heap.size w w1 := (below_alloc (Below.refl _ _) _).trans (ht.below (Nat.le_refl _))
set_option maxHeartbeats 800000 in
theorem c_eqPlaces (hs : List Int) (w : World) (h8 : hs.length = 5) :
    Calls Try.prog 15 #[.agg (nums .i32 hs).toArray, .agg (nums .i32 hs).toArray] w fun e w' => e = .returned (.bool true) ∧ Below w.heap.size w w' := by
  have H8 := Lib.hid h8
  have HA := Lib.hid (blk_alloc (heap_alloc_new w (.cells (nums .i32 hs).toArray 32 (0, 0))) (.cells (nums .i32 hs).toArray 32 (0, 0)))
  have hb := heap_alloc_new (w.alloc (.cells (nums .i32 hs).toArray 32 (0, 0))) (.cells (nums .i32 hs).toArray 32 (0, 0))
  rw [World.size_alloc] at hb
  have HBk := Lib.hid hb
  clear h8 hb
  go_enter Try.func15, Try.ntmps15
  go_wp2
  have HB0 : Hid (Below w.heap.size w ((w.alloc (.cells (nums .i32 hs).toArray 32 (0, 0))).alloc (.cells (nums .i32 hs).toArray 32 (0, 0)))) := below_alloc (below_alloc (Below.refl _ _) _) _
  generalize (w.alloc (.cells (nums .i32 hs).toArray 32 (0, 0))).alloc (.cells (nums .i32 hs).toArray 32 (0, 0)) = wa at *
  go_loopw [5] (fun i wr => ∃ k : Nat, k ≤ 5 ∧ i = .int .i64 k ∧ wr.heap = wa.heap ∧ Below w.heap.size w wr) (fun i _ => 5 - (intOf i).toNat)
  case atStart => exact ⟨0, by omega, rfl, rfl, HB0.out⟩
  case round =>
    obtain ⟨k, hk, rfl, hW, hB⟩ := hrel
    have HB := Lib.hid hB
    clear hB
    by_cases hlt : k < 5
    · have d1 : decide ((k : Int) < 5) = true := by simp; omega
      have c1 : wr.cell? ⟨w.heap.size, k, none⟩ = some (.int .i32 (gi hs k)) := nums_cell (t := 32) (fr := (0, 0)) (by rw [hW]; exact HA.out) k (by rw [H8.out]; omega)
      have c2 : wr.cell? ⟨w.heap.size + 1, k, none⟩ = some (.int .i32 (gi hs k)) := nums_cell (t := 32) (fr := (0, 0)) (by rw [hW]; exact HBk.out) k (by rw [H8.out]; omega)
      have k0 : (0 : Int) ≤ (k : Int) := by omega
      have k1 : (k : Int) < 5 := by omega
      have HW := Lib.hid hW
      clear hW
      go_wp2
      go_quiet (fail)
      go_wp2
      go_roundw
      case rel => exact ⟨k + 1, by omega, by go_num, HW.out, below_drewN HB.out _⟩
      case measure => simp [intOf]; omega
    · obtain rfl : k = 5 := by omega
      go_wp2
      go_ret
      exact ⟨rfl, HB.out⟩


end Go.Proofs.Ytakbgfgbaegaeaa
