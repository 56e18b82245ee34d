/- Slices of moves: copied out of an argument as a row of the call's own, marked, held. -/
import Derived.Test.YtdcemmhfbfogdaaDoorMoveLaw
import Derived.Test.YtdcemmhfbfogdaaDoorInt64S
namespace Go.Proofs.YtdcemmhfbfogdaaDoor
open Go.RowKit
set_option linter.unusedVariables false
set_option linter.unusedSimpArgs false
set_option maxRecDepth 100000

def fMove (k0 : Nat) (i : Nat) : Value := if i % 3 = 0 then .int .i8 (IntKind.i8.wrap ((k0 : Int) + (i : Int))) else if i % 3 = 1 then .int .i8 (IntKind.i8.wrap ((k0 : Int) + (i : Int))) else .int .i16 (IntKind.i16.wrap ((k0 : Int) + (i : Int)))
theorem fMove_0 (k0 k : Nat) : fMove k0 (k * 3) = .int .i8 (IntKind.i8.wrap ((k0 : Int) + (k : Int) * 3)) := by
  rw [fMove, if_pos (show (k * 3) % 3 = 0 by omega)]; simp [Int.add_assoc]
theorem fMove_1 (k0 k : Nat) : fMove k0 (k * 3 + 1) = .int .i8 (IntKind.i8.wrap ((k0 : Int) + (k : Int) * 3 + 1)) := by
  rw [fMove, if_neg (show ¬ (k * 3 + 1) % 3 = 0 by omega), if_pos (show (k * 3 + 1) % 3 = 1 by omega)]; simp [Int.add_assoc]
theorem fMove_2 (k0 k : Nat) : fMove k0 (k * 3 + 2) = .int .i16 (IntKind.i16.wrap ((k0 : Int) + (k : Int) * 3 + 1 + 1)) := by
  rw [fMove, if_neg (show ¬ (k * 3 + 2) % 3 = 0 by omega), if_neg (show ¬ (k * 3 + 2) % 3 = 1 by omega)]; simp [Int.add_assoc]
set_option maxHeartbeats 1000000 in
theorem c_markMoveS (v : Value) (base n k0 : Nat) (q : Int) (xs : List Value) (w : World) (h : w.ownsRow base 62 3 v n xs) (hn : n ≤ 1048576) (hk0 : k0 ≤ 100000000) (hq : q = (k0 : Int)) :
    Calls Tryd.prog 23 #[v, .int .i64 q] w fun e w' => e = .returned (.int .i64 (q + ((n * 3 : Nat) : Int))) ∧ w'.ownsRow base 62 3 v n ((List.range (n * 3)).map (fMove k0)) ∧ TouV v w w' := by
  subst hq
  obtain ⟨A, c, rfl, hA⟩ := own_form h
  have HX := Lib.hid h
  have hx := h.1
  clear h
  go_enter Tryd.func23, Tryd.ntmps23
  go_wp2
  go_loopw [5, 1] (fun i q wr => ∃ k : Nat, k ≤ n ∧ i = .int .i64 k ∧ q = .int .i64 ((k0 : Int) + ((k * 3 : Nat) : Int)) ∧ Hid (wr.ownsRow base 62 3 (.slice A n c) n (marked (fMove k0) (k * 3) xs)) ∧ Hid (TouV (.slice A n c) w wr)) (fun i _ _ => n - (intOf i).toNat)
  case atStart => exact ⟨0, by omega, rfl, by simp, by rw [Hid, Nat.zero_mul, marked_zero]; exact HX.out, TouV.refl _ _⟩
  case round =>
    obtain ⟨k, hk, rfl, rfl, hI, hB⟩ := hrel
    by_cases hlt : k < n
    · have d1 : decide ((k : Int) < (n : Int)) = true := by simp; omega
      obtain ⟨g, rfl, hg⟩ := hA (by omega)
      have k1 : (0 : Int) ≤ (k : Int) := by omega
      have k2 : (k : Int) < (n : Int) := by omega
      have hL : (marked (fMove k0) (k * 3) xs).length = n * 3 := by rw [marked_len _ (by omega)]; exact hx
      obtain ⟨x0, f0⟩ := own_get hI.out (List.getElem?_eq_getElem (show k * 3 < (marked (fMove k0) (k * 3) xs).length by omega))
      obtain ⟨x1, f1⟩ := own_get hI.out (List.getElem?_eq_getElem (show k * 3 + 1 < (marked (fMove k0) (k * 3) xs).length by omega))
      obtain ⟨x2, f2⟩ := own_get hI.out (List.getElem?_eq_getElem (show k * 3 + 2 < (marked (fMove k0) (k * 3) xs).length by omega))
      generalize (marked (fMove k0) (k * 3) xs)[k * 3]'(by omega) = u0 at *
      generalize (marked (fMove k0) (k * 3) xs)[k * 3 + 1]'(by omega) = u1 at *
      generalize (marked (fMove k0) (k * 3) xs)[k * 3 + 2]'(by omega) = u2 at *
      go_wp2
      go_roundw
      case rel =>
        refine ⟨k + 1, by omega, by go_num, by congr 1; omega, ?_, TouV.setCell (TouV.setCell (TouV.setCell hB.out rfl _ _) rfl _ _) rfl _ _⟩
        have := own_set (own_set (own_set hI.out (k * 3) (by omega) (fMove k0 (k * 3))) (k * 3 + 1) (by omega) (fMove k0 (k * 3 + 1))) (k * 3 + 2) (by omega) (fMove k0 (k * 3 + 2))
        rw [marked_set (fMove k0) (by omega), marked_set (fMove k0) (by omega), marked_set (fMove k0) (by omega), fMove_0, fMove_1, fMove_2] at this
        rw [Hid, show (k + 1) * 3 = k * 3 + 2 + 1 by omega]
        exact this
      case measure => simp [intOf]; omega
    · obtain rfl : k = n := by omega
      have d1 : decide ((k : Int) < (k : Int)) = false := by simp
      have hO := hI.out
      rw [marked_all _ (by omega)] at hO
      have HO := Lib.hid hO
      clear hO hI
      go_wp2
      go_ret
      exact ⟨rfl, HO.out, hB.out⟩
theorem c_markMoveE (v : Value) (base n : Nat) (q : Int) (xs : List Value) (w : World) (h : w.ownsRow base 62 3 v n xs) (hn : n ≤ 1048576) (h0 : 0 ≤ q) (h1 : q ≤ 50000000) :
    Calls Tryd.prog 23 #[v, .int .i64 q] w fun e w' => ∃ r : Int, e = .returned (.int .i64 r) ∧ q ≤ r ∧ r ≤ q + 3 * (n : Int) ∧ (∃ ys, w'.ownsRow base 62 3 v n ys) ∧ TouV v w w' := by
  refine (c_markMoveS v base n q.toNat q xs w h hn (by omega) (by omega)).mono ?_
  rintro e w1 ⟨rfl, hO, ht⟩
  exact ⟨_, rfl, by omega, by push_cast; omega, ⟨_, hO⟩, ht⟩
set_option maxHeartbeats 1000000 in
theorem c_heldMoveS (v : Value) (base n k0 : Nat) (q : Int) (w : World) (h : w.ownsRow base 62 3 v n ((List.range (n * 3)).map (fMove k0))) (hn : n ≤ 1048576) (hk0 : k0 ≤ 100000000) (hq : q = (k0 : Int)) :
    Calls Tryd.prog 24 #[v, .int .i64 q] w fun e w' => e = .returned (.int .i64 (q + ((n * 3 : Nat) : Int))) ∧ w = w' := by
  subst hq
  obtain ⟨A, c, rfl, hA⟩ := own_form h
  have HX := Lib.hid h
  clear h
  go_enter Tryd.func24, Tryd.ntmps24
  go_wp2
  go_loop [5, 1] (fun i q => ∃ k : Nat, k ≤ n ∧ i = .int .i64 k ∧ q = .int .i64 ((k0 : Int) + ((k * 3 : Nat) : Int))) (fun i _ => n - (intOf i).toNat)
  case atStart => exact ⟨0, by omega, rfl, by simp⟩
  case round =>
    obtain ⟨k, hk, rfl, rfl⟩ := hrel
    by_cases hlt : k < n
    · have d1 : decide ((k : Int) < (n : Int)) = true := by simp; omega
      obtain ⟨g, rfl, hg⟩ := hA (by omega)
      have k1 : (0 : Int) ≤ (k : Int) := by omega
      have k2 : (k : Int) < (n : Int) := by omega
      obtain ⟨x0, f0⟩ := own_get HX.out (marked_get (fMove k0) (show k * 3 < n * 3 by omega))
      rw [fMove_0] at x0
      obtain ⟨x1, f1⟩ := own_get HX.out (marked_get (fMove k0) (show k * 3 + 1 < n * 3 by omega))
      rw [fMove_1] at x1
      obtain ⟨x2, f2⟩ := own_get HX.out (marked_get (fMove k0) (show k * 3 + 2 < n * 3 by omega))
      rw [fMove_2] at x2
      go_wp2
      go_round
      case rel => exact ⟨k + 1, by omega, by go_num, by congr 1; omega⟩
      case measure => simp [intOf]; omega
    · obtain rfl : k = n := by omega
      have d1 : decide ((k : Int) < (k : Int)) = false := by simp
      go_wp2
      go_ret
      exact ⟨rfl, rfl⟩
theorem c_szMoveL (A : Option Addr) (n c : Nat) (left : Int) (w : World) (hn : n ≤ 9223372036854775807) (h0 : 0 ≤ left) (h1 : left ≤ 1048576) :
    Calls Tryd.prog 16 #[.slice A n c, .int .i64 left] w fun e w' => e = .returned (.int .i64 (if (n : Int) ≤ left then left - (n : Int) else -1)) ∧ w = w' := by
  by_cases h : (n : Int) ≤ left
  · have E : Hid ((if (n : Int) ≤ left then left - (n : Int) else -1) = left - (n : Int)) := by rw [Hid, if_pos h]
    have d : decide (left - (n : Int) < 0) = false := by simp; omega
    go_enter Tryd.func16, Tryd.ntmps16
    go_wp2
    go_ret
    exact ⟨by first | rfl | (rw [E.out]; rfl), rfl⟩
  · have E : Hid ((if (n : Int) ≤ left then left - (n : Int) else -1) = -1) := by rw [Hid, if_neg h]
    have d : decide (left - (n : Int) < 0) = true := by simp; omega
    go_enter Tryd.func16, Tryd.ntmps16
    go_wp2
    go_ret
    exact ⟨by first | rfl | (rw [E.out]; rfl), rfl⟩
theorem c_toMoveX (A : Option Addr) (n c : Nat) (s t g : Nat → Int) (w : World) (h : MovesAt w A n s t g) (hn : n ≤ 1048576) :
    Calls Tryd.prog 18 #[.slice A n c] w fun e w' => ∃ b xs, e = .returned (.slice (some ⟨b, 0, none⟩) n n) ∧ MovesAt w' (some ⟨b, 0, none⟩) n s t g ∧ w'.ownsRow w.heap.size 62 3 (.slice (some ⟨b, 0, none⟩) n n) n xs ∧ Below w.heap.size w w' := by
  refine (c_toMoveR A n c s t g w h hn).mono ?_
  rintro e w1 ⟨arr, rfl, hs, hA, hC, hb⟩
  exact ⟨_, _, rfl, MovesAt.of_row hA hC, own_of_row hA hs (Nat.le_refl _) hn, hb⟩
theorem moves_open {W : World} {A : Option Addr} {es : List (List Value)} (w0 : ∀ c ∈ es, IntCells [.i8, .i8, .i16] c) (r0 : RdRow W A es.flatten) : ∃ s t g : Nat → Int, MovesAt W A es.length s t g ∧ ∀ j, j < es.length → (-32768 ≤ g j ∧ g j ≤ 32767) ∧ (-128 ≤ s j ∧ s j ≤ 127) ∧ (-128 ≤ t j ∧ t j ≤ 127) := by
  obtain ⟨zs, rfl, hz⟩ := moves_of (W := W) (A := A) w0
  have hL := movesAt_of r0
  refine ⟨_, _, _, by rw [List.length_map]; exact hL, fun j hj => ?_⟩
  rw [List.length_map] at hj
  have ed : zs.getD j (0, 0, 0) = zs[j]'hj := by simp [List.getD, hj]
  rw [ed]; exact hz _ (List.getElem_mem hj)
/-- Moves of a row stay while another row is written. -/
theorem MovesAt.touV {w w1 : World} {b n : Nat} {s t g : Nat → Int} {v : Value} (h : MovesAt w (some ⟨b, 0, none⟩) n s t g) (ht : TouV v w w1) (hv : v.ownBlock ≠ some b) : MovesAt w1 (some ⟨b, 0, none⟩) n s t g := by
  refine ⟨fun j hj => ?_⟩
  obtain ⟨ad, e, c0, c1, c2⟩ := h.at_ j hj
  cases e
  have hb := ht.block b hv
  refine ⟨_, rfl, (World.cell?_of_block ?_).trans c0, (World.cell?_of_block ?_).trans c1, (World.cell?_of_block ?_).trans c2⟩ <;> (simp only [Addr.add]; (try split) <;> exact hb)
theorem c_markMove1 (v : Value) (base n : Nat) (xs : List Value) (w : World) (h : w.ownsRow base 62 3 v n xs) (hn : n ≤ 1048576) :
    Calls Tryd.prog 23 #[v, .int .i64 1] w fun e w' => e = .returned (.int .i64 (1 + ((n * 3 : Nat) : Int))) ∧ w'.ownsRow base 62 3 v n ((List.range (n * 3)).map (fMove 1)) ∧ TouV v w w' := c_markMoveS v base n 1 1 xs w h hn (by omega) rfl
theorem c_heldMove1 (v : Value) (base n : Nat) (w : World) (h : w.ownsRow base 62 3 v n ((List.range (n * 3)).map (fMove 1))) (hn : n ≤ 1048576) :
    Calls Tryd.prog 24 #[v, .int .i64 1] w fun e w' => e = .returned (.int .i64 (1 + ((n * 3 : Nat) : Int))) ∧ w = w' := c_heldMoveS v base n 1 1 w h hn (by omega) rfl
end Go.Proofs.YtdcemmhfbfogdaaDoor
