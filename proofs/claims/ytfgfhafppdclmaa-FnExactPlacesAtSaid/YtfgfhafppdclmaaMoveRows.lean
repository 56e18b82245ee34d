/- Slices of moves: copied out of an argument as a row of the call's own, marked, held. -/
import Derived.Test.YtfgfhafppdclmaaMoveLaw
import Derived.Test.YtfgfhafppdclmaaInt64S
namespace Go.Proofs.Ytfgfhafppdclmaa
open Go.RowKit
set_option linter.unusedVariables false
set_option linter.unusedSimpArgs false
set_option maxRecDepth 100000

theorem own_of_row {w : World} {g base n size : Nat} {e : TypeId} {arr : Array Value} (h : w.heap[g]? = some (.cells arr e (0, 0))) (hs : arr.size = n * size) (hb : base ≤ g) (hn : n ≤ 1048576) : w.ownsRow base e size (.slice (some ⟨g, 0, none⟩) n n) n arr.toList :=
  ⟨by simp [hs], .inr ⟨g, n, arr, rfl, hb, h, Nat.le_refl _, by simp only [maxLen]; omega, hs, by rw [← hs, ← Array.length_toList, List.take_length]⟩⟩
def fMv (k0 : Nat) (i : Nat) : Value := if i % 3 = 2 then .int .i16 (IntKind.i16.wrap ((k0 : Int) + (i : Int))) else .int .i8 (IntKind.i8.wrap ((k0 : Int) + (i : Int)))
theorem fMv0 (k0 k : Nat) : fMv k0 (k * 3) = .int .i8 (IntKind.i8.wrap ((k0 : Int) + (k : Int) * 3)) := by
  rw [fMv, if_neg (by omega)]; simp
theorem fMv1 (k0 k : Nat) : fMv k0 (k * 3 + 1) = .int .i8 (IntKind.i8.wrap ((k0 : Int) + (k : Int) * 3 + 1)) := by
  rw [fMv, if_neg (by omega)]; simp [Int.add_assoc]
theorem fMv2 (k0 k : Nat) : fMv k0 (k * 3 + 2) = .int .i16 (IntKind.i16.wrap ((k0 : Int) + (k : Int) * 3 + 1 + 1)) := by
  rw [fMv, if_pos (by omega)]; simp [Int.add_assoc]
set_option maxHeartbeats 1000000 in
theorem c_markMoveS (v : Value) (base n k0 : Nat) (xs : List Value) (w : World) (h : w.ownsRow base 101 3 v n xs) (hn : n ≤ 1048576) (hk0 : k0 ≤ 100000000) :
    Calls Try.prog 39 #[v, .int .i64 (k0 : Int)] w fun e w' => e = .returned (.int .i64 ((k0 : Int) + ((n * 3 : Nat) : Int))) ∧ w'.ownsRow base 101 3 v n ((List.range (n * 3)).map (fMv k0)) ∧ TouV v w w' := by
  obtain ⟨A, c, rfl, hA⟩ := own_form h
  have HX := Lib.hid h
  have hx := h.1
  clear h
  go_enter Try.func39, Try.ntmps39
  go_wp2
  go_loopw [5, 1] (fun i q wr => ∃ k : Nat, k ≤ n ∧ i = .int .i64 k ∧ q = .int .i64 ((k0 : Int) + ((k * 3 : Nat) : Int)) ∧ Hid (wr.ownsRow base 101 3 (.slice A n c) n (marked (fMv k0) (k * 3) xs)) ∧ Hid (TouV (.slice A n c) w wr)) (fun i _ _ => n - (intOf i).toNat)
  case atStart => exact ⟨0, by omega, rfl, by simp, by rw [Hid, Nat.zero_mul, marked_zero]; exact HX.out, TouV.refl _ _⟩
  case round =>
    obtain ⟨k, hk, rfl, rfl, hI, hB⟩ := hrel
    by_cases hlt : k < n
    · have d1 : decide ((k : Int) < (n : Int)) = true := by simp; omega
      obtain ⟨g, rfl, hg⟩ := hA (by omega)
      have k1 : (0 : Int) ≤ (k : Int) := by omega
      have k2 : (k : Int) < (n : Int) := by omega
      have hL : (marked (fMv k0) (k * 3) xs).length = n * 3 := by rw [marked_len _ (by omega)]; exact hx
      have hkl : k * 3 + 2 < (marked (fMv k0) (k * 3) xs).length := by omega
      obtain ⟨x0, f0⟩ := own_get hI.out (List.getElem?_eq_getElem (show k * 3 < (marked (fMv k0) (k * 3) xs).length by omega))
      obtain ⟨x1, f1⟩ := own_get hI.out (List.getElem?_eq_getElem (show k * 3 + 1 < (marked (fMv k0) (k * 3) xs).length by omega))
      obtain ⟨x2, f2⟩ := own_get hI.out (List.getElem?_eq_getElem hkl)
      generalize (marked (fMv k0) (k * 3) xs)[k * 3]'(by omega) = u0 at *
      generalize (marked (fMv k0) (k * 3) xs)[k * 3 + 1]'(by omega) = u1 at *
      generalize (marked (fMv k0) (k * 3) xs)[k * 3 + 2]'(by omega) = u2 at *
      go_wp2
      go_roundw
      case rel =>
        refine ⟨k + 1, by omega, by go_num, by congr 1; omega, ?_, TouV.setCell (TouV.setCell (TouV.setCell hB.out rfl _ _) rfl _ _) rfl _ _⟩
        have := own_set (own_set (own_set hI.out (k * 3) (by omega) (fMv k0 (k * 3))) (k * 3 + 1) (by omega) (fMv k0 (k * 3 + 1))) (k * 3 + 2) (by omega) (fMv k0 (k * 3 + 2))
        rw [marked_set (fMv k0) (by omega), marked_set (fMv k0) (by omega), marked_set (fMv k0) (by omega), fMv0, fMv1, fMv2] at this
        rw [Hid, show (k + 1) * 3 = k * 3 + 2 + 1 by omega]
        exact this
      case measure => simp [intOf]; omega
    · obtain rfl : k = n := by omega
      have d1 : decide ((k : Int) < (k : Int)) = false := by simp
      have hO := hI.out
      rw [marked_all _ (by omega)] at hO
      have HO := Lib.hid hO
      clear hO hI
      go_wp2
      go_ret
      exact ⟨rfl, HO.out, hB.out⟩
set_option maxHeartbeats 1000000 in
theorem c_heldMoveS (v : Value) (base n k0 : Nat) (w : World) (h : w.ownsRow base 101 3 v n ((List.range (n * 3)).map (fMv k0))) (hn : n ≤ 1048576) (hk0 : k0 ≤ 100000000) :
    Calls Try.prog 61 #[v, .int .i64 (k0 : Int)] w fun e w' => e = .returned (.int .i64 ((k0 : Int) + ((n * 3 : Nat) : Int))) ∧ w = w' := by
  obtain ⟨A, c, rfl, hA⟩ := own_form h
  have HX := Lib.hid h
  clear h
  go_enter Try.func61, Try.ntmps61
  go_wp2
  go_loop [5, 1] (fun i q => ∃ k : Nat, k ≤ n ∧ i = .int .i64 k ∧ q = .int .i64 ((k0 : Int) + ((k * 3 : Nat) : Int))) (fun i _ => n - (intOf i).toNat)
  case atStart => exact ⟨0, by omega, rfl, by simp⟩
  case round =>
    obtain ⟨k, hk, rfl, rfl⟩ := hrel
    by_cases hlt : k < n
    · have d1 : decide ((k : Int) < (n : Int)) = true := by simp; omega
      obtain ⟨g, rfl, hg⟩ := hA (by omega)
      have k1 : (0 : Int) ≤ (k : Int) := by omega
      have k2 : (k : Int) < (n : Int) := by omega
      obtain ⟨x0, f0⟩ := own_get HX.out (marked_get (fMv k0) (show k * 3 < n * 3 by omega))
      obtain ⟨x1, f1⟩ := own_get HX.out (marked_get (fMv k0) (show k * 3 + 1 < n * 3 by omega))
      obtain ⟨x2, f2⟩ := own_get HX.out (marked_get (fMv k0) (show k * 3 + 2 < n * 3 by omega))
      rw [fMv0] at x0
      rw [fMv1] at x1
      rw [fMv2] at x2
      go_wp2
      go_round
      case rel => exact ⟨k + 1, by omega, by go_num, by congr 1; omega⟩
      case measure => simp [intOf]; omega
    · obtain rfl : k = n := by omega
      have d1 : decide ((k : Int) < (k : Int)) = false := by simp
      go_wp2
      go_ret
      exact ⟨rfl, rfl⟩
/-- An own copy, as a row. -/
theorem c_toMoveX (A : Option Addr) (n c : Nat) (s t g : Nat → Int) (w : World) (h : MovesAt w A n s t g) (hn : n ≤ 1048576) :
    Calls Try.prog 27 #[.slice A n c] w fun e w' => ∃ b xs, e = .returned (.slice (some ⟨b, 0, none⟩) n n) ∧ MovesAt w' (some ⟨b, 0, none⟩) n s t g ∧ w'.ownsRow w.heap.size 101 3 (.slice (some ⟨b, 0, none⟩) n n) n xs ∧ Below w.heap.size w w' := by
  refine (c_toMoveR A n c s t g w h hn).mono ?_
  rintro e w1 ⟨arr, rfl, hs, hA, hC, hb⟩
  exact ⟨_, _, rfl, MovesAt.of_row hA hC, own_of_row hA hs (Nat.le_refl _) hn, hb⟩
/-- Moves of a row stay while another row is written. -/
theorem MovesAt.touV {w w1 : World} {b n : Nat} {s t g : Nat → Int} {v : Value} (h : MovesAt w (some ⟨b, 0, none⟩) n s t g) (ht : TouV v w w1) (hv : v.ownBlock ≠ some b) : MovesAt w1 (some ⟨b, 0, none⟩) n s t g := by
  refine ⟨fun j hj => ?_⟩
  obtain ⟨ad, e, c0, c1, c2⟩ := h.at_ j hj
  cases e
  have hb := ht.block b hv
  refine ⟨_, rfl, (World.cell?_of_block ?_).trans c0, (World.cell?_of_block ?_).trans c1, (World.cell?_of_block ?_).trans c2⟩ <;> (simp only [Addr.add]; (try split) <;> exact hb)
theorem c_markMove1 (v : Value) (base n : Nat) (xs : List Value) (w : World) (h : w.ownsRow base 101 3 v n xs) (hn : n ≤ 1048576) :
    Calls Try.prog 39 #[v, .int .i64 1] w fun e w' => e = .returned (.int .i64 (1 + ((n * 3 : Nat) : Int))) ∧ w'.ownsRow base 101 3 v n ((List.range (n * 3)).map (fMv 1)) ∧ TouV v w w' := c_markMoveS v base n 1 xs w h hn (by omega)
theorem c_heldMove1 (v : Value) (base n : Nat) (w : World) (h : w.ownsRow base 101 3 v n ((List.range (n * 3)).map (fMv 1))) (hn : n ≤ 1048576) :
    Calls Try.prog 61 #[v, .int .i64 1] w fun e w' => e = .returned (.int .i64 (1 + ((n * 3 : Nat) : Int))) ∧ w = w' := c_heldMoveS v base n 1 w h hn (by omega)
end Go.Proofs.Ytfgfhafppdclmaa
