/- Slices of lots and orders: own copies as rows, marked. -/
import Derived.Test.YtabdpkmnpbpkjaaLotLaw
import Derived.Test.YtabdpkmnpbpkjaaOrderLaw
import Derived.Test.YtabdpkmnpbpkjaaInt64S
namespace Go.Proofs.Ytabdpkmnpbpkjaa
open Go.RowKit
set_option linter.unusedVariables false
set_option linter.unusedSimpArgs false
set_option maxRecDepth 100000

def fLot (k0 : Nat) (i : Nat) : Value := if i % 2 = 0 then .int .i8 (IntKind.i8.wrap ((k0 : Int) + (i : Int))) else .int .i16 (IntKind.i16.wrap ((k0 : Int) + (i : Int)))
theorem fLot_0 (k0 k : Nat) : fLot k0 (k * 2) = .int .i8 (IntKind.i8.wrap ((k0 : Int) + (k : Int) * 2)) := by
  rw [fLot, if_pos (show (k * 2) % 2 = 0 by omega)]; simp [Int.add_assoc]
theorem fLot_1 (k0 k : Nat) : fLot k0 (k * 2 + 1) = .int .i16 (IntKind.i16.wrap ((k0 : Int) + (k : Int) * 2 + 1)) := by
  rw [fLot, if_neg (show ¬ (k * 2 + 1) % 2 = 0 by omega)]; simp [Int.add_assoc]
set_option maxHeartbeats 1000000 in
theorem c_markLotS (v : Value) (base n k0 : Nat) (q : Int) (xs : List Value) (w : World) (h : w.ownsRow base 64 2 v n xs) (hn : n ≤ 1048576) (hk0 : k0 ≤ 100000000) (hq : q = (k0 : Int)) :
    Calls Try.prog 19 #[v, .int .i64 q] w fun e w' => e = .returned (.int .i64 (q + ((n * 2 : Nat) : Int))) ∧ w'.ownsRow base 64 2 v n ((List.range (n * 2)).map (fLot k0)) ∧ TouV v w w' := by
  subst hq
  obtain ⟨A, c, rfl, hA⟩ := own_form h
  have HX := Lib.hid h
  have hx := h.1
  clear h
  go_enter Try.func19, Try.ntmps19
  go_wp2
  go_loopw [5, 1] (fun i q wr => ∃ k : Nat, k ≤ n ∧ i = .int .i64 k ∧ q = .int .i64 ((k0 : Int) + ((k * 2 : Nat) : Int)) ∧ Hid (wr.ownsRow base 64 2 (.slice A n c) n (marked (fLot k0) (k * 2) xs)) ∧ Hid (TouV (.slice A n c) w wr)) (fun i _ _ => n - (intOf i).toNat)
  case atStart => exact ⟨0, by omega, rfl, by simp, by rw [Hid, Nat.zero_mul, marked_zero]; exact HX.out, TouV.refl _ _⟩
  case round =>
    obtain ⟨k, hk, rfl, rfl, hI, hB⟩ := hrel
    by_cases hlt : k < n
    · have d1 : decide ((k : Int) < (n : Int)) = true := by simp; omega
      obtain ⟨g, rfl, hg⟩ := hA (by omega)
      have k1 : (0 : Int) ≤ (k : Int) := by omega
      have k2 : (k : Int) < (n : Int) := by omega
      have hL : (marked (fLot k0) (k * 2) xs).length = n * 2 := by rw [marked_len _ (by omega)]; exact hx
      obtain ⟨x0, f0⟩ := own_get hI.out (List.getElem?_eq_getElem (show k * 2 < (marked (fLot k0) (k * 2) xs).length by omega))
      obtain ⟨x1, f1⟩ := own_get hI.out (List.getElem?_eq_getElem (show k * 2 + 1 < (marked (fLot k0) (k * 2) xs).length by omega))
      generalize (marked (fLot k0) (k * 2) xs)[k * 2]'(by omega) = u0 at *
      generalize (marked (fLot k0) (k * 2) xs)[k * 2 + 1]'(by omega) = u1 at *
      go_wp2
      go_roundw
      case rel =>
        refine ⟨k + 1, by omega, by go_num, by congr 1; omega, ?_, TouV.setCell (TouV.setCell hB.out rfl _ _) rfl _ _⟩
        have := own_set (own_set hI.out (k * 2) (by omega) (fLot k0 (k * 2))) (k * 2 + 1) (by omega) (fLot k0 (k * 2 + 1))
        rw [marked_set (fLot k0) (by omega), marked_set (fLot k0) (by omega), fLot_0, fLot_1] at this
        rw [Hid, show (k + 1) * 2 = k * 2 + 1 + 1 by omega]
        exact this
      case measure => simp [intOf]; omega
    · obtain rfl : k = n := by omega
      have d1 : decide ((k : Int) < (k : Int)) = false := by simp
      have hO := hI.out
      rw [marked_all _ (by omega)] at hO
      have HO := Lib.hid hO
      clear hO hI
      go_wp2
      go_ret
      exact ⟨rfl, HO.out, hB.out⟩
theorem c_markLotE (v : Value) (base n : Nat) (q : Int) (xs : List Value) (w : World) (h : w.ownsRow base 64 2 v n xs) (hn : n ≤ 1048576) (h0 : 0 ≤ q) (h1 : q ≤ 50000000) :
    Calls Try.prog 19 #[v, .int .i64 q] w fun e w' => ∃ r : Int, e = .returned (.int .i64 r) ∧ q ≤ r ∧ r ≤ q + 2 * (n : Int) ∧ (∃ ys, w'.ownsRow base 64 2 v n ys) ∧ TouV v w w' := by
  refine (c_markLotS v base n q.toNat q xs w h hn (by omega) (by omega)).mono ?_
  rintro e w1 ⟨rfl, hO, ht⟩
  exact ⟨_, rfl, by omega, by push_cast; omega, ⟨_, hO⟩, ht⟩
theorem c_szLotL (A : Option Addr) (n c : Nat) (left : Int) (w : World) (hn : n ≤ 9223372036854775807) (h0 : 0 ≤ left) (h1 : left ≤ 1048576) :
    Calls Try.prog 10 #[.slice A n c, .int .i64 left] w fun e w' => e = .returned (.int .i64 (if (n : Int) ≤ left then left - (n : Int) else -1)) ∧ w = w' := by
  by_cases h : (n : Int) ≤ left
  · have E : Hid ((if (n : Int) ≤ left then left - (n : Int) else -1) = left - (n : Int)) := by rw [Hid, if_pos h]
    have d : decide (left - (n : Int) < 0) = false := by simp; omega
    go_enter Try.func10, Try.ntmps10
    go_wp2
    go_ret
    exact ⟨by first | rfl | (rw [E.out]; rfl), rfl⟩
  · have E : Hid ((if (n : Int) ≤ left then left - (n : Int) else -1) = -1) := by rw [Hid, if_neg h]
    have d : decide (left - (n : Int) < 0) = true := by simp; omega
    go_enter Try.func10, Try.ntmps10
    go_wp2
    go_ret
    exact ⟨by first | rfl | (rw [E.out]; rfl), rfl⟩
theorem c_toLotX (A : Option Addr) (n c : Nat) (s g : Nat → Int) (w : World) (h : LotsAt w A n s g) (hn : n ≤ 1048576) :
    Calls Try.prog 13 #[.slice A n c] w fun e w' => ∃ b xs, e = .returned (.slice (some ⟨b, 0, none⟩) n n) ∧ LotsAt w' (some ⟨b, 0, none⟩) n s g ∧ w'.ownsRow w.heap.size 64 2 (.slice (some ⟨b, 0, none⟩) n n) n xs ∧ Below w.heap.size w w' := by
  refine (c_toLotR A n c s g w h hn).mono ?_
  rintro e w1 ⟨arr, rfl, hs, hA, hC, hb⟩
  exact ⟨_, _, rfl, LotsAt.of_row hA hC, own_of_row hA hs (Nat.le_refl _) hn, hb⟩
def fOrder (k0 : Nat) (i : Nat) : Value := if i % 2 = 0 then .int .i8 (IntKind.i8.wrap ((k0 : Int) + (i : Int))) else .int .i16 (IntKind.i16.wrap ((k0 : Int) + (i : Int)))
theorem fOrder_0 (k0 k : Nat) : fOrder k0 (k * 2) = .int .i8 (IntKind.i8.wrap ((k0 : Int) + (k : Int) * 2)) := by
  rw [fOrder, if_pos (show (k * 2) % 2 = 0 by omega)]; simp [Int.add_assoc]
theorem fOrder_1 (k0 k : Nat) : fOrder k0 (k * 2 + 1) = .int .i16 (IntKind.i16.wrap ((k0 : Int) + (k : Int) * 2 + 1)) := by
  rw [fOrder, if_neg (show ¬ (k * 2 + 1) % 2 = 0 by omega)]; simp [Int.add_assoc]
set_option maxHeartbeats 1000000 in
theorem c_markOrderS (v : Value) (base n k0 : Nat) (q : Int) (xs : List Value) (w : World) (h : w.ownsRow base 63 2 v n xs) (hn : n ≤ 1048576) (hk0 : k0 ≤ 100000000) (hq : q = (k0 : Int)) :
    Calls Try.prog 20 #[v, .int .i64 q] w fun e w' => e = .returned (.int .i64 (q + ((n * 2 : Nat) : Int))) ∧ w'.ownsRow base 63 2 v n ((List.range (n * 2)).map (fOrder k0)) ∧ TouV v w w' := by
  subst hq
  obtain ⟨A, c, rfl, hA⟩ := own_form h
  have HX := Lib.hid h
  have hx := h.1
  clear h
  go_enter Try.func20, Try.ntmps20
  go_wp2
  go_loopw [5, 1] (fun i q wr => ∃ k : Nat, k ≤ n ∧ i = .int .i64 k ∧ q = .int .i64 ((k0 : Int) + ((k * 2 : Nat) : Int)) ∧ Hid (wr.ownsRow base 63 2 (.slice A n c) n (marked (fOrder k0) (k * 2) xs)) ∧ Hid (TouV (.slice A n c) w wr)) (fun i _ _ => n - (intOf i).toNat)
  case atStart => exact ⟨0, by omega, rfl, by simp, by rw [Hid, Nat.zero_mul, marked_zero]; exact HX.out, TouV.refl _ _⟩
  case round =>
    obtain ⟨k, hk, rfl, rfl, hI, hB⟩ := hrel
    by_cases hlt : k < n
    · have d1 : decide ((k : Int) < (n : Int)) = true := by simp; omega
      obtain ⟨g, rfl, hg⟩ := hA (by omega)
      have k1 : (0 : Int) ≤ (k : Int) := by omega
      have k2 : (k : Int) < (n : Int) := by omega
      have hL : (marked (fOrder k0) (k * 2) xs).length = n * 2 := by rw [marked_len _ (by omega)]; exact hx
      obtain ⟨x0, f0⟩ := own_get hI.out (List.getElem?_eq_getElem (show k * 2 < (marked (fOrder k0) (k * 2) xs).length by omega))
      obtain ⟨x1, f1⟩ := own_get hI.out (List.getElem?_eq_getElem (show k * 2 + 1 < (marked (fOrder k0) (k * 2) xs).length by omega))
      generalize (marked (fOrder k0) (k * 2) xs)[k * 2]'(by omega) = u0 at *
      generalize (marked (fOrder k0) (k * 2) xs)[k * 2 + 1]'(by omega) = u1 at *
      go_wp2
      go_roundw
      case rel =>
        refine ⟨k + 1, by omega, by go_num, by congr 1; omega, ?_, TouV.setCell (TouV.setCell hB.out rfl _ _) rfl _ _⟩
        have := own_set (own_set hI.out (k * 2) (by omega) (fOrder k0 (k * 2))) (k * 2 + 1) (by omega) (fOrder k0 (k * 2 + 1))
        rw [marked_set (fOrder k0) (by omega), marked_set (fOrder k0) (by omega), fOrder_0, fOrder_1] at this
        rw [Hid, show (k + 1) * 2 = k * 2 + 1 + 1 by omega]
        exact this
      case measure => simp [intOf]; omega
    · obtain rfl : k = n := by omega
      have d1 : decide ((k : Int) < (k : Int)) = false := by simp
      have hO := hI.out
      rw [marked_all _ (by omega)] at hO
      have HO := Lib.hid hO
      clear hO hI
      go_wp2
      go_ret
      exact ⟨rfl, HO.out, hB.out⟩
theorem c_markOrderE (v : Value) (base n : Nat) (q : Int) (xs : List Value) (w : World) (h : w.ownsRow base 63 2 v n xs) (hn : n ≤ 1048576) (h0 : 0 ≤ q) (h1 : q ≤ 50000000) :
    Calls Try.prog 20 #[v, .int .i64 q] w fun e w' => ∃ r : Int, e = .returned (.int .i64 r) ∧ q ≤ r ∧ r ≤ q + 2 * (n : Int) ∧ (∃ ys, w'.ownsRow base 63 2 v n ys) ∧ TouV v w w' := by
  refine (c_markOrderS v base n q.toNat q xs w h hn (by omega) (by omega)).mono ?_
  rintro e w1 ⟨rfl, hO, ht⟩
  exact ⟨_, rfl, by omega, by push_cast; omega, ⟨_, hO⟩, ht⟩
theorem c_szOrderL (A : Option Addr) (n c : Nat) (left : Int) (w : World) (hn : n ≤ 9223372036854775807) (h0 : 0 ≤ left) (h1 : left ≤ 1048576) :
    Calls Try.prog 11 #[.slice A n c, .int .i64 left] w fun e w' => e = .returned (.int .i64 (if (n : Int) ≤ left then left - (n : Int) else -1)) ∧ w = w' := by
  by_cases h : (n : Int) ≤ left
  · have E : Hid ((if (n : Int) ≤ left then left - (n : Int) else -1) = left - (n : Int)) := by rw [Hid, if_pos h]
    have d : decide (left - (n : Int) < 0) = false := by simp; omega
    go_enter Try.func11, Try.ntmps11
    go_wp2
    go_ret
    exact ⟨by first | rfl | (rw [E.out]; rfl), rfl⟩
  · have E : Hid ((if (n : Int) ≤ left then left - (n : Int) else -1) = -1) := by rw [Hid, if_neg h]
    have d : decide (left - (n : Int) < 0) = true := by simp; omega
    go_enter Try.func11, Try.ntmps11
    go_wp2
    go_ret
    exact ⟨by first | rfl | (rw [E.out]; rfl), rfl⟩
theorem c_toOrderX (A : Option Addr) (n c : Nat) (s g : Nat → Int) (w : World) (h : LotsAt w A n s g) (hn : n ≤ 1048576) :
    Calls Try.prog 14 #[.slice A n c] w fun e w' => ∃ b xs, e = .returned (.slice (some ⟨b, 0, none⟩) n n) ∧ LotsAt w' (some ⟨b, 0, none⟩) n s g ∧ w'.ownsRow w.heap.size 63 2 (.slice (some ⟨b, 0, none⟩) n n) n xs ∧ Below w.heap.size w w' := by
  refine (c_toOrderR A n c s g w h hn).mono ?_
  rintro e w1 ⟨arr, rfl, hs, hA, hC, hb⟩
  exact ⟨_, _, rfl, LotsAt.of_row hA hC, own_of_row hA hs (Nat.le_refl _) hn, hb⟩
theorem lots_open {W : World} {A : Option Addr} {es : List (List Value)} (w0 : ∀ c ∈ es, IntCells [.i8, .i16] c) (r0 : RdRow W A es.flatten) : ∃ s g : Nat → Int, LotsAt W A es.length s g ∧ ∀ j, j < es.length → -32768 ≤ g j ∧ g j ≤ 32767 := by
  obtain ⟨zs, rfl, hz⟩ := lots_of (W := W) (A := A) w0
  have hL := lotsAt_of r0
  refine ⟨_, _, by rw [List.length_map]; exact hL, fun j hj => ?_⟩
  rw [List.length_map] at hj
  have ed : zs.getD j (0, 0) = zs[j]'hj := by simp [List.getD, hj]
  rw [ed]; exact hz _ (List.getElem_mem hj)
end Go.Proofs.Ytabdpkmnpbpkjaa
