/- Slices of places: compared, marked, held. -/
import Derived.Test.YtfgfhafppdclmaaLatSpec
import Derived.Test.YtfgfhafppdclmaaInt64S
import Derived.Test.YtfgfhafppdclmaaNetLaw
namespace Go.Proofs.Ytfgfhafppdclmaa
open Go.RowKit
set_option linter.unusedVariables false
set_option linter.unusedSimpArgs false
set_option maxRecDepth 100000

def f32 (k0 : Nat) (i : Nat) : Value := .int .i32 ((k0 : Int) + (i : Int))
set_option maxHeartbeats 1000000 in
theorem c_markPlacesS (v : Value) (base n k0 : Nat) (xs : List Value) (w : World) (h : w.ownsRow base 44 5 v n xs) (hn : n ≤ 1048576) (hk0 : k0 ≤ 100000000) :
    Calls Try.prog 40 #[v, .int .i64 (k0 : Int)] w fun e w' => e = .returned (.int .i64 ((k0 : Int) + ((n * 5 : Nat) : Int))) ∧ w'.ownsRow base 44 5 v n ((List.range (n * 5)).map (f32 k0)) ∧ TouV v w w' := by
  obtain ⟨A, c, rfl, hA⟩ := own_form h
  have HX := Lib.hid h
  have hx := h.1
  clear h
  go_enter Try.func40, Try.ntmps40
  go_wp2
  go_loopw [5, 1] (fun i q wr => ∃ k : Nat, k ≤ n ∧ i = .int .i64 k ∧ q = .int .i64 ((k0 : Int) + ((k * 5 : Nat) : Int)) ∧ Hid (wr.ownsRow base 44 5 (.slice A n c) n (marked (f32 k0) (k * 5) xs)) ∧ Hid (TouV (.slice A n c) w wr)) (fun i _ _ => n - (intOf i).toNat)
  case atStart => exact ⟨0, by omega, rfl, by simp, by rw [Hid, Nat.zero_mul, marked_zero]; exact HX.out, TouV.refl _ _⟩
  case round =>
    obtain ⟨k, hk, rfl, rfl, hI, hB⟩ := hrel
    by_cases hlt : k < n
    · have d1 : decide ((k : Int) < (n : Int)) = true := by simp; omega
      obtain ⟨g, rfl, hg⟩ := hA (by omega)
      have k1 : (0 : Int) ≤ (k : Int) := by omega
      have k2 : (k : Int) < (n : Int) := by omega
      go_wp2
      go_loopw [6, 1] (fun i q wr => ∃ m : Nat, m ≤ 5 ∧ i = .int .i64 m ∧ q = .int .i64 ((k0 : Int) + ((k * 5 + m : Nat) : Int)) ∧ Hid (wr.ownsRow base 44 5 (.slice (some ⟨g, 0, none⟩) n c) n (marked (f32 k0) (k * 5 + m) xs)) ∧ Hid (TouV (.slice (some ⟨g, 0, none⟩) n c) w wr)) (fun i _ _ => 5 - (intOf i).toNat)
      case atStart => exact ⟨0, by omega, rfl, by simp, hI, hB⟩
      case round =>
        obtain ⟨m, hm, rfl, rfl, hI, hB⟩ := hrel
        by_cases hlt2 : m < 5
        · have d2 : decide ((m : Int) < 5) = true := by simp; omega
          have hkl : k * 5 + m < (marked (f32 k0) (k * 5 + m) xs).length := by rw [marked_len _ (by omega)]; omega
          obtain ⟨x0, f0⟩ := own_get hI.out (List.getElem?_eq_getElem hkl)
          have m1 : (0 : Int) ≤ (m : Int) := by omega
          have m2 : (m : Int) < 5 := by omega
          have r1 : (k0 : Int) + ((k * 5 + m : Nat) : Int) ≤ 2147483647 := by omega
          have r0 : 0 ≤ (k0 : Int) + ((k * 5 + m : Nat) : Int) := by omega
          generalize (marked (f32 k0) (k * 5 + m) xs)[k * 5 + m]'hkl = u at *
          go_wp2
          go_roundw
          case rel =>
            refine ⟨m + 1, by omega, by go_num, by go_num, ?_, TouV.setCell hB.out rfl _ _⟩
            have := own_set hI.out (k * 5 + m) (by omega) (.int .i32 ((k0 : Int) + ((k * 5 + m : Nat) : Int)))
            rw [show (Value.int .i32 ((k0 : Int) + ((k * 5 + m : Nat) : Int))) = f32 k0 (k * 5 + m) from rfl, marked_set (f32 k0) (by omega)] at this
            exact this
          case measure => simp [intOf]; omega
        · obtain rfl : m = 5 := by omega
          have d2 : decide ((5 : Int) < 5) = false := by simp
          go_wp2
          go_roundw
          case rel => exact ⟨k + 1, by omega, by go_num, by congr 2; omega, by rw [show (k + 1) * 5 = k * 5 + 5 by omega]; exact hI, hB⟩
          case measure => simp [intOf]; omega
    · obtain rfl : k = n := by omega
      have d1 : decide ((k : Int) < (k : Int)) = false := by simp
      have hO := hI.out
      rw [marked_all _ (by omega)] at hO
      have HO := Lib.hid hO
      clear hO hI
      go_wp2
      go_ret
      exact ⟨rfl, HO.out, hB.out⟩
set_option maxHeartbeats 1000000 in
theorem c_heldPlacesS (v : Value) (base n k0 : Nat) (w : World) (h : w.ownsRow base 44 5 v n ((List.range (n * 5)).map (f32 k0))) (hn : n ≤ 1048576) (hk0 : k0 ≤ 100000000) :
    Calls Try.prog 41 #[v, .int .i64 (k0 : Int)] w fun e w' => e = .returned (.int .i64 ((k0 : Int) + ((n * 5 : Nat) : Int))) ∧ w = w' := by
  obtain ⟨A, c, rfl, hA⟩ := own_form h
  have HX := Lib.hid h
  clear h
  go_enter Try.func41, Try.ntmps41
  go_wp2
  go_loop [5, 1] (fun i q => ∃ k : Nat, k ≤ n ∧ i = .int .i64 k ∧ q = .int .i64 ((k0 : Int) + ((k * 5 : Nat) : Int))) (fun i _ => n - (intOf i).toNat)
  case atStart => exact ⟨0, by omega, rfl, by simp⟩
  case round =>
    obtain ⟨k, hk, rfl, rfl⟩ := hrel
    by_cases hlt : k < n
    · have d1 : decide ((k : Int) < (n : Int)) = true := by simp; omega
      obtain ⟨g, rfl, hg⟩ := hA (by omega)
      have k1 : (0 : Int) ≤ (k : Int) := by omega
      have k2 : (k : Int) < (n : Int) := by omega
      go_wp2
      go_loop [6, 1] (fun i q => ∃ m : Nat, m ≤ 5 ∧ i = .int .i64 m ∧ q = .int .i64 ((k0 : Int) + ((k * 5 + m : Nat) : Int))) (fun i _ => 5 - (intOf i).toNat)
      case atStart => exact ⟨0, by omega, rfl, by simp⟩
      case round =>
        obtain ⟨m, hm, rfl, rfl⟩ := hrel
        by_cases hlt2 : m < 5
        · have d2 : decide ((m : Int) < 5) = true := by simp; omega
          obtain ⟨x0, f0⟩ := own_get HX.out (marked_get (f32 k0) (show k * 5 + m < n * 5 by omega))
          rw [f32] at x0
          have m1 : (0 : Int) ≤ (m : Int) := by omega
          have m2 : (m : Int) < 5 := by omega
          have r1 : (k0 : Int) + ((k * 5 + m : Nat) : Int) ≤ 2147483647 := by omega
          have r0 : 0 ≤ (k0 : Int) + ((k * 5 + m : Nat) : Int) := by omega
          go_wp2
          go_round
          case rel => exact ⟨m + 1, by omega, by go_num, by go_num⟩
          case measure => simp [intOf]; omega
        · obtain rfl : m = 5 := by omega
          have d2 : decide ((5 : Int) < 5) = false := by simp
          go_wp2
          go_round
          case rel => exact ⟨k + 1, by omega, by go_num, by congr 2; omega⟩
          case measure => simp [intOf]; omega
    · obtain rfl : k = n := by omega
      have d1 : decide ((k : Int) < (k : Int)) = false := by simp
      go_wp2
      go_ret
      exact ⟨rfl, rfl⟩
theorem rows5_get {P : Nat → List Int} {n k j : Nat} (hP : ∀ k, k < n → (P (k + 1)).length = 5) (hk : k < n) (hj : j < 5) : (rows5 P n)[k * 5 + j]? = some (.int .i32 (gi (P (k + 1)) j)) := by
  have h := flatten_get (sz := 5) (es := (List.range n).map fun j => nums .i32 (P (j + 1))) (by intro c hc; obtain ⟨z, hz, rfl⟩ := List.mem_map.1 hc; rw [nums_length]; exact hP z (List.mem_range.1 hz)) k (by simpa using hk) j hj
  rw [rows5, List.flatMap_def, h]
  simp only [List.getElem?_map, List.getElem?_range hk, Option.map_some, Option.getD_some]
  exact nums_get (by rw [hP k hk]; exact hj)
theorem rows5_get0 {P : Nat → List Int} {n k : Nat} (hP : ∀ k, k < n → (P (k + 1)).length = 5) (hk : k < n) : (rows5 P n)[k * 5]? = some (.int .i32 (gi (P (k + 1)) 0)) := rows5_get (j := 0) hP hk (by omega)
set_option maxHeartbeats 1000000 in
theorem c_eqPlacesS (v v' : Value) (base base' n : Nat) (P : Nat → List Int) (w : World) (h : w.ownsRow base 44 5 v n (rows5 P n)) (h' : w.ownsRow base' 44 5 v' n (rows5 P n)) (hP : ∀ k, k < n → (P (k + 1)).length = 5) (hn : n ≤ 1048576) :
    Calls Try.prog 38 #[v, v'] w fun e w' => e = .returned (.bool true) ∧ Below w.heap.size w w' := by
  obtain ⟨A, c, rfl, hA⟩ := own_form h
  obtain ⟨B, c', rfl, hB⟩ := own_form h'
  have H := Lib.hid h
  have H' := Lib.hid h'
  have HP := Lib.hid hP
  clear h h' hP
  go_enter Try.func38, Try.ntmps38
  go_wp2
  go_loopw [5] (fun i wr => ∃ k : Nat, k ≤ n ∧ i = .int .i64 k ∧ Hid (Below w.heap.size w wr)) (fun i _ => n - (intOf i).toNat)
  case atStart => exact ⟨0, by omega, rfl, Below.refl _ _⟩
  case round =>
    obtain ⟨k, hk, rfl, hW⟩ := hrel
    by_cases hlt : k < n
    · have d1 : decide ((k : Int) < (n : Int)) = true := by simp; omega
      obtain ⟨g, rfl, hg⟩ := hA (by omega)
      obtain ⟨g', rfl, hg'⟩ := hB (by omega)
      have k1 : (0 : Int) ≤ (k : Int) := by omega
      have k2 : (k : Int) < (n : Int) := by omega
      have O := Lib.hid (own_below H.out hW.out)
      have O' := Lib.hid (own_below H'.out hW.out)
      have a0 := (own_get O.out (rows5_get0 HP.out hlt)).1
      have a1 := (own_get O.out (rows5_get HP.out hlt (j := 1) (by omega))).1
      have a2 := (own_get O.out (rows5_get HP.out hlt (j := 2) (by omega))).1
      have a3 := (own_get O.out (rows5_get HP.out hlt (j := 3) (by omega))).1
      have a4 := (own_get O.out (rows5_get HP.out hlt (j := 4) (by omega))).1
      have b0 := (own_get O'.out (rows5_get0 HP.out hlt)).1
      have b1 := (own_get O'.out (rows5_get HP.out hlt (j := 1) (by omega))).1
      have b2 := (own_get O'.out (rows5_get HP.out hlt (j := 2) (by omega))).1
      have b3 := (own_get O'.out (rows5_get HP.out hlt (j := 3) (by omega))).1
      have b4 := (own_get O'.out (rows5_get HP.out hlt (j := 4) (by omega))).1
      have CE : ∀ w, Hid (Calls Try.prog 32 #[.agg #[.int .i32 (gi (P (k + 1)) 0), .int .i32 (gi (P (k + 1)) 1), .int .i32 (gi (P (k + 1)) 2), .int .i32 (gi (P (k + 1)) 3), .int .i32 (gi (P (k + 1)) 4)], .agg #[.int .i32 (gi (P (k + 1)) 0), .int .i32 (gi (P (k + 1)) 1), .int .i32 (gi (P (k + 1)) 2), .int .i32 (gi (P (k + 1)) 3), .int .i32 (gi (P (k + 1)) 4)]] w fun e w' => e = .returned (.bool true) ∧ Below w.heap.size w w') := fun w => c_eqPlaces [gi (P (k + 1)) 0, gi (P (k + 1)) 1, gi (P (k + 1)) 2, gi (P (k + 1)) 3, gi (P (k + 1)) 4] w rfl
      generalize gi (P (k + 1)) 0 = q0 at *
      generalize gi (P (k + 1)) 1 = q1 at *
      generalize gi (P (k + 1)) 2 = q2 at *
      generalize gi (P (k + 1)) 3 = q3 at *
      generalize gi (P (k + 1)) 4 = q4 at *
      go_wp2
      go_still_tail 8, (by kernel_rfl)
      change wpList _ _ _ _ _ wr.drew
      have HBd : Hid (Below w.heap.size w wr.drew) := below_drew hW.out
      clear a0 a1 a2 a3 a4 b0 b1 b2 b3 b4 O O'
      generalize wr.drew = wd at *
      go_wp2_with (go_at_call 32; ((with_reducible refine (CE _).out.mono ?_); rintro e w1 ⟨rfl, hb⟩))
      go_roundw
      case rel => exact ⟨k + 1, by omega, by go_num, Below.trans HBd.out (hb.mono HBd.out.size)⟩
      case measure => simp [intOf]; omega
    · obtain rfl : k = n := by omega
      have d1 : decide ((k : Int) < (k : Int)) = false := by simp
      go_wp2
      go_ret
      exact ⟨rfl, hW.out⟩
theorem c_markPlaces1 (v : Value) (base n : Nat) (xs : List Value) (w : World) (h : w.ownsRow base 44 5 v n xs) (hn : n ≤ 1048576) :
    Calls Try.prog 40 #[v, .int .i64 1] w fun e w' => e = .returned (.int .i64 (1 + ((n * 5 : Nat) : Int))) ∧ w'.ownsRow base 44 5 v n ((List.range (n * 5)).map (f32 1)) ∧ TouV v w w' := c_markPlacesS v base n 1 xs w h hn (by omega)
theorem c_heldPlaces1 (v : Value) (base n : Nat) (w : World) (h : w.ownsRow base 44 5 v n ((List.range (n * 5)).map (f32 1))) (hn : n ≤ 1048576) :
    Calls Try.prog 41 #[v, .int .i64 1] w fun e w' => e = .returned (.int .i64 (1 + ((n * 5 : Nat) : Int))) ∧ w = w' := c_heldPlacesS v base n 1 w h hn (by omega)
end Go.Proofs.Ytfgfhafppdclmaa
