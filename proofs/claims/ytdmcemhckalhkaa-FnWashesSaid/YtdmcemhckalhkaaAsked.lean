/- The code of a cloth and programs, by the reference and by the program. -/
import Derived.Test.YtdmcemhckalhkaaWashList
import Derived.Test.YtdmcemhckalhkaaMem3
namespace Go.Proofs.Ytdmcemhckalhkaa
open Go.RowKit
set_option linter.unusedVariables false
set_option linter.unusedSimpArgs false
set_option maxRecDepth 100000

def askedF (a b c d e : Int) (n : Nat) (p q r : Nat → Int) : Int :=
  if (okCloth a b c d e && allB n (fun j => okProgram (p j) (q j) (r j))) = true then (if n ≤ 6 then 0 else 3) else 1
theorem progAt_of {w : World} {gb n : Nat} {p q r : Nat → Int} (h : ProgsAt w (some ⟨gb, 0, none⟩) n p q r) {k : Nat} (hk : k < n) : ProgAt w gb (k * 3) (p k) (q k) (r k) := by
  obtain ⟨ad, e, c0, c1, c2⟩ := h.at_ k hk
  cases e
  have e1 : (Addr.add ⟨gb, 0, none⟩ (k * 3)) = ⟨gb, k * 3, none⟩ := by unfold Addr.add; split <;> simp_all
  rw [e1] at c0 c1 c2
  exact ⟨c0, c1, c2⟩
theorem ClothAt.below {w w1 : World} {g o : Nat} {a b c d e : Int} (h : ClothAt w g o a b c d e) (hb : Below w.heap.size w w1) : ClothAt w1 g o a b c d e :=
  ⟨(hb.cell (World.block_lt_of_cell? w _ h.1)).trans h.1, (hb.cell (World.block_lt_of_cell? w _ h.2.1)).trans h.2.1, (hb.cell (World.block_lt_of_cell? w _ h.2.2.1)).trans h.2.2.1, (hb.cell (World.block_lt_of_cell? w _ h.2.2.2.1)).trans h.2.2.2.1, (hb.cell (World.block_lt_of_cell? w _ h.2.2.2.2)).trans h.2.2.2.2⟩
theorem clothAt_row {w : World} {g : Nat} {t : TypeId} {fr : Nat × Nat} {a b c d e : Int} (h : w.heap[g]? = some (.cells #[.int .i16 a, .int .i16 b, .int .i8 c, .int .i8 d, .int .i8 e] t fr)) : ClothAt w g 0 a b c d e :=
  ⟨cell_of_row w g 0 _ _ _ h, cell_of_row w g 1 _ _ _ h, cell_of_row w g 2 _ _ _ h, cell_of_row w g 3 _ _ _ h, cell_of_row w g 4 _ _ _ h⟩
set_option maxHeartbeats 1000000 in
theorem c_l06Asked (g gb : Nat) (a b c d e : Int) (n cap : Nat) (p q r : Nat → Int) (w : World) (hc : ClothAt w g 0 a b c d e) (ha : -32768 ≤ a ∧ a ≤ 32767) (hb : -32768 ≤ b ∧ b ≤ 32767) (h : ProgsAt w (some ⟨gb, 0, none⟩) n p q r) (hn : n ≤ 1048576) :
    Calls Try.prog 37 #[.pointer (some ⟨g, 0, none⟩), .slice (some ⟨gb, 0, none⟩) n cap] w fun u w' => u = .returned (.int .i64 (askedF a b c d e n p q r)) ∧ w = w' := by
  have co := c_l06Ok g 0 a b c d e w ha hb hc.1 hc.2.1 hc.2.2.1 hc.2.2.2.1 hc.2.2.2.2
  have H := Lib.hid h
  clear h hc
  cases q1 : okCloth a b c d e
  · have E : Hid (askedF a b c d e n p q r = 1) := by rw [Hid, askedF, q1]; rfl
    rw [q1] at co
    have CO := Lib.hid co
    clear co q1
    go_enter Try.func37, Try.ntmps37
    go_wp2_with (go_at_call 53; ((with_reducible refine CO.out.mono ?_); rintro u w1 ⟨rfl, rfl⟩))
    go_ret
    exact ⟨by rw [E.out]; rfl, rfl⟩
  · rw [q1] at co
    have CO := Lib.hid co
    have E : Hid (askedF a b c d e n p q r = if allB n (fun j => okProgram (p j) (q j) (r j)) = true then (if n ≤ 6 then 0 else 3) else 1) := by rw [Hid, askedF, q1, Bool.true_and]
    clear co q1
    go_enter Try.func37, Try.ntmps37
    go_wp2_with (go_at_call 53; ((with_reducible refine CO.out.mono ?_); rintro u w1 ⟨rfl, rfl⟩))
    go_loop [5] (fun i => ∃ k : Nat, k ≤ n ∧ i = .int .i64 k ∧ Hid (allB k (fun j => okProgram (p j) (q j) (r j)) = true)) (fun i => n - (intOf i).toNat)
    case atStart => exact ⟨0, by omega, rfl, rfl⟩
    case round =>
      obtain ⟨k, hk, rfl, hI⟩ := hrel
      by_cases hlt : k < n
      · have d1 : decide ((k : Int) < (n : Int)) = true := by simp; omega
        obtain ⟨p0, p1, p2⟩ := progAt_of H.out hlt
        have k0 : (0 : Int) ≤ (k : Int) := by omega
        have k1 : (k : Int) < (n : Int) := by omega
        have CP := c_l06Program gb (k * 3) (p k) (q k) (r k) w p0 p1 p2
        cases q2 : okProgram (p k) (q k) (r k)
        · have E2 := Lib.hid (allB_stop (p := fun j => okProgram (p j) (q j) (r j)) (k := k) (n := n) q2 hlt)
          rw [q2] at CP
          have CP := Lib.hid CP
          go_wp2_with (go_at_call 54; ((with_reducible refine CP.out.mono ?_); rintro u w1 ⟨rfl, rfl⟩))
          go_ret
          exact ⟨by rw [E.out, E2.out]; rfl, rfl⟩
        · have E2 : Hid (allB (k + 1) (fun j => okProgram (p j) (q j) (r j)) = true) := by rw [Hid, allB, hI.out, q2]; rfl
          rw [q2] at CP
          have CP := Lib.hid CP
          go_wp2_with (go_at_call 54; ((with_reducible refine CP.out.mono ?_); rintro u w1 ⟨rfl, rfl⟩))
          go_round
          case rel => exact ⟨k + 1, by omega, by go_num, E2⟩
          case measure => simp [intOf]; omega
      · obtain rfl : k = n := by omega
        have d1 : decide ((k : Int) < (k : Int)) = false := by simp
        by_cases h6 : k ≤ 6
        · have d6 : decide ((6 : Int) < (k : Int)) = false := by simp; omega
          have E3 : Hid (askedF a b c d e k p q r = 0) := by rw [Hid, E.out, hI.out, if_pos rfl, if_pos h6]
          go_wp2
          go_ret
          exact ⟨by rw [E3.out]; rfl, rfl⟩
        · have d6 : decide ((6 : Int) < (k : Int)) = true := by simp; omega
          have E3 : Hid (askedF a b c d e k p q r = 3) := by rw [Hid, E.out, hI.out, if_pos rfl, if_neg h6]
          go_wp2
          go_ret
          exact ⟨by rw [E3.out]; rfl, rfl⟩
set_option maxHeartbeats 1000000 in
theorem c_washCode (A : Option Addr) (a b c d e : Int) (n cap : Nat) (p q r : Nat → Int) (w : World) (ha : -32768 ≤ a ∧ a ≤ 32767) (hb : -32768 ≤ b ∧ b ≤ 32767) (h : ProgsAt w A n p q r) (hn : n ≤ 1048576) (hg : ∀ j, j < n → (-128 ≤ r j ∧ r j ≤ 127) ∧ (-128 ≤ p j ∧ p j ≤ 127) ∧ (-128 ≤ q j ∧ q j ≤ 127)) :
    Calls Try.prog 31 #[.agg #[.int .i16 a, .int .i16 b, .int .i8 c, .int .i8 d, .int .i8 e], .slice A n cap] w fun u w' => u = .returned (.int .i64 (askedF a b c d e n p q r)) ∧ Below w.heap.size w w' := by
  have HB0 : Hid (Below w.heap.size w (w.alloc (.cells #[.int .i16 a, .int .i16 b, .int .i8 c, .int .i8 d, .int .i8 e] 27 (0, 0)))) := below_alloc (Below.refl _ _) _
  have H := Lib.hid (h.below HB0.out)
  have co := fun w => c_iValidCloth a b c d e w ha hb
  have ca := fun w h => c_areAllProgram A n cap p q r w h hn hg
  clear h hg
  cases q1 : okCloth a b c d e
  · have E : Hid (askedF a b c d e n p q r = 1) := by rw [Hid, askedF, q1]; rfl
    rw [q1] at co
    have CO := fun w => Lib.hid (co w)
    clear co ca q1
    go_enter Try.func31, Try.ntmps31
    go_wp2_with (go_at_call 19; ((with_reducible refine (CO _).out.mono ?_); rintro u w1 ⟨rfl, hb⟩))
    go_ret
    exact ⟨by rw [E.out]; rfl, by (repeat (first | with_reducible exact Below.refl _ _ | with_reducible refine below_alloc ?_ _ | with_reducible refine below_drew ?_ | with_reducible refine below_drewN ?_ _ | with_reducible refine below_then ?_ (by assumption)))⟩
  · rw [q1] at co
    have CO := fun w => Lib.hid (co w)
    have E : Hid (askedF a b c d e n p q r = if allB n (fun j => okProgram (p j) (q j) (r j)) = true then (if n ≤ 6 then 0 else 3) else 1) := by rw [Hid, askedF, q1, Bool.true_and]
    cases q2 : allB n (fun j => okProgram (p j) (q j) (r j))
    · rw [q2] at ca
      have CA := fun w h => Lib.hid (ca w h)
      have E3 : Hid (askedF a b c d e n p q r = 1) := by rw [Hid, E.out, q2]; rfl
      clear co ca q1 q2
      go_enter Try.func31, Try.ntmps31
      go_wp2_with (first
        | (go_at_call 19; ((with_reducible refine (CO _).out.mono ?_); rintro u w1 ⟨rfl, hb⟩; have H := Lib.hid (H.out.below hb)))
        | (go_at_call 57; ((with_reducible refine (CA _ H.out).out.mono ?_); rintro u w1 ⟨rfl, hb⟩)))
      go_ret
      exact ⟨by rw [E3.out]; rfl, by (repeat (first | with_reducible exact Below.refl _ _ | with_reducible refine below_alloc ?_ _ | with_reducible refine below_drew ?_ | with_reducible refine below_drewN ?_ _ | with_reducible refine below_then ?_ (by assumption)))⟩
    · rw [q2] at ca
      have CA := fun w h => Lib.hid (ca w h)
      by_cases h6 : n ≤ 6
      · have d6 : decide ((6 : Int) < (n : Int)) = false := by simp; omega
        have E3 : Hid (askedF a b c d e n p q r = 0) := by rw [Hid, E.out, q2, if_pos rfl, if_pos h6]
        clear co ca q1 q2
        go_enter Try.func31, Try.ntmps31
        go_wp2_with (first
          | (go_at_call 19; ((with_reducible refine (CO _).out.mono ?_); rintro u w1 ⟨rfl, hb⟩; have H := Lib.hid (H.out.below hb)))
          | (go_at_call 57; ((with_reducible refine (CA _ H.out).out.mono ?_); rintro u w1 ⟨rfl, hb⟩)))
        go_ret
        exact ⟨by rw [E3.out]; rfl, by (repeat (first | with_reducible exact Below.refl _ _ | with_reducible refine below_alloc ?_ _ | with_reducible refine below_drew ?_ | with_reducible refine below_drewN ?_ _ | with_reducible refine below_then ?_ (by assumption)))⟩
      · have d6 : decide ((6 : Int) < (n : Int)) = true := by simp; omega
        have E3 : Hid (askedF a b c d e n p q r = 3) := by rw [Hid, E.out, q2, if_pos rfl, if_neg h6]
        clear co ca q1 q2
        go_enter Try.func31, Try.ntmps31
        go_wp2_with (first
          | (go_at_call 19; ((with_reducible refine (CO _).out.mono ?_); rintro u w1 ⟨rfl, hb⟩; have H := Lib.hid (H.out.below hb)))
          | (go_at_call 57; ((with_reducible refine (CA _ H.out).out.mono ?_); rintro u w1 ⟨rfl, hb⟩)))
        go_ret
        exact ⟨by rw [E3.out]; rfl, by (repeat (first | with_reducible exact Below.refl _ _ | with_reducible refine below_alloc ?_ _ | with_reducible refine below_drew ?_ | with_reducible refine below_drewN ?_ _ | with_reducible refine below_then ?_ (by assumption)))⟩
end Go.Proofs.Ytdmcemhckalhkaa
