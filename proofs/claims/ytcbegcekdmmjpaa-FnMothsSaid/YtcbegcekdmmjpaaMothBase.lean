/- What the law on moths calls beside the program. -/
import Derived.Test.YtcbegcekdmmjpaaMothPure
import Derived.Test.YtcbegcekdmmjpaaDrawHoles
import Derived.Test.YtcbegcekdmmjpaaLSpotsIn
import Derived.BigQuiet
namespace Go.Proofs.Ytcbegcekdmmjpaa
open Go.RowKit
set_option linter.unusedVariables false
set_option linter.unusedSimpArgs false
set_option maxRecDepth 100000

theorem c_a2Long (A B : Option Addr) (n c m c2 : Nat) (w : World) :
    Calls Try.prog 4 #[.slice A n c, .slice B m c2] w fun e w' => e = .returned (.bool (decide ((3000 : Int) < (n : Int)) || decide ((3000 : Int) < (m : Int)))) ∧ w = w' := by
  by_cases h : (3000 : Int) < (n : Int)
  · have d1 : decide ((3000 : Int) < (n : Int)) = true := by simp only [decide_eq_true_eq]; exact h
    go_enter Try.func4, Try.ntmps4
    go_wp2
    exact bodyPost_ret (v := .bool true) (by simp [results, Try.results4, go_sem]) rfl ⟨by rw [d1]; rfl, rfl⟩
  · have d1 : decide ((3000 : Int) < (n : Int)) = false := by simp only [decide_eq_false_iff_not]; exact h
    go_enter Try.func4, Try.ntmps4
    go_wp2
    exact bodyPost_ret (v := .bool (decide ((3000 : Int) < (m : Int)))) (by simp [results, Try.results4, go_sem]) rfl ⟨rfl, rfl⟩
theorem c_a2At (A : Option Addr) (cap : Nat) (xs : List Int) (k : Nat) (n : Int) (w : World) (h : BytesAt w A xs) (hn : 1 ≤ n) (hk : (k : Int) ≤ 1000) :
    Calls Try.prog 6 #[.slice A xs.length cap, .int .i64 (k : Int), .int .i64 n] w fun e w' => ∃ r : Int, e = .returned (.int .i64 r) ∧ 0 ≤ r ∧ r < n ∧ w = w' := by
  have H := Lib.hid h
  have hnum := h.num
  clear h
  by_cases hlt : k < xs.length
  · have d1 : decide ((xs.length : Int) ≤ (k : Int)) = false := by simp; omega
    have d2 : decide (n < 1) = false := by simp; omega
    have d3 : ¬ n = 0 := by omega
    have k0 : (0 : Int) ≤ (k : Int) := by omega
    have k1 : (k : Int) < (xs.length : Int) := by omega
    obtain ⟨ad, rfl, c0⟩ := H.out.row k _ (nums_get hlt)
    obtain ⟨b0, b1⟩ := H.out.bd k
    generalize gi xs k = b at *
    go_enter Try.func6, Try.ntmps6
    go_wp2
    exact bodyPost_ret (v := .int .i64 (b % n)) (by simp [results, Try.results6, go_sem]) rfl ⟨_, rfl, Int.emod_nonneg _ (by omega), Int.emod_lt_of_pos _ (by omega), rfl⟩
  · have d1 : decide ((xs.length : Int) ≤ (k : Int)) = true := by simp; omega
    go_enter Try.func6, Try.ntmps6
    go_wp2
    exact bodyPost_ret (v := .int .i64 0) (by simp [results, Try.results6, go_sem]) rfl ⟨0, rfl, by omega, by omega, rfl⟩
set_option maxHeartbeats 1000000 in
theorem c_A2SameSpots (v v' : Value) (base base' : Nat) (L : List (List Int)) (w : World) (h : w.ownsRow base 25 8 v L.length (rows8 L)) (h' : w.ownsRow base' 25 8 v' L.length (rows8 L)) (hP : ∀ s ∈ L, Holes8 s) (hn : L.length ≤ 1048576) :
    Calls Try.prog 17 #[v, v'] w fun e w' => e = .returned (.bool true) ∧ Below w.heap.size w w' := by
  obtain ⟨A, c, rfl, hA⟩ := own_form h
  obtain ⟨B, c', rfl, hB⟩ := own_form h'
  have H := Lib.hid h
  have H' := Lib.hid h'
  have HP := Lib.hid hP
  clear h h' hP
  go_enter Try.func17, Try.ntmps17
  go_wp2
  go_loopw [5] (fun i wr => ∃ k : Nat, k ≤ L.length ∧ i = .int .i64 k ∧ Hid (Below w.heap.size w wr)) (fun i _ => L.length - (intOf i).toNat)
  case atStart => exact ⟨0, by omega, rfl, Below.refl _ _⟩
  case round =>
    obtain ⟨k, hk, rfl, hW⟩ := hrel
    by_cases hlt : k < L.length
    · have d1 : decide ((k : Int) < (L.length : Int)) = true := by simp; omega
      obtain ⟨g, rfl, hg⟩ := hA (by omega)
      obtain ⟨g', rfl, hg'⟩ := hB (by omega)
      have k1 : (0 : Int) ≤ (k : Int) := by omega
      have k2 : (k : Int) < (L.length : Int) := by omega
      have O := Lib.hid (own_below H.out hW.out)
      have O' := Lib.hid (own_below H'.out hW.out)
      have a0 := (own_get O.out (rows8_get0 HP.out hlt)).1
      have a1 := (own_get O.out (rows8_get HP.out hlt (j := 1) (by omega))).1
      have a2 := (own_get O.out (rows8_get HP.out hlt (j := 2) (by omega))).1
      have a3 := (own_get O.out (rows8_get HP.out hlt (j := 3) (by omega))).1
      have a4 := (own_get O.out (rows8_get HP.out hlt (j := 4) (by omega))).1
      have a5 := (own_get O.out (rows8_get HP.out hlt (j := 5) (by omega))).1
      have a6 := (own_get O.out (rows8_get HP.out hlt (j := 6) (by omega))).1
      have a7 := (own_get O.out (rows8_get HP.out hlt (j := 7) (by omega))).1
      have b0 := (own_get O'.out (rows8_get0 HP.out hlt)).1
      have b1 := (own_get O'.out (rows8_get HP.out hlt (j := 1) (by omega))).1
      have b2 := (own_get O'.out (rows8_get HP.out hlt (j := 2) (by omega))).1
      have b3 := (own_get O'.out (rows8_get HP.out hlt (j := 3) (by omega))).1
      have b4 := (own_get O'.out (rows8_get HP.out hlt (j := 4) (by omega))).1
      have b5 := (own_get O'.out (rows8_get HP.out hlt (j := 5) (by omega))).1
      have b6 := (own_get O'.out (rows8_get HP.out hlt (j := 6) (by omega))).1
      have b7 := (own_get O'.out (rows8_get HP.out hlt (j := 7) (by omega))).1
      generalize gi (L.getD k []) 0 = q0 at *
      generalize gi (L.getD k []) 1 = q1 at *
      generalize gi (L.getD k []) 2 = q2 at *
      generalize gi (L.getD k []) 3 = q3 at *
      generalize gi (L.getD k []) 4 = q4 at *
      generalize gi (L.getD k []) 5 = q5 at *
      generalize gi (L.getD k []) 6 = q6 at *
      generalize gi (L.getD k []) 7 = q7 at *
      have he := fun w => run_equalIn_nums (P := Try.prog) w 9998 25 5 8 .u8 Try.underlying25 Try.underlying5 (by kernel_rfl) [q0, q1, q2, q3, q4, q5, q6, q7] [q0, q1, q2, q3, q4, q5, q6, q7] rfl rfl
      simp only [nums, List.map_cons, List.map_nil, beq_self_eq_true] at he
      go_wp2
      go_quiet (fail)
      go_wp2
      go_roundw
      case rel => exact ⟨k + 1, by omega, by go_num, below_drewN hW.out _⟩
      case measure => simp [intOf]; omega
    · obtain rfl : k = L.length := by omega
      have d1 : decide ((L.length : Int) < (L.length : Int)) = false := by simp
      go_wp2
      go_ret
      exact ⟨rfl, hW.out⟩
/-- Blocks of holes that lie. -/
def Kept (l : List (Nat × List Int)) (w : World) : Prop := ∀ p ∈ l, w.heap[p.1]? = some (.cells (nums .u8 p.2).toArray 25 (0, 0))
theorem Kept.below {l : List (Nat × List Int)} {w w1 : World} (h : Kept l w) (hb : Below w.heap.size w w1) : Kept l w1 := fun p hp => blk_below (h p hp) hb
theorem Kept.cons {l : List (Nat × List Int)} {w : World} {g : Nat} {hs : List Int} (h : Kept l w) (hg : w.heap[g]? = some (.cells (nums .u8 hs).toArray 25 (0, 0))) : Kept ((g, hs) :: l) w := fun p hp => by
  rcases List.mem_cons.1 hp with rfl | hp
  · exact hg
  · exact h p hp
theorem Kept.nil (w : World) : Kept [] w := fun _ h => by cases h
theorem Kept.drew {l : List (Nat × List Int)} {w : World} (h : Kept l w) (n : Nat) : Kept l (w.drewN n) := h
theorem Kept.tou {l : List (Nat × List Int)} {w w1 : World} {g : Nat} (h : Kept l w) (ht : Tou g w w1) (hg : ∀ p ∈ l, p.1 ≠ g) : Kept l w1 := fun p hp => blk_tou (h p hp) ht (hg p hp)
end Go.Proofs.Ytcbegcekdmmjpaa
