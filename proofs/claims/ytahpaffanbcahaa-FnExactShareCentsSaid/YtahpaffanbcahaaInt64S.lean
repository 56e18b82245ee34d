/- Slices of 64-bit numbers: copied out of an argument, compared, marked, held. -/
import Derived.Test.YtahpaffanbcahaaMem4
import Derived.Test.YtahpaffanbcahaaScalars
import Derived.Laws.MakeOwn
import Derived.Deep.QuietTactic
import Derived.BigQuiet
namespace Go.Proofs.Ytahpaffanbcahaa
open Go.RowKit
set_option linter.unusedVariables false
set_option linter.unusedSimpArgs false
set_option maxRecDepth 100000

theorem own_rd {w : World} {base : Nat} {e : TypeId} {size : Nat} {A : Option Addr} {n c : Nat} {xs : List Value} (h : w.ownsRow base e size (.slice A n c) n xs) : RdRow w A xs := by
  intro j u hj
  rcases h.2 with ⟨h0, rfl⟩ | ⟨g, cap, cur, h0, _⟩
  · have := (List.getElem?_eq_some_iff.1 hj).1
    have h1 := h.1
    omega
  · cases h0
    refine ⟨_, rfl, ?_⟩
    have e : (Addr.add ⟨g, 0, none⟩ j) = ⟨g, j, none⟩ := by unfold Addr.add; split <;> simp_all
    rw [e]
    exact (own_get h hj).1
theorem nums_get {k : IntKind} {zs : List Int} {j : Nat} (h : j < zs.length) : (nums k zs)[j]? = some (.int k (gi zs j)) := nums_at j h
theorem marked_nums {zs : List Int} {n : Nat} (h : zs.length = n) (k : IntKind) : (List.range n).map (fun i => Value.int k (gi zs i)) = nums k zs := by
  subst h
  apply List.ext_getElem?
  intro j
  by_cases hj : j < zs.length
  · rw [nums_get hj]; simp [hj]
  · simp [nums, hj]
set_option maxHeartbeats 800000 in
theorem c_toInt64S (A : Option Addr) (n c : Nat) (zs : List Int) (w : World) (h : RdRow w A (nums .i64 zs)) (hl : zs.length = n) (hn : n ≤ 1048576) :
    Calls Try.prog 5 #[.slice A n c] w fun e w' => e = .returned (.slice (some ⟨w.heap.size, 0, none⟩) n n) ∧ w'.ownsRow w.heap.size 2 1 (.slice (some ⟨w.heap.size, 0, none⟩) n n) n (nums .i64 zs) ∧ Below w.heap.size w w' := by
  have H := Lib.hid h
  have HL := Lib.hid hl
  clear h hl
  have hmk : ∀ w : World, (Instr.makeSlice 22 (.int .i64 (n : Int)) (.int .i64 (n : Int))).run Try.prog w = .ok (.slice (some ⟨w.heap.size, 0, none⟩) n n) (w.alloc (.cells (madeCells #[.int .i64 0] (n * 1)) 2)) := fun w => by
    have hinfo : (Try.prog.info? 2).map (fun i => (i.zero, i.size, i.bytes)) = some (some (.int .i64 0), 1, 8) := by kernel_rfl
    obtain ⟨i, hi, hzz⟩ := Option.map_eq_some_iff.1 hinfo
    simp only [Prod.mk.injEq] at hzz
    obtain ⟨hz, hs, hb⟩ := hzz
    have := run_make (P := Try.prog) w 22 2 i _ Try.underlying22 hi hz .i64 .i64 (n : Int) (n : Int) (by omega) (Int.le_refl _) (by rw [hb]; omega) (by omega)
    rw [hs, Int.toNat_natCast] at this
    exact this
  have hms : (madeCells #[Value.int .i64 0] (n * 1)).size = n * 1 := size_madeCells _ _
  have HMK : Hid (∃ xs, (w.alloc (.cells (madeCells #[Value.int .i64 0] (n * 1)) 2 (0, 0))).ownsRow w.heap.size 2 1 (.slice (some ⟨w.heap.size, 0, none⟩) n n) n xs) :=
    ⟨_, by rw [List.length_take, Array.length_toList, hms]; simp, .inr ⟨_, n, _, rfl, Nat.le_refl _, heap_alloc_new w _, Nat.le_refl _, by simp only [maxLen]; omega, hms, rfl⟩⟩
  generalize hM : madeCells #[Value.int .i64 0] (n * 1) = M at *
  obtain ⟨xs, hxs⟩ := HMK.out
  have HX := Lib.hid hxs
  have hx := hxs.1
  clear hxs HMK
  go_enter Try.func5, Try.ntmps5
  go_wp2
  go_loopw [4] (fun i wr => ∃ k : Nat, k ≤ n ∧ i = .int .i64 k ∧ Hid (wr.ownsRow w.heap.size 2 1 (.slice (some ⟨w.heap.size, 0, none⟩) n n) n (marked (fun i => Value.int .i64 (gi zs i)) k xs)) ∧ Hid (Below w.heap.size w wr)) (fun i _ => n - (intOf i).toNat)
  case atStart => exact ⟨0, by omega, rfl, by rw [Hid, marked_zero]; exact HX.out, by show Below w.heap.size w _; (repeat (first | with_reducible exact Below.refl _ _ | with_reducible refine below_alloc ?_ _ | with_reducible refine below_drew ?_ | with_reducible refine below_drewN ?_ _ | with_reducible refine below_then ?_ (by assumption)))⟩
  case round =>
    obtain ⟨k, hk, rfl, hI, hB⟩ := hrel
    by_cases hlt : k < n
    · have d1 : decide ((k : Int) < (n : Int)) = true := by simp; omega
      obtain ⟨ad, rfl, c0⟩ := (H.out.below hB.out) k _ (nums_get (by rw [HL.out]; exact hlt))
      have k0 : (0 : Int) ≤ (k : Int) := by omega
      have k1 : (k : Int) < (n : Int) := by omega
      have hkl : k < (marked (fun i => Value.int .i64 (gi zs i)) k xs).length := by rw [marked_len _ (by omega)]; omega
      obtain ⟨x0, f0⟩ := own_get hI.out (List.getElem?_eq_getElem hkl)
      generalize (marked (fun i => Value.int .i64 (gi zs i)) k xs)[k]'hkl = u at *
      go_wp2
      go_roundw
      case rel =>
        refine ⟨k + 1, by omega, by go_num, ?_, hB.out.setCell (by simp) _⟩
        have := own_set hI.out k (by omega) (.int .i64 (gi zs k))
        rw [marked_set (fun i => Value.int .i64 (gi zs i)) (by omega)] at this
        exact this
      case measure => simp [intOf]; omega
    · obtain rfl : k = n := by omega
      have d1 : decide ((k : Int) < (k : Int)) = false := by simp
      have hO := hI.out
      rw [marked_all _ (by omega), marked_nums HL.out] at hO
      have HO := Lib.hid hO
      clear hO hI
      go_wp2
      exact bodyPost_ret (v := .slice (some ⟨w.heap.size, 0, none⟩) k k) (by simp [results, Try.results5, go_sem]) rfl ⟨rfl, HO.out, hB.out⟩
set_option maxHeartbeats 800000 in
theorem c_eqInt64S (A B : Option Addr) (n c c' : Nat) (zs : List Int) (w : World) (h : RdRow w A (nums .i64 zs)) (h' : RdRow w B (nums .i64 zs)) (hl : zs.length = n) (hn : n ≤ 1048576) :
    Calls Try.prog 7 #[.slice A n c, .slice B n c'] w fun e w' => e = .returned (.bool true) ∧ Below w.heap.size w w' := by
  have H := Lib.hid h
  have H' := Lib.hid h'
  have HL := Lib.hid hl
  clear h h' hl
  go_enter Try.func7, Try.ntmps7
  go_wp2
  go_loopw [5] (fun i wr => ∃ k : Nat, k ≤ n ∧ i = .int .i64 k ∧ Hid (Below w.heap.size w wr)) (fun i _ => n - (intOf i).toNat)
  case atStart => exact ⟨0, by omega, rfl, Below.refl _ _⟩
  case round =>
    obtain ⟨k, hk, rfl, hB⟩ := hrel
    by_cases hlt : k < n
    · have d1 : decide ((k : Int) < (n : Int)) = true := by simp; omega
      obtain ⟨ad, rfl, c0⟩ := (H.out.below hB.out) k _ (nums_get (by rw [HL.out]; exact hlt))
      obtain ⟨ad', rfl, c1⟩ := (H'.out.below hB.out) k _ (nums_get (by rw [HL.out]; exact hlt))
      have k0 : (0 : Int) ≤ (k : Int) := by omega
      have k1 : (k : Int) < (n : Int) := by omega
      go_wp2
      go_quiet (fail)
      go_wp2
      go_roundw
      case rel => exact ⟨k + 1, by omega, by go_num, below_drewN hB.out _⟩
      case measure => simp [intOf]; omega
    · obtain rfl : k = n := by omega
      have d1 : decide ((k : Int) < (k : Int)) = false := by simp
      go_wp2
      go_ret
      exact ⟨rfl, hB.out⟩
/-- Two rows with the same numbers. -/
theorem c_eqOwn64 (v v' : Value) (base base' n : Nat) (zs : List Int) (w : World) (h : w.ownsRow base 2 1 v n (nums .i64 zs)) (h' : w.ownsRow base' 2 1 v' n (nums .i64 zs)) (hn : n ≤ 1048576) :
    Calls Try.prog 7 #[v, v'] w fun e w' => e = .returned (.bool true) ∧ Below w.heap.size w w' := by
  obtain ⟨A, c, rfl, _⟩ := own_form h
  obtain ⟨B, c', rfl, _⟩ := own_form h'
  exact c_eqInt64S A B n c c' zs w (own_rd h) (own_rd h') (by have := h.1; simp [nums] at this; omega) hn
def f64 (k0 : Nat) (i : Nat) : Value := .int .i64 ((k0 : Int) + (i : Int))
set_option maxHeartbeats 800000 in
theorem c_markInt64S (v : Value) (base n k0 : Nat) (xs : List Value) (w : World) (h : w.ownsRow base 2 1 v n xs) (hn : n ≤ 1048576) (hk0 : k0 ≤ 100000000) :
    Calls Try.prog 8 #[v, .int .i64 (k0 : Int)] w fun e w' => e = .returned (.int .i64 ((k0 : Int) + (n : Int))) ∧ w'.ownsRow base 2 1 v n ((List.range n).map (f64 k0)) ∧ TouV v w w' := by
  obtain ⟨A, c, rfl, hA⟩ := own_form h
  have HX := Lib.hid h
  have hx := h.1
  clear h
  go_enter Try.func8, Try.ntmps8
  go_wp2
  go_loopw [5, 1] (fun i q wr => ∃ k : Nat, k ≤ n ∧ i = .int .i64 k ∧ q = .int .i64 ((k0 : Int) + (k : Int)) ∧ Hid (wr.ownsRow base 2 1 (.slice A n c) n (marked (f64 k0) k xs)) ∧ Hid (TouV (.slice A n c) w wr)) (fun i _ _ => n - (intOf i).toNat)
  case atStart => exact ⟨0, by omega, rfl, by simp, by rw [Hid, marked_zero]; exact HX.out, TouV.refl _ _⟩
  case round =>
    obtain ⟨k, hk, rfl, rfl, hI, hB⟩ := hrel
    by_cases hlt : k < n
    · have d1 : decide ((k : Int) < (n : Int)) = true := by simp; omega
      obtain ⟨g, rfl, hg⟩ := hA (by omega)
      have k1 : (0 : Int) ≤ (k : Int) := by omega
      have k2 : (k : Int) < (n : Int) := by omega
      have hkl : k < (marked (f64 k0) k xs).length := by rw [marked_len _ (by omega)]; omega
      obtain ⟨x0, f0⟩ := own_get hI.out (List.getElem?_eq_getElem hkl)
      generalize (marked (f64 k0) k xs)[k]'hkl = u at *
      go_wp2
      go_roundw
      case rel =>
        refine ⟨k + 1, by omega, by go_num, by go_num, ?_, TouV.setCell hB.out rfl _ _⟩
        have := own_set hI.out k (by omega) (.int .i64 ((k0 : Int) + (k : Int)))
        rw [show (Value.int .i64 ((k0 : Int) + (k : Int))) = f64 k0 k from rfl, marked_set (f64 k0) (by omega)] at this
        exact this
      case measure => simp [intOf]; omega
    · obtain rfl : k = n := by omega
      have d1 : decide ((k : Int) < (k : Int)) = false := by simp
      have hO := hI.out
      rw [marked_all _ (by omega)] at hO
      have HO := Lib.hid hO
      clear hO hI
      go_wp2
      go_ret
      exact ⟨rfl, HO.out, hB.out⟩
set_option maxHeartbeats 800000 in
theorem c_heldInt64S (v : Value) (base n k0 : Nat) (w : World) (h : w.ownsRow base 2 1 v n ((List.range n).map (f64 k0))) (hn : n ≤ 1048576) (hk0 : k0 ≤ 100000000) :
    Calls Try.prog 9 #[v, .int .i64 (k0 : Int)] w fun e w' => e = .returned (.int .i64 ((k0 : Int) + (n : Int))) ∧ w = w' := by
  obtain ⟨A, c, rfl, hA⟩ := own_form h
  have HX := Lib.hid (own_rd h)
  clear h
  go_enter Try.func9, Try.ntmps9
  go_wp2
  go_loop [5, 1] (fun i q => ∃ k : Nat, k ≤ n ∧ i = .int .i64 k ∧ q = .int .i64 ((k0 : Int) + (k : Int))) (fun i _ => n - (intOf i).toNat)
  case atStart => exact ⟨0, by omega, rfl, by simp⟩
  case round =>
    obtain ⟨k, hk, rfl, rfl⟩ := hrel
    by_cases hlt : k < n
    · have d1 : decide ((k : Int) < (n : Int)) = true := by simp; omega
      obtain ⟨ad, rfl, c0⟩ := HX.out k _ (marked_get (f64 k0) hlt)
      rw [f64] at c0
      have k1 : (0 : Int) ≤ (k : Int) := by omega
      have k2 : (k : Int) < (n : Int) := by omega
      go_wp2
      go_round
      case rel => exact ⟨k + 1, by omega, by go_num, by go_num⟩
      case measure => simp [intOf]; omega
    · obtain rfl : k = n := by omega
      have d1 : decide ((k : Int) < (k : Int)) = false := by simp
      go_wp2
      go_ret
      exact ⟨rfl, rfl⟩
theorem ints_len {zs : List Int} {n : Nat} {A : Option Addr} {w : World} {base c : Nat} (h : w.ownsRow base 2 1 (.slice A n c) n (nums .i64 zs)) : zs.length = n := by have := h.1; simp [nums] at this; omega
theorem gi_bd64 {zs : List Int} (h : ∀ z ∈ zs, (Lit.int .i64 z).wf = true) (j : Nat) : -9223372036854775808 ≤ gi zs j ∧ gi zs j ≤ 9223372036854775807 := by
  unfold gi
  by_cases hj : j < zs.length
  · have e : zs.getD j 0 = zs[j]'hj := by simp [List.getD, hj]
    rw [e]
    exact wf_i64 (h _ (List.getElem_mem hj))
  · have e : zs.getD j 0 = 0 := by simp [List.getD, List.getElem?_eq_none (show zs.length ≤ j by omega)]
    omega
theorem c_toInt64X (A : Option Addr) (n c : Nat) (zs : List Int) (w : World) (h : RdRow w A (nums .i64 zs)) (hl : zs.length = n) (hn : n ≤ 1048576) :
    Calls Try.prog 5 #[.slice A n c] w fun e w' => ∃ b xs, e = .returned (.slice (some ⟨b, 0, none⟩) n n) ∧ RdRow w' (some ⟨b, 0, none⟩) (nums .i64 zs) ∧ w'.ownsRow w.heap.size 2 1 (.slice (some ⟨b, 0, none⟩) n n) n xs ∧ Below w.heap.size w w' := by
  refine (c_toInt64S A n c zs w h hl hn).mono ?_
  rintro e w1 ⟨rfl, hO, hb⟩
  exact ⟨_, _, rfl, own_rd hO, hO, hb⟩
theorem c_markInt64E (v : Value) (base n : Nat) (q : Int) (xs : List Value) (w : World) (h : w.ownsRow base 2 1 v n xs) (hn : n ≤ 1048576) (h0 : 0 ≤ q) (h1 : q ≤ 50000000) :
    Calls Try.prog 8 #[v, .int .i64 q] w fun e w' => ∃ r : Int, e = .returned (.int .i64 r) ∧ q ≤ r ∧ r ≤ q + 1 * (n : Int) ∧ (∃ ys, w'.ownsRow base 2 1 v n ys) ∧ TouV v w w' := by
  obtain ⟨k, rfl⟩ := Int.eq_ofNat_of_zero_le h0
  refine (c_markInt64S v base n k xs w h hn (by omega)).mono ?_
  rintro e w1 ⟨rfl, hO, ht⟩
  exact ⟨_, rfl, by omega, by omega, ⟨_, hO⟩, ht⟩
theorem c_markInt641 (v : Value) (base n : Nat) (xs : List Value) (w : World) (h : w.ownsRow base 2 1 v n xs) (hn : n ≤ 1048576) :
    Calls Try.prog 8 #[v, .int .i64 1] w fun e w' => e = .returned (.int .i64 (1 + (n : Int))) ∧ w'.ownsRow base 2 1 v n ((List.range n).map (f64 1)) ∧ TouV v w w' := c_markInt64S v base n 1 xs w h hn (by omega)
theorem c_heldInt641 (v : Value) (base n : Nat) (w : World) (h : w.ownsRow base 2 1 v n ((List.range n).map (f64 1))) (hn : n ≤ 1048576) :
    Calls Try.prog 9 #[v, .int .i64 1] w fun e w' => e = .returned (.int .i64 (1 + (n : Int))) ∧ w = w' := c_heldInt64S v base n 1 w h hn (by omega)
end Go.Proofs.Ytahpaffanbcahaa
