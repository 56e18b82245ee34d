/- Lots in a slice: the reference's test. -/
import Derived.Test.YtfdljhepfoppaaaMem2
import Derived.Test.YtfdljhepfoppaaaScalars
import Derived.StillTailTactics
import Derived.Laws.MakeOwn
namespace Go.Proofs.Ytfdljhepfoppaaa
open Go.RowKit
set_option linter.unusedVariables false
set_option linter.unusedSimpArgs false
set_option maxRecDepth 100000

/-- n lots lie at A. -/
structure LotsAt (w : World) (A : Option Addr) (n : Nat) (s g : Nat → Int) : Prop where
  at_ : ∀ j, j < n → ∃ ad, A = some ad ∧ w.cell? (ad.add (j * 2)) = some (.int .i8 (s j)) ∧ w.cell? ⟨(ad.add (j * 2)).block, (ad.add (j * 2)).off + 1, none⟩ = some (.int .i16 (g j))
def shade (n : Int) : Bool := decide (0 ≤ n) && decide (n < 10)
def allB : Nat → (Nat → Bool) → Bool
  | 0, _ => true
  | n + 1, p => allB n p && p n
theorem c_l07Shade (n : Int) (w : World) : Calls Try.prog 56 #[.int .i8 n] w fun e w' => e = .returned (.bool (shade n)) ∧ w = w' := by
  by_cases h1 : 0 ≤ n
  · go_enter Try.func56, Try.ntmps56
    go_wp2
    go_ret
    simp [shade, h1]
  · go_enter Try.func56, Try.ntmps56
    go_wp2
    go_ret
    simp [shade, h1] <;> omega
theorem c_isShade (n : Int) (w : World) : Calls Try.prog 49 #[.int .i8 n] w fun e w' => e = .returned (.bool (shade n)) ∧ w = w' := by
  by_cases h1 : 0 ≤ n
  · go_enter Try.func49, Try.ntmps49
    go_wp2
    go_ret
    simp [shade, h1]
  · go_enter Try.func49, Try.ntmps49
    go_wp2
    go_ret
    simp [shade, h1] <;> omega
theorem allB_stop {p : Nat → Bool} {k : Nat} (h : p k = false) : ∀ {n : Nat}, k < n → allB n p = false
  | 0, hk => by omega
  | n + 1, hk => by
    by_cases e : k = n
    · subst e; simp [allB, h]
    · simp [allB, allB_stop h (show k < n by omega)]

theorem allB_get {p : Nat → Bool} : ∀ {n : Nat}, allB n p = true → ∀ j, j < n → p j = true
  | 0, _, j, hj => by omega
  | n + 1, h, j, hj => by
    simp [allB] at h
    by_cases e : j = n
    · subst e; exact h.2
    · exact allB_get h.1 j (by omega)
set_option maxHeartbeats 800000 in
theorem c_l07Lots (A : Option Addr) (n c : Nat) (s g : Nat → Int) (w : World) (h : LotsAt w A n s g) (hn : n ≤ 1048576) (hg : ∀ j, j < n → -32768 ≤ g j ∧ g j ≤ 32767) :
    Calls Try.prog 31 #[.slice A n c] w fun e w' => e = .returned (.bool (allB n (fun j => shade (s j) && inB (g j) 0 5000) && decide (n ≤ 6))) ∧ w = w' := by
  have H := Lib.hid h
  have HG := Lib.hid hg
  clear h hg
  go_enter Try.func31, Try.ntmps31
  go_wp2
  go_loop [3] (fun i => ∃ k : Nat, k ≤ n ∧ i = .int .i64 k ∧ Hid (allB k (fun j => shade (s j) && inB (g j) 0 5000) = true)) (fun i => n - (intOf i).toNat)
  case atStart => exact ⟨0, by omega, rfl, rfl⟩
  case round =>
    obtain ⟨k, hk, rfl, hI⟩ := hrel
    by_cases hlt : k < n
    · have d1 : decide ((k : Int) < (n : Int)) = true := by simp; omega
      obtain ⟨ad, rfl, c0, c1⟩ := H.out.at_ k hlt
      obtain ⟨g0, g1⟩ := HG.out k hlt
      have k0 : (0 : Int) ≤ (k : Int) := by omega
      have k1 : (k : Int) < (n : Int) := by omega
      cases q1 : shade (s k)
      · have E := Lib.hid (allB_stop (p := fun j => shade (s j) && inB (g j) 0 5000) (k := k) (n := n) (by simp [q1]) hlt)
        go_wp2_with (first | (go_at_call 56; ((with_reducible refine (c_l07Shade _ _).mono ?_); rintro e w1 ⟨rfl, rfl⟩)) | (go_at_call 45; ((with_reducible refine (c_l00In _ _ _ _).mono ?_); rintro e w1 ⟨rfl, rfl⟩)))
        go_ret
        exact ⟨by rw [E.out]; rfl, rfl⟩
      · cases q2 : inB (g k) 0 5000
        · have E := Lib.hid (allB_stop (p := fun j => shade (s j) && inB (g j) 0 5000) (k := k) (n := n) (by simp [q2]) hlt)
          go_wp2_with (first | (go_at_call 56; ((with_reducible refine (c_l07Shade _ _).mono ?_); rintro e w1 ⟨rfl, rfl⟩)) | (go_at_call 45; ((with_reducible refine (c_l00In _ _ _ _).mono ?_); rintro e w1 ⟨rfl, rfl⟩)))
          go_ret
          exact ⟨by rw [E.out]; rfl, rfl⟩
        · have E : Hid (allB (k + 1) (fun j => shade (s j) && inB (g j) 0 5000) = true) := by rw [Hid, allB, hI.out, q1, q2]; rfl
          go_wp2_with (first | (go_at_call 56; ((with_reducible refine (c_l07Shade _ _).mono ?_); rintro e w1 ⟨rfl, rfl⟩)) | (go_at_call 45; ((with_reducible refine (c_l00In _ _ _ _).mono ?_); rintro e w1 ⟨rfl, rfl⟩)))
          go_round
          case rel => exact ⟨k + 1, by omega, by go_num, E⟩
          case measure => simp [intOf]; omega
    · obtain rfl : k = n := by omega
      have d1 : decide ((k : Int) < (k : Int)) = false := by simp
      go_wp2
      go_ret
      exact ⟨by rw [hI.out, Bool.true_and, show decide (k ≤ 6) = decide ((k : Int) ≤ 6) by simp; omega]; rfl, rfl⟩

theorem LotsAt.below {w w1 : World} {A : Option Addr} {n : Nat} {s g : Nat → Int} (h : LotsAt w A n s g) (hb : Below w.heap.size w w1) : LotsAt w1 A n s g := by
  refine ⟨fun j hj => ?_⟩
  obtain ⟨ad, e, c0, c1⟩ := h.at_ j hj
  exact ⟨ad, e, (hb.cell (World.block_lt_of_cell? w _ c0)).trans c0, (hb.cell (World.block_lt_of_cell? w _ c1)).trans c1⟩
theorem LotsAt.of_row {w : World} {b : Nat} {n : Nat} {s g : Nat → Int} {arr : Array Value} {t : TypeId} {fr : Nat × Nat} (h : w.heap[b]? = some (.cells arr t fr)) (h0 : ∀ j, j < n → arr[j * 2]? = some (.int .i8 (s j)) ∧ arr[j * 2 + 1]? = some (.int .i16 (g j))) : LotsAt w (some ⟨b, 0, none⟩) n s g := by
  refine ⟨fun j hj => ⟨_, rfl, ?_, ?_⟩⟩
  · have e : (Addr.add ⟨b, 0, none⟩ (j * 2)) = ⟨b, j * 2, none⟩ := by unfold Addr.add; split <;> simp_all
    rw [e, cell_of_row w b _ _ _ _ h]; exact (h0 j hj).1
  · have e : (Addr.add ⟨b, 0, none⟩ (j * 2)) = ⟨b, j * 2, none⟩ := by unfold Addr.add; split <;> simp_all
    rw [e, cell_of_row w b _ _ _ _ h]; exact (h0 j hj).2
theorem rows2 {arr : Array Value} {n k : Nat} {s g : Nat → Int} (hs : arr.size = n * 2) (hk : k < n) (hC : ∀ j, j < k → arr[j * 2]? = some (.int .i8 (s j)) ∧ arr[j * 2 + 1]? = some (.int .i16 (g j))) :
    ((arr.setIfInBounds (k * 2) (.int .i8 (s k))).setIfInBounds (k * 2 + 1) (.int .i16 (g k))).size = n * 2 ∧ ∀ j, j < k + 1 → ((arr.setIfInBounds (k * 2) (.int .i8 (s k))).setIfInBounds (k * 2 + 1) (.int .i16 (g k)))[j * 2]? = some (.int .i8 (s j)) ∧ ((arr.setIfInBounds (k * 2) (.int .i8 (s k))).setIfInBounds (k * 2 + 1) (.int .i16 (g k)))[j * 2 + 1]? = some (.int .i16 (g j)) := by
  refine ⟨by simp [hs], fun j hj => ?_⟩
  by_cases e : j = k
  · subst e
    refine ⟨?_, ?_⟩
    · rw [Array.getElem?_setIfInBounds_ne (by omega), Array.getElem?_setIfInBounds_self_of_lt (by omega)]
    · rw [Array.getElem?_setIfInBounds_self_of_lt (by simp; omega)]
  · refine ⟨?_, ?_⟩
    · rw [Array.getElem?_setIfInBounds_ne (by omega), Array.getElem?_setIfInBounds_ne (by omega)]
      exact (hC j (by omega)).1
    · rw [Array.getElem?_setIfInBounds_ne (by omega), Array.getElem?_setIfInBounds_ne (by omega)]
      exact (hC j (by omega)).2
set_option maxHeartbeats 800000 in
theorem c_indexLot (F : Nat) (caps : Array Value) (he : ∀ args w, (callFunc F args).run Try.prog w = .ok (.enter F args) w) (q : Nat → Bool) (A : Option Addr) (n c : Nat) (s g : Nat → Int) (w : World) (h : LotsAt w A n s g) (hn : n ≤ 1048576)
    (hstep : ∀ j, j < n → ∀ w1, Below w.heap.size w w1 → Calls Try.prog F (#[.agg #[.int .i8 (s j), .int .i16 (g j)]] ++ caps) w1 fun e w2 => e = .returned (.bool (q j)) ∧ Below w1.heap.size w1 w2) :
    Calls Try.prog 74 #[.slice A n c, .func (.func F) #[] caps] w fun e w' => ∃ z : Int, e = .returned (.int .i64 z) ∧ decide (0 ≤ z) = (!(allB n fun j => !q j)) ∧ Below w.heap.size w w' := by
  have H := Lib.hid h
  have HS := Lib.hid hstep
  clear h hstep
  go_enter Try.func74, Try.ntmps74
  go_wp2
  go_loopw [8] (fun i wr => ∃ k : Nat, k ≤ n ∧ i = .int .i64 k ∧ Hid (allB k (fun j => !q j) = true) ∧ Hid (Below w.heap.size w wr)) (fun i _ => n - (intOf i).toNat)
  case atStart => exact ⟨0, by omega, rfl, rfl, Below.refl _ _⟩
  case round =>
    obtain ⟨k, hk, rfl, hI, hB⟩ := hrel
    by_cases hlt : k < n
    · have d1 : decide ((k : Int) < (n : Int)) = true := by simp; omega
      obtain ⟨ad, rfl, c0, c1⟩ := (H.out.below hB.out).at_ k hlt
      have k0 : (0 : Int) ≤ (k : Int) := by omega
      have k1 : (k : Int) < (n : Int) := by omega
      go_wp2
      refine (HS.out k hlt wr hB.out).mono ?_
      rintro e w1 ⟨rfl, hb⟩
      have hB1 := Lib.hid (Below.trans hB.out (hb.mono hB.out.size))
      cases hq : q k
      · have E : Hid (allB (k + 1) (fun j => !q j) = true) := by rw [Hid, allB, hI.out, hq]; rfl
        go_wp2
        go_roundw
        case rel => exact ⟨k + 1, by omega, by go_num, E, hB1⟩
        case measure => simp [intOf]; omega
      · have E := Lib.hid (allB_stop (p := fun j => !q j) (k := k) (n := n) (by simp [hq]) hlt)
        go_wp2
        go_ret
        exact ⟨_, rfl, by rw [E.out]; simp, hB1.out⟩
    · obtain rfl : k = n := by omega
      have d1 : decide ((k : Int) < (k : Int)) = false := by simp
      go_wp2
      go_ret
      exact ⟨_, rfl, by rw [hI.out]; rfl, hB.out⟩
end Go.Proofs.Ytfdljhepfoppaaa
