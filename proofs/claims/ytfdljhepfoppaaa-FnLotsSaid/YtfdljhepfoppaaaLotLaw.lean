/- Lots: the implementation's test, and the law. -/
import Derived.Test.YtfdljhepfoppaaaLotBase
import Derived.Shelf.Abstract
namespace Go.Proofs.Ytfdljhepfoppaaa
open Go.RowKit
set_option linter.unusedVariables false
set_option linter.unusedSimpArgs false
set_option maxRecDepth 100000

theorem allB_not (n : Nat) (q : Nat → Bool) : (allB n fun j => !(!q j)) = allB n q := by simp
def okLot (s g : Int) : Bool := shade s && inB g 0 5000
theorem c_okLot (s g : Int) (w : World) (hg : -32768 ≤ g ∧ g ≤ 32767) :
    Calls Try.prog 48 #[.agg #[.int .i8 s, .int .i16 g]] w fun e w' => e = .returned (.bool (okLot s g)) ∧ Below w.heap.size w w' := by
  obtain ⟨g0, g1⟩ := hg
  cases q1 : shade s
  · go_enter Try.func48, Try.ntmps48
    go_wp2_with (first | (go_at_call 49; ((with_reducible refine (c_isShade _ _).mono ?_); rintro e w1 ⟨rfl, rfl⟩)) | (go_at_call 43; ((with_reducible refine (c_within _ _ _ _).mono ?_); rintro e w1 ⟨rfl, rfl⟩)))
    go_ret
    exact ⟨by rw [okLot, q1]; rfl, by (repeat (first | with_reducible exact Below.refl _ _ | with_reducible refine below_alloc ?_ _ | with_reducible refine below_drew ?_ | with_reducible refine below_drewN ?_ _ | with_reducible refine below_then ?_ (by assumption)))⟩
  · go_enter Try.func48, Try.ntmps48
    go_wp2_with (first | (go_at_call 49; ((with_reducible refine (c_isShade _ _).mono ?_); rintro e w1 ⟨rfl, rfl⟩)) | (go_at_call 43; ((with_reducible refine (c_within _ _ _ _).mono ?_); rintro e w1 ⟨rfl, rfl⟩)))
    go_ret
    exact ⟨by rw [okLot, q1]; rfl, by (repeat (first | with_reducible exact Below.refl _ _ | with_reducible refine below_alloc ?_ _ | with_reducible refine below_drew ?_ | with_reducible refine below_drewN ?_ _ | with_reducible refine below_then ?_ (by assumption)))⟩
theorem c_areAllLot1 (s g : Int) (b : Nat) (w : World) (hg : -32768 ≤ g ∧ g ≤ 32767) (hc : w.cell? ⟨b, 0, none⟩ = some (.func (.func 48) #[] #[])) (hb : b < w.heap.size) :
    Calls Try.prog 65 #[.agg #[.int .i8 s, .int .i16 g], .pointer (some ⟨b, 0, none⟩)] w fun e w' => e = .returned (.bool (!okLot s g)) ∧ Below w.heap.size w w' := by
  have he : ∀ args w, (callFunc 48 args).run Try.prog w = .ok (.enter 48 args) w := enters_of Try.func48 (by kernel_rfl) rfl
  have hne : ¬ b = w.heap.size := by omega
  go_enter Try.func65, Try.ntmps65
  go_wp2_with (go_at_call 48; ((with_reducible refine (c_okLot _ _ _ hg).mono ?_); rintro e w1 ⟨rfl, hb⟩))
  go_ret
  exact ⟨rfl, by (repeat (first | with_reducible exact Below.refl _ _ | with_reducible refine below_alloc ?_ _ | with_reducible refine below_drew ?_ | with_reducible refine below_drewN ?_ _ | with_reducible refine below_then ?_ (by assumption)))⟩
theorem c_areAllLot (A : Option Addr) (n c : Nat) (s g : Nat → Int) (w : World) (h : LotsAt w A n s g) (hn : n ≤ 1048576) (hg : ∀ j, j < n → -32768 ≤ g j ∧ g j ≤ 32767) :
    Calls Try.prog 47 #[.slice A n c, .func (.func 48) #[] #[]] w fun e w' => e = .returned (.bool (allB n fun j => okLot (s j) (g j))) ∧ Below w.heap.size w w' := by
  have he : ∀ args w, (callFunc 65 args).run Try.prog w = .ok (.enter 65 args) w := enters_of Try.func65 (by kernel_rfl) rfl
  have hcell := cell_of_row _ w.heap.size 0 _ _ _ (heap_alloc_new w (.cells #[.func (.func 48) #[] #[]] 71 (0, 0)))
  have hI := c_indexLot 65 #[.pointer (some ⟨w.heap.size, 0, none⟩)] he (fun j => !okLot (s j) (g j)) A n c s g (w.alloc (.cells #[.func (.func 48) #[] #[]] 71 (0, 0))) (h.below (by (repeat (first | with_reducible exact Below.refl _ _ | with_reducible refine below_alloc ?_ _ | with_reducible refine below_drew ?_ | with_reducible refine below_drewN ?_ _ | with_reducible refine below_then ?_ (by assumption))))) hn
    (fun j hj w1 hb => c_areAllLot1 (s j) (g j) w.heap.size w1 (hg j hj) ((hb.cell (p := ⟨w.heap.size, 0, none⟩) (by simp)).trans hcell) (Nat.lt_of_lt_of_le (by simp) hb.size))
  have HI := Lib.hid hI
  have hB : Below w.heap.size w (w.alloc (.cells #[.func (.func 48) #[] #[]] 71 (0, 0))) := by (repeat (first | with_reducible exact Below.refl _ _ | with_reducible refine below_alloc ?_ _ | with_reducible refine below_drew ?_ | with_reducible refine below_drewN ?_ _ | with_reducible refine below_then ?_ (by assumption)))
  have HB := Lib.hid hB
  have EN := allB_not n (fun j => okLot (s j) (g j))
  have HE := Lib.hid EN
  clear hI hcell hB EN
  have HC : Hid (Calls Try.prog 64 #[.slice A n c, .func (.func 65) #[] #[.pointer (some ⟨w.heap.size, 0, none⟩)]] (w.alloc (.cells #[.func (.func 48) #[] #[]] 71 (0, 0))) fun e w' => e = .returned (.bool (!(allB n fun j => okLot (s j) (g j)))) ∧ Below w.heap.size w w') := by
    show Calls _ _ _ _ _
    generalize w.alloc (.cells #[.func (.func 48) #[] #[]] 71 (0, 0)) = wa at *
    go_enter Try.func64, Try.ntmps64
    go_wp2_with (go_at_call 74; ((with_reducible refine HI.out.mono ?_); rintro e w1 ⟨z, rfl, hz, hb⟩; have HZ := Lib.hid hz; clear hz))
    go_ret
    exact ⟨by rw [← HE.out, ← HZ.out]; rfl, Below.trans HB.out (hb.mono HB.out.size)⟩
  clear HI
  go_enter Try.func47, Try.ntmps47
  go_wp2_with (go_at_call 64; ((with_reducible refine HC.out.mono ?_); rintro e w1 ⟨rfl, hb⟩))
  go_ret
  exact ⟨by simp, hb⟩
theorem c_iValidLots (A : Option Addr) (n c : Nat) (s g : Nat → Int) (w : World) (h : LotsAt w A n s g) (hn : n ≤ 1048576) (hg : ∀ j, j < n → -32768 ≤ g j ∧ g j ≤ 32767) :
    Calls Try.prog 19 #[.slice A n c] w fun e w' => e = .returned (.bool (allB n (fun j => okLot (s j) (g j)) && decide (n ≤ 6))) ∧ Below w.heap.size w w' := by
  by_cases h6 : n ≤ 6
  · have d1 : decide ((n : Int) ≤ 6) = true := by simp; omega
    have E : Hid (decide (n ≤ 6) = true) := by simp [Hid, h6]
    go_enter Try.func19, Try.ntmps19
    go_wp2_with (go_at_call 47; ((with_reducible refine (c_areAllLot A n c s g _ h hn hg).mono ?_); rintro e w1 ⟨rfl, hb⟩))
    go_ret
    exact ⟨by first | (rw [E.out, Bool.and_true]; rfl) | (simp only [E.out, Bool.and_true]; rfl) | simp, hb⟩
  · have d1 : decide ((n : Int) ≤ 6) = false := by simp; omega
    have E : Hid (decide (n ≤ 6) = false) := by simp [Hid, h6]
    go_enter Try.func19, Try.ntmps19
    go_wp2
    go_ret
    exact ⟨by first | (rw [E.out, Bool.and_false]; rfl) | simp, by (repeat (first | with_reducible exact Below.refl _ _ | with_reducible refine below_alloc ?_ _ | with_reducible refine below_drew ?_ | with_reducible refine below_drewN ?_ _ | with_reducible refine below_then ?_ (by assumption)))⟩
/-- Lots out of a law's argument. -/
theorem lots_of {W : World} {A : Option Addr} : ∀ {es : List (List Value)}, (∀ c ∈ es, IntCells [.i8, .i16] c) → ∃ zs : List (Int × Int), es = zs.map (fun z => [Value.int .i8 z.1, Value.int .i16 z.2]) ∧ ∀ z ∈ zs, -32768 ≤ z.2 ∧ z.2 ≤ 32767
  | [], _ => ⟨[], rfl, by simp⟩
  | c :: es, h => by
    obtain ⟨a0, a1, e, w0, w1⟩ := intCells2 (h c (by simp))
    obtain ⟨zs, h1, h2⟩ := lots_of (W := W) (A := A) (es := es) (fun c hc => h c (by simp [hc]))
    refine ⟨(a0, a1) :: zs, by rw [e, h1]; rfl, fun z hz => ?_⟩
    rcases List.mem_cons.1 hz with rfl | hz
    · exact wf_i16 w1
    · exact h2 z hz
theorem lotsAt_of {W : World} {A : Option Addr} {zs : List (Int × Int)} (h : RdRow W A (zs.map (fun z => [Value.int .i8 z.1, Value.int .i16 z.2])).flatten) : LotsAt W A zs.length (fun j => (zs.getD j (0, 0)).1) (fun j => (zs.getD j (0, 0)).2) := by
  refine ⟨fun j hj => ?_⟩
  have hf := flatten_get (sz := 2) (es := zs.map (fun z => [Value.int .i8 z.1, Value.int .i16 z.2])) (by intro c hc; obtain ⟨z, _, rfl⟩ := List.mem_map.1 hc; rfl) j (by simpa using hj)
  have g0 := hf 0 (by omega)
  have g1 := hf 1 (by omega)
  have ez : zs[j]? = some (zs[j]'hj) := by simp [hj]
  have ed : zs.getD j (0, 0) = zs[j]'hj := by simp [List.getD, ez]
  simp [ez] at g0 g1
  obtain ⟨ad, e, c0⟩ := h _ _ g0
  obtain ⟨ad', e', c1⟩ := h _ _ g1
  have hadd : ad' = ad := by rw [e] at e'; exact (Option.some.inj e').symm
  subst hadd
  have e1 : ad'.add (j * 2 + 1) = ⟨(ad'.add (j * 2)).block, (ad'.add (j * 2)).off + 1, none⟩ := by
    unfold Addr.add
    by_cases hj0 : j * 2 = 0
    · rw [if_pos hj0, if_neg (by omega), hj0]
    · rw [if_neg hj0, if_neg (by omega)]; rfl
  refine ⟨ad', e, by rw [ed]; exact c0, ?_⟩
  rw [ed, ← e1]
  exact c1
end Go.Proofs.Ytfdljhepfoppaaa
