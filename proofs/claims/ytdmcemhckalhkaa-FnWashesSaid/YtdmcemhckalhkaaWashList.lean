/- Programs of washing in a slice: read, copied, compared, tested, marked. -/
import Derived.Test.YtdmcemhckalhkaaLotBase
import Derived.Test.YtdmcemhckalhkaaLotLaw
import Derived.Test.YtdmcemhckalhkaaWashFelt
import Derived.Test.YtdmcemhckalhkaaWashBy
import Derived.Test.YtdmcemhckalhkaaInt64S
namespace Go.Proofs.Ytdmcemhckalhkaa
open Go.RowKit
set_option linter.unusedVariables false
set_option linter.unusedSimpArgs false
set_option maxRecDepth 100000

structure ProgsAt (w : World) (A : Option Addr) (n : Nat) (s t g : Nat → Int) : Prop where
  at_ : ∀ j, j < n → ∃ ad, A = some ad ∧ w.cell? (ad.add (j * 3)) = some (.int .i8 (s j)) ∧ w.cell? ⟨(ad.add (j * 3)).block, (ad.add (j * 3)).off + 1, none⟩ = some (.int .i8 (t j)) ∧ w.cell? ⟨(ad.add (j * 3)).block, (ad.add (j * 3)).off + 2, none⟩ = some (.int .i8 (g j))
theorem ProgsAt.below {w w1 : World} {A : Option Addr} {n : Nat} {s t g : Nat → Int} (h : ProgsAt w A n s t g) (hb : Below w.heap.size w w1) : ProgsAt w1 A n s t g := by
  refine ⟨fun j hj => ?_⟩
  obtain ⟨ad, e, c0, c1, c2⟩ := h.at_ j hj
  exact ⟨ad, e, (hb.cell (World.block_lt_of_cell? w _ c0)).trans c0, (hb.cell (World.block_lt_of_cell? w _ c1)).trans c1, (hb.cell (World.block_lt_of_cell? w _ c2)).trans c2⟩
theorem ProgsAt.of_row {w : World} {b : Nat} {n : Nat} {s t g : Nat → Int} {arr : Array Value} {ty : TypeId} {fr : Nat × Nat} (h : w.heap[b]? = some (.cells arr ty fr)) (h0 : ∀ j, j < n → arr[j * 3]? = some (.int .i8 (s j)) ∧ arr[j * 3 + 1]? = some (.int .i8 (t j)) ∧ arr[j * 3 + 2]? = some (.int .i8 (g j))) : ProgsAt w (some ⟨b, 0, none⟩) n s t g := by
  refine ⟨fun j hj => ⟨_, rfl, ?_, ?_, ?_⟩⟩
  all_goals have e : (Addr.add ⟨b, 0, none⟩ (j * 3)) = ⟨b, j * 3, none⟩ := by unfold Addr.add; split <;> simp_all
  · rw [e, cell_of_row w b _ _ _ _ h]; exact (h0 j hj).1
  · rw [e, cell_of_row w b _ _ _ _ h]; exact (h0 j hj).2.1
  · rw [e, cell_of_row w b _ _ _ _ h]; exact (h0 j hj).2.2
theorem rows3 {arr : Array Value} {n k : Nat} {s t g : Nat → Int} (hs : arr.size = n * 3) (hk : k < n) (hC : ∀ j, j < k → arr[j * 3]? = some (.int .i8 (s j)) ∧ arr[j * 3 + 1]? = some (.int .i8 (t j)) ∧ arr[j * 3 + 2]? = some (.int .i8 (g j))) :
    (((arr.setIfInBounds (k * 3) (.int .i8 (s k))).setIfInBounds (k * 3 + 1) (.int .i8 (t k))).setIfInBounds (k * 3 + 2) (.int .i8 (g k))).size = n * 3 ∧ ∀ j, j < k + 1 → (((arr.setIfInBounds (k * 3) (.int .i8 (s k))).setIfInBounds (k * 3 + 1) (.int .i8 (t k))).setIfInBounds (k * 3 + 2) (.int .i8 (g k)))[j * 3]? = some (.int .i8 (s j)) ∧ (((arr.setIfInBounds (k * 3) (.int .i8 (s k))).setIfInBounds (k * 3 + 1) (.int .i8 (t k))).setIfInBounds (k * 3 + 2) (.int .i8 (g k)))[j * 3 + 1]? = some (.int .i8 (t j)) ∧ (((arr.setIfInBounds (k * 3) (.int .i8 (s k))).setIfInBounds (k * 3 + 1) (.int .i8 (t k))).setIfInBounds (k * 3 + 2) (.int .i8 (g k)))[j * 3 + 2]? = some (.int .i8 (g j)) := by
  refine ⟨by simp [hs], fun j hj => ?_⟩
  by_cases e : j = k
  · subst e
    refine ⟨?_, ?_, ?_⟩
    · rw [Array.getElem?_setIfInBounds_ne (by omega), Array.getElem?_setIfInBounds_ne (by omega), Array.getElem?_setIfInBounds_self_of_lt (by omega)]
    · rw [Array.getElem?_setIfInBounds_ne (by omega), Array.getElem?_setIfInBounds_self_of_lt (by simp; omega)]
    · rw [Array.getElem?_setIfInBounds_self_of_lt (by simp; omega)]
  · refine ⟨?_, ?_, ?_⟩
    · rw [Array.getElem?_setIfInBounds_ne (by omega), Array.getElem?_setIfInBounds_ne (by omega), Array.getElem?_setIfInBounds_ne (by omega)]
      exact (hC j (by omega)).1
    · rw [Array.getElem?_setIfInBounds_ne (by omega), Array.getElem?_setIfInBounds_ne (by omega), Array.getElem?_setIfInBounds_ne (by omega)]
      exact (hC j (by omega)).2.1
    · rw [Array.getElem?_setIfInBounds_ne (by omega), Array.getElem?_setIfInBounds_ne (by omega), Array.getElem?_setIfInBounds_ne (by omega)]
      exact (hC j (by omega)).2.2
set_option maxHeartbeats 800000 in
theorem c_indexProgram (F : Nat) (caps : Array Value) (he : ∀ args w, (callFunc F args).run Try.prog w = .ok (.enter F args) w) (q : Nat → Bool) (A : Option Addr) (n c : Nat) (s t g : Nat → Int) (w : World) (h : ProgsAt w A n s t g) (hn : n ≤ 1048576)
    (hstep : ∀ j, j < n → ∀ w1, Below w.heap.size w w1 → Calls Try.prog F (#[.agg #[.int .i8 (s j), .int .i8 (t j), .int .i8 (g j)]] ++ caps) w1 fun e w2 => e = .returned (.bool (q j)) ∧ Below w1.heap.size w1 w2) :
    Calls Try.prog 70 #[.slice A n c, .func (.func F) #[] caps] w fun e w' => ∃ z : Int, e = .returned (.int .i64 z) ∧ decide (0 ≤ z) = (!(allB n fun j => !q j)) ∧ Below w.heap.size w w' := by
  have H := Lib.hid h
  have HS := Lib.hid hstep
  clear h hstep
  go_enter Try.func70, Try.ntmps70
  go_wp2
  go_loopw [8] (fun i wr => ∃ k : Nat, k ≤ n ∧ i = .int .i64 k ∧ Hid (allB k (fun j => !q j) = true) ∧ Hid (Below w.heap.size w wr)) (fun i _ => n - (intOf i).toNat)
  case atStart => exact ⟨0, by omega, rfl, rfl, Below.refl _ _⟩
  case round =>
    obtain ⟨k, hk, rfl, hI, hB⟩ := hrel
    by_cases hlt : k < n
    · have d1 : decide ((k : Int) < (n : Int)) = true := by simp; omega
      obtain ⟨ad, rfl, c0, c1, c2⟩ := (H.out.below hB.out).at_ k hlt
      have k0 : (0 : Int) ≤ (k : Int) := by omega
      have k1 : (k : Int) < (n : Int) := by omega
      go_wp2
      refine (HS.out k hlt wr hB.out).mono ?_
      rintro e w1 ⟨rfl, hb⟩
      have hB1 := Lib.hid (Below.trans hB.out (hb.mono hB.out.size))
      cases hq : q k
      · have E : Hid (allB (k + 1) (fun j => !q j) = true) := by rw [Hid, allB, hI.out, hq]; rfl
        go_wp2
        go_roundw
        case rel => exact ⟨k + 1, by omega, by go_num, E, hB1⟩
        case measure => simp [intOf]; omega
      · have E := Lib.hid (allB_stop (p := fun j => !q j) (k := k) (n := n) (by simp [hq]) hlt)
        go_wp2
        go_ret
        exact ⟨_, rfl, by rw [E.out]; simp, hB1.out⟩
    · obtain rfl : k = n := by omega
      have d1 : decide ((k : Int) < (k : Int)) = false := by simp
      go_wp2
      go_ret
      exact ⟨_, rfl, by rw [hI.out]; rfl, hB.out⟩

theorem c_areAllProgram1 (s t g : Int) (b : Nat) (w : World) (hg : (-128 ≤ g ∧ g ≤ 127) ∧ (-128 ≤ s ∧ s ≤ 127) ∧ (-128 ≤ t ∧ t ≤ 127)) (hc : w.cell? ⟨b, 0, none⟩ = some (.func (.func 23) #[] #[])) (hb : b < w.heap.size) :
    Calls Try.prog 67 #[.agg #[.int .i8 s, .int .i8 t, .int .i8 g], .pointer (some ⟨b, 0, none⟩)] w fun e w' => e = .returned (.bool (!okProgram s t g)) ∧ Below w.heap.size w w' := by
  have he : ∀ args w, (callFunc 23 args).run Try.prog w = .ok (.enter 23 args) w := enters_of Try.func23 (by kernel_rfl) rfl
  have hne : ¬ b = w.heap.size := by omega
  go_enter Try.func67, Try.ntmps67
  go_wp2_with (go_at_call 23; ((with_reducible refine (c_iValidProgram _ _ _ _).mono ?_); rintro e w1 ⟨rfl, hb⟩))
  go_ret
  exact ⟨rfl, by (repeat (first | with_reducible exact Below.refl _ _ | with_reducible refine below_alloc ?_ _ | with_reducible refine below_drew ?_ | with_reducible refine below_drewN ?_ _ | with_reducible refine below_then ?_ (by assumption)))⟩
theorem c_areAllProgram (A : Option Addr) (n c : Nat) (s t g : Nat → Int) (w : World) (h : ProgsAt w A n s t g) (hn : n ≤ 1048576) (hg : ∀ j, j < n → (-128 ≤ g j ∧ g j ≤ 127) ∧ (-128 ≤ s j ∧ s j ≤ 127) ∧ (-128 ≤ t j ∧ t j ≤ 127)) :
    Calls Try.prog 57 #[.slice A n c, .func (.func 23) #[] #[]] w fun e w' => e = .returned (.bool (allB n fun j => okProgram (s j) (t j) (g j))) ∧ Below w.heap.size w w' := by
  have he : ∀ args w, (callFunc 67 args).run Try.prog w = .ok (.enter 67 args) w := enters_of Try.func67 (by kernel_rfl) rfl
  have hcell := cell_of_row _ w.heap.size 0 _ _ _ (heap_alloc_new w (.cells #[.func (.func 23) #[] #[]] 49 (0, 0)))
  have hI := c_indexProgram 67 #[.pointer (some ⟨w.heap.size, 0, none⟩)] he (fun j => !okProgram (s j) (t j) (g j)) A n c s t g (w.alloc (.cells #[.func (.func 23) #[] #[]] 49 (0, 0))) (h.below (by (repeat (first | with_reducible exact Below.refl _ _ | with_reducible refine below_alloc ?_ _ | with_reducible refine below_drew ?_ | with_reducible refine below_drewN ?_ _ | with_reducible refine below_then ?_ (by assumption))))) hn
    (fun j hj w1 hb => c_areAllProgram1 (s j) (t j) (g j) w.heap.size w1 (hg j hj) ((hb.cell (p := ⟨w.heap.size, 0, none⟩) (by simp)).trans hcell) (Nat.lt_of_lt_of_le (by simp) hb.size))
  have HI := Lib.hid hI
  have hB : Below w.heap.size w (w.alloc (.cells #[.func (.func 23) #[] #[]] 49 (0, 0))) := by (repeat (first | with_reducible exact Below.refl _ _ | with_reducible refine below_alloc ?_ _ | with_reducible refine below_drew ?_ | with_reducible refine below_drewN ?_ _ | with_reducible refine below_then ?_ (by assumption)))
  have HB := Lib.hid hB
  have EN := allB_not n (fun j => okProgram (s j) (t j) (g j))
  have HE := Lib.hid EN
  clear hI hcell hB EN
  have HC : Hid (Calls Try.prog 66 #[.slice A n c, .func (.func 67) #[] #[.pointer (some ⟨w.heap.size, 0, none⟩)]] (w.alloc (.cells #[.func (.func 23) #[] #[]] 49 (0, 0))) fun e w' => e = .returned (.bool (!(allB n fun j => okProgram (s j) (t j) (g j)))) ∧ Below w.heap.size w w') := by
    show Calls _ _ _ _ _
    generalize w.alloc (.cells #[.func (.func 23) #[] #[]] 49 (0, 0)) = wa at *
    go_enter Try.func66, Try.ntmps66
    go_wp2_with (go_at_call 70; ((with_reducible refine HI.out.mono ?_); rintro e w1 ⟨z, rfl, hz, hb⟩; have HZ := Lib.hid hz; clear hz))
    go_ret
    exact ⟨by rw [← HE.out, ← HZ.out]; rfl, Below.trans HB.out (hb.mono HB.out.size)⟩
  clear HI
  go_enter Try.func57, Try.ntmps57
  go_wp2_with (go_at_call 66; ((with_reducible refine HC.out.mono ?_); rintro e w1 ⟨rfl, hb⟩))
  go_ret
  exact ⟨by simp, hb⟩
theorem progs_of {W : World} {A : Option Addr} : ∀ {es : List (List Value)}, (∀ c ∈ es, IntCells [.i8, .i8, .i8] c) → ∃ zs : List (Int × Int × Int), es = zs.map (fun z => [Value.int .i8 z.1, Value.int .i8 z.2.1, Value.int .i8 z.2.2]) ∧ ∀ z ∈ zs, (-128 ≤ z.2.2 ∧ z.2.2 ≤ 127) ∧ (-128 ≤ z.1 ∧ z.1 ≤ 127) ∧ (-128 ≤ z.2.1 ∧ z.2.1 ≤ 127)
  | [], _ => ⟨[], rfl, by simp⟩
  | c :: es, h => by
    obtain ⟨a0, a1, a2, e, w0, w1, w2⟩ := intCells3 (h c (by simp))
    obtain ⟨zs, h1, h2⟩ := progs_of (W := W) (A := A) (es := es) (fun c hc => h c (by simp [hc]))
    refine ⟨(a0, a1, a2) :: zs, by rw [e, h1]; rfl, fun z hz => ?_⟩
    rcases List.mem_cons.1 hz with rfl | hz
    · exact ⟨wf_i8 w2, wf_i8 w0, wf_i8 w1⟩
    · exact h2 z hz
theorem progsAt_of {W : World} {A : Option Addr} {zs : List (Int × Int × Int)} (h : RdRow W A (zs.map (fun z => [Value.int .i8 z.1, Value.int .i8 z.2.1, Value.int .i8 z.2.2])).flatten) : ProgsAt W A zs.length (fun j => (zs.getD j (0, 0, 0)).1) (fun j => (zs.getD j (0, 0, 0)).2.1) (fun j => (zs.getD j (0, 0, 0)).2.2) := by
  refine ⟨fun j hj => ?_⟩
  have hf := flatten_get (sz := 3) (es := zs.map (fun z => [Value.int .i8 z.1, Value.int .i8 z.2.1, Value.int .i8 z.2.2])) (by intro c hc; obtain ⟨z, _, rfl⟩ := List.mem_map.1 hc; rfl) j (by simpa using hj)
  have g0 := hf 0 (by omega)
  have g1 := hf 1 (by omega)
  have g2 := hf 2 (by omega)
  have ez : zs[j]? = some (zs[j]'hj) := by simp [hj]
  have ed : zs.getD j (0, 0, 0) = zs[j]'hj := by simp [List.getD, ez]
  simp [ez] at g0 g1 g2
  obtain ⟨ad, e, c0⟩ := h _ _ g0
  obtain ⟨ad', e', c1⟩ := h _ _ g1
  obtain ⟨ad2, e2, c2⟩ := h _ _ g2
  have hadd : ad' = ad := by rw [e] at e'; exact (Option.some.inj e').symm
  have hadd2 : ad2 = ad := by rw [e] at e2; exact (Option.some.inj e2).symm
  subst hadd
  subst hadd2
  have e1 : ∀ m, m ≠ 0 → ad2.add (j * 3 + m) = ⟨(ad2.add (j * 3)).block, (ad2.add (j * 3)).off + m, none⟩ := by
    intro m hm
    unfold Addr.add
    by_cases hj0 : j * 3 = 0
    · rw [if_pos hj0, if_neg (by omega), hj0, Nat.zero_add]
    · rw [if_neg hj0, if_neg (by omega)]; simp [Nat.add_assoc]
  refine ⟨ad2, e, by rw [ed]; exact c0, ?_, ?_⟩
  · rw [ed, ← e1 1 (by omega)]
    exact c1
  · rw [ed, ← e1 2 (by omega)]
    exact c2
theorem progs_open {W : World} {A : Option Addr} {es : List (List Value)} (w0 : ∀ c ∈ es, IntCells [.i8, .i8, .i8] c) (r0 : RdRow W A es.flatten) : ∃ s t g : Nat → Int, ProgsAt W A es.length s t g ∧ ∀ j, j < es.length → (-128 ≤ g j ∧ g j ≤ 127) ∧ (-128 ≤ s j ∧ s j ≤ 127) ∧ (-128 ≤ t j ∧ t j ≤ 127) := by
  obtain ⟨zs, rfl, hz⟩ := progs_of (W := W) (A := A) w0
  have hL := progsAt_of r0
  refine ⟨_, _, _, by rw [List.length_map]; exact hL, fun j hj => ?_⟩
  rw [List.length_map] at hj
  have ed : zs.getD j (0, 0, 0) = zs[j]'hj := by simp [List.getD, hj]
  rw [ed]; exact hz _ (List.getElem_mem hj)
def fProgram (k0 : Nat) (i : Nat) : Value := if i % 3 = 0 then .int .i8 (IntKind.i8.wrap ((k0 : Int) + (i : Int))) else if i % 3 = 1 then .int .i8 (IntKind.i8.wrap ((k0 : Int) + (i : Int))) else .int .i8 (IntKind.i8.wrap ((k0 : Int) + (i : Int)))
theorem fProgram_0 (k0 k : Nat) : fProgram k0 (k * 3) = .int .i8 (IntKind.i8.wrap ((k0 : Int) + (k : Int) * 3)) := by
  rw [fProgram, if_pos (show (k * 3) % 3 = 0 by omega)]; simp [Int.add_assoc]
theorem fProgram_1 (k0 k : Nat) : fProgram k0 (k * 3 + 1) = .int .i8 (IntKind.i8.wrap ((k0 : Int) + (k : Int) * 3 + 1)) := by
  rw [fProgram, if_neg (show ¬ (k * 3 + 1) % 3 = 0 by omega), if_pos (show (k * 3 + 1) % 3 = 1 by omega)]; simp [Int.add_assoc]
theorem fProgram_2 (k0 k : Nat) : fProgram k0 (k * 3 + 2) = .int .i8 (IntKind.i8.wrap ((k0 : Int) + (k : Int) * 3 + 1 + 1)) := by
  rw [fProgram, if_neg (show ¬ (k * 3 + 2) % 3 = 0 by omega), if_neg (show ¬ (k * 3 + 2) % 3 = 1 by omega)]; simp [Int.add_assoc]
end Go.Proofs.Ytdmcemhckalhkaa
