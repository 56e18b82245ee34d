/- Texts laid together: LotLaw, MoveBase. -/
import Derived.Test.YtjhifpidbobmaaaGreatDoorMg03
import Derived.Shelf.Abstract
/- Lots: the implementation's test, and the law. -/
namespace Go.Proofs.YtjhifpidbobmaaaGreatDoor
open Go.RowKit
set_option linter.unusedVariables false
set_option linter.unusedSimpArgs false
set_option maxRecDepth 100000

theorem allB_not (n : Nat) (q : Nat → Bool) : (allB n fun j => !(!q j)) = allB n q := by simp
def okLot (s g : Int) : Bool := shade s && inB g 0 5000
/-- Lots out of a law's argument. -/
theorem lots_of {W : World} {A : Option Addr} : ∀ {es : List (List Value)}, (∀ c ∈ es, IntCells [.i8, .i16] c) → ∃ zs : List (Int × Int), es = zs.map (fun z => [Value.int .i8 z.1, Value.int .i16 z.2]) ∧ ∀ z ∈ zs, -32768 ≤ z.2 ∧ z.2 ≤ 32767
  | [], _ => ⟨[], rfl, by simp⟩
  | c :: es, h => by
    obtain ⟨a0, a1, e, w0, w1⟩ := intCells2 (h c (by simp))
    obtain ⟨zs, h1, h2⟩ := lots_of (W := W) (A := A) (es := es) (fun c hc => h c (by simp [hc]))
    refine ⟨(a0, a1) :: zs, by rw [e, h1]; rfl, fun z hz => ?_⟩
    rcases List.mem_cons.1 hz with rfl | hz
    · exact wf_i16 w1
    · exact h2 z hz
theorem lotsAt_of {W : World} {A : Option Addr} {zs : List (Int × Int)} (h : RdRow W A (zs.map (fun z => [Value.int .i8 z.1, Value.int .i16 z.2])).flatten) : LotsAt W A zs.length (fun j => (zs.getD j (0, 0)).1) (fun j => (zs.getD j (0, 0)).2) := by
  refine ⟨fun j hj => ?_⟩
  have hf := flatten_get (sz := 2) (es := zs.map (fun z => [Value.int .i8 z.1, Value.int .i16 z.2])) (by intro c hc; obtain ⟨z, _, rfl⟩ := List.mem_map.1 hc; rfl) j (by simpa using hj)
  have g0 := hf 0 (by omega)
  have g1 := hf 1 (by omega)
  have ez : zs[j]? = some (zs[j]'hj) := by simp [hj]
  have ed : zs.getD j (0, 0) = zs[j]'hj := by simp [List.getD, ez]
  simp [ez] at g0 g1
  obtain ⟨ad, e, c0⟩ := h _ _ g0
  obtain ⟨ad', e', c1⟩ := h _ _ g1
  have hadd : ad' = ad := by rw [e] at e'; exact (Option.some.inj e').symm
  subst hadd
  have e1 : ad'.add (j * 2 + 1) = ⟨(ad'.add (j * 2)).block, (ad'.add (j * 2)).off + 1, none⟩ := by
    unfold Addr.add
    by_cases hj0 : j * 2 = 0
    · rw [if_pos hj0, if_neg (by omega), hj0]
    · rw [if_neg hj0, if_neg (by omega)]; rfl
  refine ⟨ad', e, by rw [ed]; exact c0, ?_⟩
  rw [ed, ← e1]
  exact c1
end Go.Proofs.YtjhifpidbobmaaaGreatDoor
/- Moves in a slice. -/
namespace Go.Proofs.YtjhifpidbobmaaaGreatDoor
open Go.RowKit
set_option linter.unusedVariables false
set_option linter.unusedSimpArgs false
set_option maxRecDepth 100000

def mayMove (a b : Int) : Bool := (a == 0 && (b == 1 || b == 3)) || (a == 1 && (b == 2 || b == 3 || b == 4)) || (a == 2 && (b == 3 || b == 4))
theorem c_sMayMove (a b : Int) (w : World) : Calls Tryz.prog 59 #[.int .i64 a, .int .i64 b] w fun e w' => e = .returned (.bool (mayMove a b)) ∧ w = w' := by
  by_cases h0 : a = 0
  · subst h0
    go_enter Tryz.func59, Tryz.ntmps59
    go_wp2
    all_goals go_ret
    all_goals simp_all [mayMove]
  · by_cases h1 : a = 1
    · subst h1
      go_enter Tryz.func59, Tryz.ntmps59
      go_wp2
      all_goals go_ret
      all_goals simp_all [mayMove]
    · by_cases h2 : a = 2
      · subst h2
        go_enter Tryz.func59, Tryz.ntmps59
        go_wp2
        all_goals go_ret
        all_goals simp_all [mayMove]
      · go_enter Tryz.func59, Tryz.ntmps59
        go_wp2
        all_goals go_ret
        all_goals simp_all [mayMove]
theorem c_iMayMove (a b : Int) (w : World) : Calls Tryz.prog 25 #[.int .i64 a, .int .i64 b] w fun e w' => e = .returned (.bool (mayMove a b)) ∧ w = w' := by
  by_cases h0 : a = 0
  · subst h0
    go_enter Tryz.func25, Tryz.ntmps25
    go_wp2
    all_goals go_ret
    all_goals simp_all [mayMove]
  · by_cases h1 : a = 1
    · subst h1
      have e : inB b 2 4 = mayMove 1 b := by
        unfold inB mayMove
        rw [Bool.eq_iff_iff]
        simp
        omega
      go_enter Tryz.func25, Tryz.ntmps25
      go_wp2_with (go_at_call 45; ((with_reducible refine (c_within _ _ _ _).mono ?_); rintro e w1 ⟨rfl, rfl⟩))
      all_goals go_ret
      all_goals exact ⟨rfl, rfl⟩
    · by_cases h2 : a = 2
      · subst h2
        go_enter Tryz.func25, Tryz.ntmps25
        go_wp2
        all_goals go_ret
        all_goals simp_all [mayMove]
      · go_enter Tryz.func25, Tryz.ntmps25
        go_wp2
        all_goals go_ret
        all_goals simp_all [mayMove]

/-- n lots lie at A. -/
structure MovesAt (w : World) (A : Option Addr) (n : Nat) (s t g : Nat → Int) : Prop where
  at_ : ∀ j, j < n → ∃ ad, A = some ad ∧ w.cell? (ad.add (j * 3)) = some (.int .i8 (s j)) ∧ w.cell? ⟨(ad.add (j * 3)).block, (ad.add (j * 3)).off + 1, none⟩ = some (.int .i8 (t j)) ∧ w.cell? ⟨(ad.add (j * 3)).block, (ad.add (j * 3)).off + 2, none⟩ = some (.int .i16 (g j))
theorem MovesAt.below {w w1 : World} {A : Option Addr} {n : Nat} {s t g : Nat → Int} (h : MovesAt w A n s t g) (hb : Below w.heap.size w w1) : MovesAt w1 A n s t g := by
  refine ⟨fun j hj => ?_⟩
  obtain ⟨ad, e, c0, c1, c2⟩ := h.at_ j hj
  exact ⟨ad, e, (hb.cell (World.block_lt_of_cell? w _ c0)).trans c0, (hb.cell (World.block_lt_of_cell? w _ c1)).trans c1, (hb.cell (World.block_lt_of_cell? w _ c2)).trans c2⟩
def okMove (s t g : Int) : Bool := mayMove s t && inB g 1 5000
set_option maxHeartbeats 400000 in
theorem c_l07Move (s t g : Int) (w : World) (hg : -32768 ≤ g ∧ g ≤ 32767) (hs : -128 ≤ s ∧ s ≤ 127) (ht : -128 ≤ t ∧ t ≤ 127) :
    Calls Tryz.prog 66 #[.agg #[.int .i8 s, .int .i8 t, .int .i16 g]] w fun e w' => e = .returned (.bool (okMove s t g)) ∧ Below w.heap.size w w' := by
  obtain ⟨g0, g1⟩ := hg
  obtain ⟨s0, s1⟩ := hs
  obtain ⟨t0, t1⟩ := ht
  cases q1 : mayMove s t
  · go_enter Tryz.func66, Tryz.ntmps66
    go_wp2_with (first | (go_at_call 59; ((with_reducible refine (c_sMayMove _ _ _).mono ?_); rintro e w1 ⟨rfl, rfl⟩)) | (go_at_call 50; ((with_reducible refine (c_l00In _ _ _ _).mono ?_); rintro e w1 ⟨rfl, rfl⟩)))
    go_ret
    exact ⟨by rw [okMove, q1]; rfl, by (repeat (first | with_reducible exact Below.refl _ _ | with_reducible refine below_alloc ?_ _ | with_reducible refine below_drew ?_ | with_reducible refine below_drewN ?_ _ | with_reducible refine below_then ?_ (by assumption)))⟩
  · go_enter Tryz.func66, Tryz.ntmps66
    go_wp2_with (first | (go_at_call 59; ((with_reducible refine (c_sMayMove _ _ _).mono ?_); rintro e w1 ⟨rfl, rfl⟩)) | (go_at_call 50; ((with_reducible refine (c_l00In _ _ _ _).mono ?_); rintro e w1 ⟨rfl, rfl⟩)))
    go_ret
    exact ⟨by rw [okMove, q1]; rfl, by (repeat (first | with_reducible exact Below.refl _ _ | with_reducible refine below_alloc ?_ _ | with_reducible refine below_drew ?_ | with_reducible refine below_drewN ?_ _ | with_reducible refine below_then ?_ (by assumption)))⟩
set_option maxHeartbeats 800000 in
theorem c_l07Moves (A : Option Addr) (n c : Nat) (s t g : Nat → Int) (w : World) (h : MovesAt w A n s t g) (hn : n ≤ 1048576) (hg : ∀ j, j < n → (-32768 ≤ g j ∧ g j ≤ 32767) ∧ (-128 ≤ s j ∧ s j ≤ 127) ∧ (-128 ≤ t j ∧ t j ≤ 127)) :
    Calls Tryz.prog 36 #[.slice A n c] w fun e w' => e = .returned (.bool (allB n (fun j => okMove (s j) (t j) (g j)) && decide (n ≤ 60))) ∧ Below w.heap.size w w' := by
  have H := Lib.hid h
  have HG := Lib.hid hg
  clear h hg
  go_enter Tryz.func36, Tryz.ntmps36
  go_wp2
  go_loopw [3] (fun i wr => ∃ k : Nat, k ≤ n ∧ i = .int .i64 k ∧ Hid (allB k (fun j => okMove (s j) (t j) (g j)) = true) ∧ Hid (Below w.heap.size w wr)) (fun i _ => n - (intOf i).toNat)
  case atStart => exact ⟨0, by omega, rfl, rfl, Below.refl _ _⟩
  case round =>
    obtain ⟨k, hk, rfl, hI, hB⟩ := hrel
    by_cases hlt : k < n
    · have d1 : decide ((k : Int) < (n : Int)) = true := by simp; omega
      obtain ⟨ad, rfl, c0, c1, c2⟩ := (H.out.below hB.out).at_ k hlt
      have k0 : (0 : Int) ≤ (k : Int) := by omega
      have k1 : (k : Int) < (n : Int) := by omega
      have HGk := Lib.hid (HG.out k hlt)
      cases q1 : okMove (s k) (t k) (g k)
      · have E := Lib.hid (allB_stop (p := fun j => okMove (s j) (t j) (g j)) (k := k) (n := n) q1 hlt)
        go_wp2_with (go_at_call 66; ((with_reducible refine (c_l07Move _ _ _ _ HGk.out.1 HGk.out.2.1 HGk.out.2.2).mono ?_); rintro e w1 ⟨rfl, hb⟩))
        go_ret
        exact ⟨by rw [E.out]; rfl, Below.trans hB.out (hb.mono hB.out.size)⟩
      · have E : Hid (allB (k + 1) (fun j => okMove (s j) (t j) (g j)) = true) := by rw [Hid, allB, hI.out, q1]; rfl
        go_wp2_with (go_at_call 66; ((with_reducible refine (c_l07Move _ _ _ _ HGk.out.1 HGk.out.2.1 HGk.out.2.2).mono ?_); rintro e w1 ⟨rfl, hb⟩))
        go_roundw
        case rel => exact ⟨k + 1, by omega, by go_num, E, Below.trans hB.out (hb.mono hB.out.size)⟩
        case measure => simp [intOf]; omega
    · obtain rfl : k = n := by omega
      have d1 : decide ((k : Int) < (k : Int)) = false := by simp
      go_wp2
      go_ret
      exact ⟨by rw [hI.out, Bool.true_and, show decide (k ≤ 60) = decide ((k : Int) ≤ 60) by simp; omega]; rfl, hB.out⟩

theorem MovesAt.of_row {w : World} {b : Nat} {n : Nat} {s t g : Nat → Int} {arr : Array Value} {ty : TypeId} {fr : Nat × Nat} (h : w.heap[b]? = some (.cells arr ty fr)) (h0 : ∀ j, j < n → arr[j * 3]? = some (.int .i8 (s j)) ∧ arr[j * 3 + 1]? = some (.int .i8 (t j)) ∧ arr[j * 3 + 2]? = some (.int .i16 (g j))) : MovesAt w (some ⟨b, 0, none⟩) n s t g := by
  refine ⟨fun j hj => ⟨_, rfl, ?_, ?_, ?_⟩⟩
  all_goals have e : (Addr.add ⟨b, 0, none⟩ (j * 3)) = ⟨b, j * 3, none⟩ := by unfold Addr.add; split <;> simp_all
  · rw [e, cell_of_row w b _ _ _ _ h]; exact (h0 j hj).1
  · rw [e, cell_of_row w b _ _ _ _ h]; exact (h0 j hj).2.1
  · rw [e, cell_of_row w b _ _ _ _ h]; exact (h0 j hj).2.2
theorem rows3 {arr : Array Value} {n k : Nat} {s t g : Nat → Int} (hs : arr.size = n * 3) (hk : k < n) (hC : ∀ j, j < k → arr[j * 3]? = some (.int .i8 (s j)) ∧ arr[j * 3 + 1]? = some (.int .i8 (t j)) ∧ arr[j * 3 + 2]? = some (.int .i16 (g j))) :
    (((arr.setIfInBounds (k * 3) (.int .i8 (s k))).setIfInBounds (k * 3 + 1) (.int .i8 (t k))).setIfInBounds (k * 3 + 2) (.int .i16 (g k))).size = n * 3 ∧ ∀ j, j < k + 1 → (((arr.setIfInBounds (k * 3) (.int .i8 (s k))).setIfInBounds (k * 3 + 1) (.int .i8 (t k))).setIfInBounds (k * 3 + 2) (.int .i16 (g k)))[j * 3]? = some (.int .i8 (s j)) ∧ (((arr.setIfInBounds (k * 3) (.int .i8 (s k))).setIfInBounds (k * 3 + 1) (.int .i8 (t k))).setIfInBounds (k * 3 + 2) (.int .i16 (g k)))[j * 3 + 1]? = some (.int .i8 (t j)) ∧ (((arr.setIfInBounds (k * 3) (.int .i8 (s k))).setIfInBounds (k * 3 + 1) (.int .i8 (t k))).setIfInBounds (k * 3 + 2) (.int .i16 (g k)))[j * 3 + 2]? = some (.int .i16 (g j)) := by
  refine ⟨by simp [hs], fun j hj => ?_⟩
  by_cases e : j = k
  · subst e
    refine ⟨?_, ?_, ?_⟩
    · rw [Array.getElem?_setIfInBounds_ne (by omega), Array.getElem?_setIfInBounds_ne (by omega), Array.getElem?_setIfInBounds_self_of_lt (by omega)]
    · rw [Array.getElem?_setIfInBounds_ne (by omega), Array.getElem?_setIfInBounds_self_of_lt (by simp; omega)]
    · rw [Array.getElem?_setIfInBounds_self_of_lt (by simp; omega)]
  · refine ⟨?_, ?_, ?_⟩
    · rw [Array.getElem?_setIfInBounds_ne (by omega), Array.getElem?_setIfInBounds_ne (by omega), Array.getElem?_setIfInBounds_ne (by omega)]
      exact (hC j (by omega)).1
    · rw [Array.getElem?_setIfInBounds_ne (by omega), Array.getElem?_setIfInBounds_ne (by omega), Array.getElem?_setIfInBounds_ne (by omega)]
      exact (hC j (by omega)).2.1
    · rw [Array.getElem?_setIfInBounds_ne (by omega), Array.getElem?_setIfInBounds_ne (by omega), Array.getElem?_setIfInBounds_ne (by omega)]
      exact (hC j (by omega)).2.2
set_option maxHeartbeats 800000 in
theorem c_indexMove (F : Nat) (caps : Array Value) (he : ∀ args w, (callFunc F args).run Tryz.prog w = .ok (.enter F args) w) (q : Nat → Bool) (A : Option Addr) (n c : Nat) (s t g : Nat → Int) (w : World) (h : MovesAt w A n s t g) (hn : n ≤ 1048576)
    (hstep : ∀ j, j < n → ∀ w1, Below w.heap.size w w1 → Calls Tryz.prog F (#[.agg #[.int .i8 (s j), .int .i8 (t j), .int .i16 (g j)]] ++ caps) w1 fun e w2 => e = .returned (.bool (q j)) ∧ Below w1.heap.size w1 w2) :
    Calls Tryz.prog 89 #[.slice A n c, .func (.func F) #[] caps] w fun e w' => ∃ z : Int, e = .returned (.int .i64 z) ∧ decide (0 ≤ z) = (!(allB n fun j => !q j)) ∧ Below w.heap.size w w' := by
  have H := Lib.hid h
  have HS := Lib.hid hstep
  clear h hstep
  go_enter Tryz.func89, Tryz.ntmps89
  go_wp2
  go_loopw [8] (fun i wr => ∃ k : Nat, k ≤ n ∧ i = .int .i64 k ∧ Hid (allB k (fun j => !q j) = true) ∧ Hid (Below w.heap.size w wr)) (fun i _ => n - (intOf i).toNat)
  case atStart => exact ⟨0, by omega, rfl, rfl, Below.refl _ _⟩
  case round =>
    obtain ⟨k, hk, rfl, hI, hB⟩ := hrel
    by_cases hlt : k < n
    · have d1 : decide ((k : Int) < (n : Int)) = true := by simp; omega
      obtain ⟨ad, rfl, c0, c1, c2⟩ := (H.out.below hB.out).at_ k hlt
      have k0 : (0 : Int) ≤ (k : Int) := by omega
      have k1 : (k : Int) < (n : Int) := by omega
      go_wp2
      refine (HS.out k hlt wr hB.out).mono ?_
      rintro e w1 ⟨rfl, hb⟩
      have hB1 := Lib.hid (Below.trans hB.out (hb.mono hB.out.size))
      cases hq : q k
      · have E : Hid (allB (k + 1) (fun j => !q j) = true) := by rw [Hid, allB, hI.out, hq]; rfl
        go_wp2
        go_roundw
        case rel => exact ⟨k + 1, by omega, by go_num, E, hB1⟩
        case measure => simp [intOf]; omega
      · have E := Lib.hid (allB_stop (p := fun j => !q j) (k := k) (n := n) (by simp [hq]) hlt)
        go_wp2
        go_ret
        exact ⟨_, rfl, by rw [E.out]; simp, hB1.out⟩
    · obtain rfl : k = n := by omega
      have d1 : decide ((k : Int) < (k : Int)) = false := by simp
      go_wp2
      go_ret
      exact ⟨_, rfl, by rw [hI.out]; rfl, hB.out⟩
end Go.Proofs.YtjhifpidbobmaaaGreatDoor
