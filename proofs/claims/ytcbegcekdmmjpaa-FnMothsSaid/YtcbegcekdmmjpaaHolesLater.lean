/- A week of moths, by the program. -/
import Derived.Test.YtcbegcekdmmjpaaHolesWeek
import Derived.Deep.RegionHeld3
import Derived.RegionTactic
import Derived.BigRegion
namespace Go.Proofs.Ytcbegcekdmmjpaa
open Go.RowKit
set_option linter.unusedVariables false
set_option linter.unusedSimpArgs false
set_option maxRecDepth 100000

theorem nums_eight {k : IntKind} {hs : List Int} (h : hs.length = 8) : (nums k hs).toArray = #[.int k (gi hs 0), .int k (gi hs 1), .int k (gi hs 2), .int k (gi hs 3), .int k (gi hs 4), .int k (gi hs 5), .int k (gi hs 6), .int k (gi hs 7)] := by
  match hs, h with
  | [a0, a1, a2, a3, a4, a5, a6, a7], _ => rfl
theorem c_has8 (hs : List Int) (x y : Int) (w : World) (h8 : Holes8 hs) :
    Calls Try.prog 29 #[.agg #[.int .u8 (gi hs 0), .int .u8 (gi hs 1), .int .u8 (gi hs 2), .int .u8 (gi hs 3), .int .u8 (gi hs 4), .int .u8 (gi hs 5), .int .u8 (gi hs 6), .int .u8 (gi hs 7)], .int .i64 x, .int .i64 y] w fun e w' => e = .returned (.bool (hole hs x y)) ∧ Below w.heap.size w w' := by
  have := c_has hs x y w h8
  rw [nums_eight h8.len] at this
  exact this
/-- The first i of the four neighbours, in the program's order. -/
def nbq (hs : List Int) (x y : Int) : Nat → Int
  | 0 => 0
  | 1 => b2i (hole hs (x - 1) y)
  | 2 => b2i (hole hs (x - 1) y) + b2i (hole hs (x + 1) y)
  | 3 => b2i (hole hs (x - 1) y) + b2i (hole hs (x + 1) y) + b2i (hole hs x (y - 1))
  | _ => b2i (hole hs (x - 1) y) + b2i (hole hs (x + 1) y) + b2i (hole hs x (y - 1)) + b2i (hole hs x (y + 1))
theorem nbq_four (hs : List Int) (x y : Int) : nbq hs x y 4 = nb hs x y := rfl
theorem nbq_s0 (hs : List Int) (x y : Int) : nbq hs x y 1 = nbq hs x y 0 + b2i (hole hs (x - 1) y) := by simp only [nbq]; omega
theorem nbq_s1 (hs : List Int) (x y : Int) : nbq hs x y 2 = nbq hs x y 1 + b2i (hole hs (x + 1) y) := rfl
theorem nbq_s2 (hs : List Int) (x y : Int) : nbq hs x y 3 = nbq hs x y 2 + b2i (hole hs x (y - 1)) := rfl
theorem nbq_s3 (hs : List Int) (x y : Int) : nbq hs x y 4 = nbq hs x y 3 + b2i (hole hs x (y + 1)) := rfl
theorem nbq_bd (hs : List Int) (x y : Int) (i : Nat) (hi : i ≤ 4) : 0 ≤ nbq hs x y i ∧ nbq hs x y i ≤ i := by
  have h1 := b2i_bd (hole hs (x - 1) y)
  have h2 := b2i_bd (hole hs (x + 1) y)
  have h3 := b2i_bd (hole hs x (y - 1))
  have h4 := b2i_bd (hole hs x (y + 1))
  match i, hi with
  | 0, _ | 1, _ | 2, _ | 3, _ | 4, _ => simp only [nbq]; omega
/-- What the closure of a week knows. -/
structure StL (hs : List Int) (need : Int) (B g0 g1 g2 gR : Nat) (w0 : World) (n : Nat) (w : World) : Prop where
  hH : w.heap[g0]? = some (.cells (nums .u8 hs).toArray 25 (0, 0))
  hN : w.heap[g1]? = some (.cells #[.int .i64 need] 2 (0, 0))
  hO : w.heap[g2]? = some (.cells (nums .u8 (weekN hs need n)).toArray 25 (0, 0))
  hR : w.heap[gR]? = some (.cells (nums .u8 noHoles).toArray 25 (0, 0))
  hB : Below B w0 w

theorem StL.below {hs : List Int} {need : Int} {B g0 g1 g2 gR n : Nat} {w0 w w' : World} (h : StL hs need B g0 g1 g2 gR w0 n w) (h0 : B ≤ g0) (h1 : B ≤ g1) (h2 : B ≤ g2) (hb : Below w.heap.size w w') : StL hs need B g0 g1 g2 gR w0 n w' :=
  ⟨blk_below h.hH hb, blk_below h.hN hb, blk_below h.hO hb, blk_below h.hR hb, h.hB.trans (hb.mono (by have := blk_lt h.hH; omega))⟩
theorem StL.drew {hs : List Int} {need : Int} {B g0 g1 g2 gR n : Nat} {w0 w : World} (h : StL hs need B g0 g1 g2 gR w0 n w) : StL hs need B g0 g1 g2 gR w0 n w.drew := ⟨h.hH, h.hN, h.hO, h.hR, below_drew h.hB⟩
theorem StL.same {hs : List Int} {need : Int} {B g0 g1 g2 gR k j : Nat} {w0 w : World} (h : StL hs need B g0 g1 g2 gR w0 (8 * k + j) w) (hj : j < 8) (hn : ¬ need ≤ nb hs (j : Int) (k : Int)) : StL hs need B g0 g1 g2 gR w0 (8 * k + j + 1) w :=
  ⟨h.hH, h.hN, by rw [weekN_no hj hn]; exact h.hO, h.hR, h.hB⟩
theorem StL.add {hs : List Int} {need : Int} {B g0 g1 g2 gR k j : Nat} {w0 w : World} (h : StL hs need B g0 g1 g2 gR w0 (8 * k + j) w) (hb2 : B ≤ g2) (h02 : g0 ≠ g2) (h12 : g1 ≠ g2) (hR2 : gR ≠ g2) (hk : k < 8) (hj : j < 8) (hn : need ≤ nb hs (j : Int) (k : Int)) :
    StL hs need B g0 g1 g2 gR w0 (8 * k + j + 1) (w.setCell ⟨g2, k, none⟩ (.int .u8 (bits .or .u8 (gi (weekN hs need (8 * k + j)) k) (2 ^ j)))) := by
  refine ⟨blk_far h.hH h02 _ _, blk_far h.hN h12 _ _, ?_, blk_far h.hR hR2 _ _, h.hB.setCell (by simpa using hb2) _⟩
  have := blk_set h.hO k (.int .u8 (bits .or .u8 (gi (weekN hs need (8 * k + j)) k) (2 ^ j)))
  rw [nums_set] at this
  rw [weekN_yes hk hj hn]
  exact this

set_option maxHeartbeats 4000000 in
theorem c_later1 (hs : List Int) (need : Int) (h8 : Holes8 hs) (B g0 g1 g2 gR : Nat) (w0 : World) (hb0 : B ≤ g0) (hb1 : B ≤ g1) (hb2 : B ≤ g2) (h02 : g0 ≠ g2) (h12 : g1 ≠ g2) (hR2 : gR ≠ g2) (k j : Nat) (w1 : World) (hk : k < 8) (hj : j < 8) (hI : StL hs need B g0 g1 g2 gR w0 (8 * k + j) w1) :
    Calls Try.prog 47 (#[.int .i64 j, .int .i64 k] ++ #[.pointer (some ⟨g0, 0, none⟩), .pointer (some ⟨g1, 0, none⟩), .pointer (some ⟨g2, 0, none⟩)]) w1 fun e w2 => e = .returned (.tuple #[]) ∧ StL hs need B g0 g1 g2 gR w0 (8 * k + j + 1) w2 := by
  have H := Lib.hid hI
  have H8 := Lib.hid h8
  have b0 := blk_lt hI.hH
  have b1 := blk_lt hI.hN
  have b2 := blk_lt hI.hO
  have e0 := nums_cell hI.hH 0 (by rw [h8.len]; omega)
  have e1 := nums_cell hI.hH 1 (by rw [h8.len]; omega)
  have e2 := nums_cell hI.hH 2 (by rw [h8.len]; omega)
  have e3 := nums_cell hI.hH 3 (by rw [h8.len]; omega)
  have e4 := nums_cell hI.hH 4 (by rw [h8.len]; omega)
  have e5 := nums_cell hI.hH 5 (by rw [h8.len]; omega)
  have e6 := nums_cell hI.hH 6 (by rw [h8.len]; omega)
  have e7 := nums_cell hI.hH 7 (by rw [h8.len]; omega)
  have a1 : IntKind.i64.wrap ((j : Int) - 1) = (j : Int) - 1 := IntWalk.i64_in _ (by omega)
  have a2 : IntKind.i64.wrap ((j : Int) + 1) = (j : Int) + 1 := IntWalk.i64_in _ (by omega)
  have a3 : IntKind.i64.wrap ((k : Int) - 1) = (k : Int) - 1 := IntWalk.i64_in _ (by omega)
  have a4 : IntKind.i64.wrap ((k : Int) + 1) = (k : Int) + 1 := IntWalk.i64_in _ (by omega)
  clear hI h8
  show Calls Try.prog 47 #[.int .i64 j, .int .i64 k, .pointer (some ⟨g0, 0, none⟩), .pointer (some ⟨g1, 0, none⟩), .pointer (some ⟨g2, 0, none⟩)] w1 _
  go_enter Try.func47, Try.ntmps47
  go_wp2
  go_region_held3 (fun w' => w'.cell? ⟨g0, 0, none⟩ = some (.int .u8 (gi hs 0)) ∧ w'.cell? ⟨g0, 1, none⟩ = some (.int .u8 (gi hs 1)) ∧ w'.cell? ⟨g0, 2, none⟩ = some (.int .u8 (gi hs 2)) ∧ w'.cell? ⟨g0, 3, none⟩ = some (.int .u8 (gi hs 3)) ∧ w'.cell? ⟨g0, 4, none⟩ = some (.int .u8 (gi hs 4)) ∧ w'.cell? ⟨g0, 5, none⟩ = some (.int .u8 (gi hs 5)) ∧ w'.cell? ⟨g0, 6, none⟩ = some (.int .u8 (gi hs 6)) ∧ w'.cell? ⟨g0, 7, none⟩ = some (.int .u8 (gi hs 7))) (simp [*, go_sem])
    (first | (go_at_call 29; ((with_reducible refine (c_has8 hs _ _ _ H8.out).mono ?_); rintro e w2 ⟨rfl, hb⟩; obtain ⟨hc_, hf_, hz_⟩ := bfacts hb; (try simp only [World.size_alloc, World.size_setCell, World.size_drew] at hc_ hf_ hz_); have z0 : g0 < w2.heap.size := (by omega))))
  have HB2 : Hid (Below w1.heap.size w1 w2) := by
    show Below w1.heap.size w1 w2
    (repeat (first | with_reducible exact Below.refl _ _ | with_reducible refine below_alloc ?_ _ | with_reducible refine below_drew ?_ | with_reducible refine below_drewN ?_ _ | with_reducible refine below_then ?_ (by assumption)))
  have H5 := Lib.hid (H.out.below hb0 hb1 hb2 (HB2.out.alloc HB2.out.size (.cells #[.bool (hole hs ((j : Int) - 1) (k : Int)), .bool (hole hs ((j : Int) + 1) (k : Int)), .bool (hole hs (j : Int) ((k : Int) - 1)), .bool (hole hs (j : Int) ((k : Int) + 1))] 4 (0, 0))))
  clear HB2 hc_ hf_ hz_ z0 e0 e1 e2 e3 e4 e5 e6 e7 a1 a2 a3 a4
  go_wp2
  go_loop [7, 32] (fun n i => ∃ q : Nat, q ≤ 4 ∧ i = .int .i64 q ∧ n = .int .i64 (nbq hs (j : Int) (k : Int) q)) (fun _ i => 4 - (intOf i).toNat)
  case atStart => exact ⟨0, by omega, rfl, rfl⟩
  case round =>
    obtain ⟨q, hq, rfl, rfl⟩ := hrel
    have hbd := nbq_bd hs (j : Int) (k : Int) q hq
    by_cases hlt3 : q < 4
    · have d3 : decide ((q : Int) < 4) = true := by simp; omega
      rcases (show q = 0 ∨ q = 1 ∨ q = 2 ∨ q = 3 by omega) with rfl | rfl | rfl | rfl
      · have E : Hid (nbq hs (j : Int) (k : Int) 1 = nbq hs (j : Int) (k : Int) 0 + b2i (hole hs ((j : Int) - 1) (k : Int))) := nbq_s0 hs _ _
        cases hh : hole hs ((j : Int) - 1) (k : Int)
        · rw [hh] at E
          go_wp2
          go_round
          case rel => exact ⟨1, by omega, rfl, by rw [E.out]; simp [b2i]⟩
          case measure => simp [intOf]
        · rw [hh] at E
          go_wp2
          go_round
          case rel => exact ⟨1, by omega, rfl, by rw [E.out]; simp [b2i]⟩
          case measure => simp [intOf]
      · have E : Hid (nbq hs (j : Int) (k : Int) 2 = nbq hs (j : Int) (k : Int) 1 + b2i (hole hs ((j : Int) + 1) (k : Int))) := nbq_s1 hs _ _
        cases hh : hole hs ((j : Int) + 1) (k : Int)
        · rw [hh] at E
          go_wp2
          go_round
          case rel => exact ⟨2, by omega, rfl, by rw [E.out]; simp [b2i]⟩
          case measure => simp [intOf]
        · rw [hh] at E
          go_wp2
          go_round
          case rel => exact ⟨2, by omega, rfl, by rw [E.out]; simp [b2i]⟩
          case measure => simp [intOf]
      · have E : Hid (nbq hs (j : Int) (k : Int) 3 = nbq hs (j : Int) (k : Int) 2 + b2i (hole hs (j : Int) ((k : Int) - 1))) := nbq_s2 hs _ _
        cases hh : hole hs (j : Int) ((k : Int) - 1)
        · rw [hh] at E
          go_wp2
          go_round
          case rel => exact ⟨3, by omega, rfl, by rw [E.out]; simp [b2i]⟩
          case measure => simp [intOf]
        · rw [hh] at E
          go_wp2
          go_round
          case rel => exact ⟨3, by omega, rfl, by rw [E.out]; simp [b2i]⟩
          case measure => simp [intOf]
      · have E : Hid (nbq hs (j : Int) (k : Int) 4 = nbq hs (j : Int) (k : Int) 3 + b2i (hole hs (j : Int) ((k : Int) + 1))) := nbq_s3 hs _ _
        cases hh : hole hs (j : Int) ((k : Int) + 1)
        · rw [hh] at E
          go_wp2
          go_round
          case rel => exact ⟨4, by omega, rfl, by rw [E.out]; simp [b2i]⟩
          case measure => simp [intOf]
        · rw [hh] at E
          go_wp2
          go_round
          case rel => exact ⟨4, by omega, rfl, by rw [E.out]; simp [b2i]⟩
          case measure => simp [intOf]
    · obtain rfl : q = 4 := by omega
      have c1 := blk_cell H5.out.hN 0
      have c2 := nums_cell H5.out.hO k (by rw [(weekN8 _ _ _).len]; exact hk)
      have f2 := blk_frozen H5.out.hO k
      by_cases hn : need ≤ nbq hs (j : Int) (k : Int) 4
      · have HN := Lib.hid (H5.out.add hb2 h02 h12 hR2 hk hj (by rw [← nbq_four]; exact hn))
        have pw := Lib.hid (pow_mod hj)
        go_wp2
        generalize w2.alloc (.cells #[.bool (hole hs ((j : Int) - 1) (k : Int)), .bool (hole hs ((j : Int) + 1) (k : Int)), .bool (hole hs (j : Int) ((k : Int) - 1)), .bool (hole hs (j : Int) ((k : Int) + 1))] 4 (0, 0)) = w5 at *
        have i1 : (0 : Int) ≤ (k : Int) := by omega
        have i2 : (k : Int) < 8 := by omega
        have i3 : (0 : Int) ≤ (j : Int) := by omega
        have i4 : (j : Int) < 8 := by omega
        go_region
        go_end0
        exact ⟨rfl, StL.drew (by rw [pw.out]; exact HN.out)⟩
      · have HN := Lib.hid (H5.out.same hj (by rw [← nbq_four]; exact hn))
        go_wp2
        go_end0
        exact ⟨rfl, HN.out⟩

set_option maxHeartbeats 800000 in
theorem c_later (hs : List Int) (need : Int) (w : World) (h8 : Holes8 hs) :
    Calls Try.prog 34 #[.agg (nums .u8 hs).toArray, .int .i64 need] w fun e w' => e = .returned (.agg (nums .u8 (week hs need)).toArray) ∧ Below w.heap.size w w' := by
  have H8 := Lib.hid h8
  have HI := Lib.hid (holes_info h8.len)
  have HIW := Lib.hid (holes_info (week8 hs need).len)
  have he : ∀ args w, (callFunc 47 args).run Try.prog w = .ok (.enter 47 args) w := enters_of Try.func47 (by kernel_rfl) rfl
  have HE := Lib.hid he
  have HZ : #[Value.int .u8 0, .int .u8 0, .int .u8 0, .int .u8 0, .int .u8 0, .int .u8 0, .int .u8 0, .int .u8 0] = (nums .u8 noHoles).toArray := rfl
  let W1 := w.alloc (.cells (nums .u8 hs).toArray 25 (0, 0))
  let W2 := W1.alloc (.cells #[.int .i64 need] 2 (0, 0))
  let W3 := W2.alloc (.cells (nums .u8 noHoles).toArray 25 (0, 0))
  let W4 := W3.alloc (.cells (nums .u8 noHoles).toArray 25 (0, 0))
  have z1 : W1.heap.size = w.heap.size + 1 := World.size_alloc ..
  have z2 : W2.heap.size = w.heap.size + 1 + 1 := (World.size_alloc ..).trans (by rw [z1])
  have z3 : W3.heap.size = w.heap.size + 1 + 1 + 1 := (World.size_alloc ..).trans (by rw [z2])
  have HA3 : Hid (W3.heap[w.heap.size]? = some (.cells (nums .u8 hs).toArray 25 (0, 0))) := blk_alloc (blk_alloc (heap_alloc_new _ _) _) _
  have HA4 : Hid (W4.heap[w.heap.size]? = some (.cells (nums .u8 hs).toArray 25 (0, 0))) := blk_alloc HA3.out _
  have HN4 : Hid (W4.heap[w.heap.size + 1]? = some (.cells #[.int .i64 need] 2 (0, 0))) := by
    have := heap_alloc_new W1 (.cells #[.int .i64 need] 2 (0, 0))
    rw [z1] at this
    exact blk_alloc (blk_alloc this _) _
  have HR4 : Hid (W4.heap[w.heap.size + 1 + 1]? = some (.cells (nums .u8 noHoles).toArray 25 (0, 0))) := by
    have := heap_alloc_new W2 (.cells (nums .u8 noHoles).toArray 25 (0, 0))
    rw [z2] at this
    exact blk_alloc this _
  have HO4 : Hid (W4.heap[w.heap.size + 1 + 1 + 1]? = some (.cells (nums .u8 noHoles).toArray 25 (0, 0))) := by
    have := heap_alloc_new W3 (.cells (nums .u8 noHoles).toArray 25 (0, 0))
    rw [z3] at this
    exact this
  clear h8 he z1 z2 z3
  go_enter Try.func34, Try.ntmps34
  go_wp2_with (first
    | (refine wpList_load_row rfl 25 (.tmp 2) rfl w.heap.size rfl 25 _ (0, 0) _ HA3.out Try.underlying25 rfl HI.out ?_)
    | (refine wpList_store_row rfl 25 (.tmp 5) (.tmp 6) rfl (w.heap.size + 1 + 1 + 1) (nums .u8 hs).toArray rfl rfl 25 _ HO4.out HI.out (by simp [nums, noHoles, H8.out.len]) (nums_one _ _) ?_)
    | (go_at_call 26; ((with_reducible refine (c_each 47 _ HE.out (fun n wr => StL hs need w.heap.size w.heap.size (w.heap.size + 1) (w.heap.size + 1 + 1 + 1) (w.heap.size + 1 + 1) w n wr) (fun k j w1 hk hj hI => c_later1 hs need H8.out _ _ _ _ _ w (Nat.le_refl _) (by omega) (by omega) (by omega) (by omega) (by omega) k j w1 hk hj hI) _ ?_).mono ?_))))
  · refine ⟨((Tou.setRow _ _ _).block _ (by omega)).trans HA4.out, ((Tou.setRow _ _ _).block _ (by omega)).trans HN4.out, ?_, ((Tou.setRow _ _ _).block _ (by omega)).trans HR4.out, ?_⟩
    · rw [weekN_zero H8.out]
      exact setRow_heap _ _ _ _ _ _ HO4.out
    · refine Below.trans ?_ ((Tou.setRow _ _ _).below (by omega))
      (repeat (first | with_reducible exact Below.refl _ _ | with_reducible refine below_alloc ?_ _ | with_reducible refine below_drew ?_ | with_reducible refine below_drewN ?_ _ | with_reducible refine below_then ?_ (by assumption)))
  · rintro e w5 ⟨rfl, hI⟩
    have HI5 := Lib.hid hI
    have HW : Hid (w5.heap[w.heap.size + 1 + 1 + 1]? = some (.cells (nums .u8 (week hs need)).toArray 25 (0, 0))) := hI.hO
    clear hI
    go_wp2_with (first
      | (refine wpList_load_row rfl 25 (.tmp 5) rfl (w.heap.size + 1 + 1 + 1) rfl 25 _ (0, 0) _ HW.out Try.underlying25 rfl HIW.out ?_)
      | (refine wpList_store_row rfl 25 (.tmp 4) (.tmp 9) rfl (w.heap.size + 1 + 1) (nums .u8 (week hs need)).toArray rfl rfl 25 _ HI5.out.hR HIW.out (by simp [nums, noHoles, (week8 hs need).len]) (nums_one _ _) ?_))
    refine bodyPost_ret (v := .agg (nums .u8 (week hs need)).toArray) (results_cell_row rfl _ _ (w.heap.size + 1 + 1) 25 _ (0, 0) _ rfl (setRow_heap _ _ _ _ _ _ HI5.out.hR) Try.underlying25 rfl HIW.out) rfl ⟨rfl, ?_⟩
    exact HI5.out.hB.trans ((Tou.setRow _ _ _).below (by omega))
end Go.Proofs.Ytcbegcekdmmjpaa
