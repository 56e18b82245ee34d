/- The spot without which there are the fewest holes after some weeks. -/
import Derived.Test.YtcbegcekdmmjpaaSpotRows
import Derived.Test.YtcbegcekdmmjpaaHolesWeeks
namespace Go.Proofs.Ytcbegcekdmmjpaa
open Go.RowKit
set_option linter.unusedVariables false
set_option linter.unusedSimpArgs false
set_option maxRecDepth 100000

set_option maxHeartbeats 2000000 in
theorem c_l06LessAt (g g' o' : Nat) (hs gone : List Int) (h8 : Holes8 hs) (g8 : Holes8 gone) (w : World) (hg : w.heap[g]? = some (.cells (nums .u8 hs).toArray 25 (0, 0))) (hgl : g' < w.heap.size) (hg' : HAt w g' o' gone) :
    Calls Try.prog 43 #[.pointer (some ⟨g, 0, none⟩), .pointer (some ⟨g', o', none⟩)] w fun e w' => e = .returned (.agg (nums .u8 (less hs gone)).toArray) ∧ Below w.heap.size w w' := by
  have H8 := Lib.hid h8
  have G8 := Lib.hid g8
  have HG := Lib.hid hg
  have HG' := Lib.hid hg'
  have HIL := Lib.hid (holes_info (less8 hs gone).len)
  have hz : (nums .u8 noHoles).toArray = #[.int .u8 0, .int .u8 0, .int .u8 0, .int .u8 0, .int .u8 0, .int .u8 0, .int .u8 0, .int .u8 0] := rfl
  have g0 := blk_alloc (heap_alloc_new w (.cells #[.int .u8 0, .int .u8 0, .int .u8 0, .int .u8 0, .int .u8 0, .int .u8 0, .int .u8 0, .int .u8 0] 25 (0, 0))) (.cells #[.int .u8 0, .int .u8 0, .int .u8 0, .int .u8 0, .int .u8 0, .int .u8 0, .int .u8 0, .int .u8 0] 25 (0, 0))
  have g1 := heap_alloc_new (w.alloc (.cells #[.int .u8 0, .int .u8 0, .int .u8 0, .int .u8 0, .int .u8 0, .int .u8 0, .int .u8 0, .int .u8 0] 25 (0, 0))) (.cells #[.int .u8 0, .int .u8 0, .int .u8 0, .int .u8 0, .int .u8 0, .int .u8 0, .int .u8 0, .int .u8 0] 25 (0, 0))
  rw [World.size_alloc] at g1
  have G0 := Lib.hid g0
  have G1 : Hid (((w.alloc (.cells #[.int .u8 0, .int .u8 0, .int .u8 0, .int .u8 0, .int .u8 0, .int .u8 0, .int .u8 0, .int .u8 0] 25 (0, 0))).alloc (.cells #[.int .u8 0, .int .u8 0, .int .u8 0, .int .u8 0, .int .u8 0, .int .u8 0, .int .u8 0, .int .u8 0] 25 (0, 0))).heap[w.heap.size + 1]? = some (.cells (marked (fLess hs gone) 0 (nums .u8 noHoles)).toArray 25 (0, 0))) := by rw [Hid, marked_zero, hz]; exact g1
  have HB0 : Hid (Below w.heap.size w ((w.alloc (.cells #[.int .u8 0, .int .u8 0, .int .u8 0, .int .u8 0, .int .u8 0, .int .u8 0, .int .u8 0, .int .u8 0] 25 (0, 0))).alloc (.cells #[.int .u8 0, .int .u8 0, .int .u8 0, .int .u8 0, .int .u8 0, .int .u8 0, .int .u8 0, .int .u8 0] 25 (0, 0)))) := by show Below w.heap.size w _; (repeat (first | with_reducible exact Below.refl _ _ | with_reducible refine below_alloc ?_ _ | with_reducible refine below_drew ?_ | with_reducible refine below_drewN ?_ _ | with_reducible refine below_then ?_ (by assumption)))
  clear h8 g8 g0 g1 hg hg'
  go_enter Try.func43, Try.ntmps43
  go_wp2
  go_loopw [6] (fun i wr => ∃ k : Nat, k ≤ 8 ∧ i = .int .i64 k ∧ Hid (wr.heap[w.heap.size]? = some (.cells #[.int .u8 0, .int .u8 0, .int .u8 0, .int .u8 0, .int .u8 0, .int .u8 0, .int .u8 0, .int .u8 0] 25 (0, 0))) ∧ Hid (wr.heap[w.heap.size + 1]? = some (.cells (marked (fLess hs gone) k (nums .u8 noHoles)).toArray 25 (0, 0))) ∧ Hid (Below w.heap.size w wr)) (fun i _ => 8 - (intOf i).toNat)
  case atStart => exact ⟨0, by omega, rfl, G0, G1, HB0⟩
  case round =>
    obtain ⟨k, hk, rfl, hR, hA, hB⟩ := hrel
    by_cases hlt : k < 8
    · have hkl : k < (nums .u8 noHoles).length := by rw [nums_length, noHoles8.len]; exact hlt
      have x0 := nums_cell (blk_below HG.out hB.out) k (by rw [H8.out.len]; exact hlt)
      have x1 := (hB.out.cell (p := ⟨g', o' + k, none⟩) hgl).trans (HG'.out k hlt)
      obtain ⟨u0, c0⟩ : ∃ u, wr.cell? ⟨w.heap.size + 1, k, none⟩ = some u := ⟨_, row_cell hA.out ((marked_at (fLess hs gone) hkl).trans (nums_at k (by rw [noHoles8.len]; exact hlt)))⟩
      have f0 := blk_frozen hA.out k
      have k0 : (0 : Int) ≤ (k : Int) := by omega
      have k1 : (k : Int) < 8 := by omega
      have E : Hid (Value.int .u8 (bits .andNot .u8 (gi hs k) (gi gone k)) = fLess hs gone k) := by rw [Hid, fLess, less_row H8.out G8.out hlt]
      go_wp2
      go_still_tail 13, (by kernel_rfl)
      change wpList _ _ _ _ _ wr.drew
      have hR1 : Hid (wr.drew.heap[w.heap.size]? = some (.cells #[.int .u8 0, .int .u8 0, .int .u8 0, .int .u8 0, .int .u8 0, .int .u8 0, .int .u8 0, .int .u8 0] 25 (0, 0))) := hR.out
      have hA1 : Hid (wr.drew.heap[w.heap.size + 1]? = some (.cells (marked (fLess hs gone) k (nums .u8 noHoles)).toArray 25 (0, 0))) := hA.out
      have hB1 : Hid (Below w.heap.size w wr.drew) := below_drew hB.out
      have c1 : wr.drew.cell? ⟨w.heap.size + 1, k, none⟩ = some u0 := c0
      have f1 : wr.drew.frozen? ⟨w.heap.size + 1, k, none⟩ = false := f0
      clear x0 x1 c0 f0 hR hA hB
      generalize wr.drew = wd at *
      go_wp2
      go_roundw
      case rel =>
        refine ⟨k + 1, by omega, by go_num, blk_far hR1.out (by omega) _ _, ?_, hB1.out.setCell (by simp) _⟩
        have := row_set hA1.out k (Value.int .u8 (bits .andNot .u8 (gi hs k) (gi gone k)))
        rw [E.out, marked_set (fLess hs gone) hkl] at this
        rw [Hid, E.out]
        exact this
      case measure => simp [intOf]; omega
    · obtain rfl : k = 8 := by omega
      have hA2 := hA.out
      rw [marked_all _ (by rw [nums_length, noHoles8.len])] at hA2
      have HA2 : Hid (wr.heap[w.heap.size + 1]? = some (.cells (nums .u8 (less hs gone)).toArray 25 (0, 0))) := by
        rw [Hid, ← marked_nums (less8 hs gone).len .u8]; exact hA2
      clear hA hA2
      go_wp2_with (first
        | (refine wpList_load_row rfl 25 (.tmp 5) rfl (w.heap.size + 1) rfl 25 (nums .u8 (less hs gone)).toArray (0, 0) _ ?_ Try.underlying25 rfl HIL.out ?_; (with_reducible exact HA2.out))
        | (refine ev_store_row rfl 25 (.tmp 4) (.tmp 25) rfl (w.heap.size) (nums .u8 (less hs gone)).toArray rfl rfl 25 #[.int .u8 0, .int .u8 0, .int .u8 0, .int .u8 0, .int .u8 0, .int .u8 0, .int .u8 0, .int .u8 0] ?_ HIL.out (by rw [← hz]; simp [nums, noHoles, (less8 hs gone).len]) (nums_one _ _) ?_; (with_reducible exact hR.out); intro w6 hblk ht; have hR3 := Lib.hid hblk; clear hblk))
      refine bodyPost_ret (v := .agg (nums .u8 (less hs gone)).toArray) (results_cell_row rfl _ _ (w.heap.size) 25 (nums .u8 (less hs gone)).toArray (0, 0) _ rfl (by with_reducible exact hR3.out) Try.underlying25 rfl HIL.out) rfl ⟨rfl, hB.out.trans (ht.below (by omega))⟩

def bestN (hs : List Int) (need : Int) (wk : Nat) (L : List (List Int)) : Nat → Int × Int
  | 0 => (0, -1)
  | k + 1 => if (bestN hs need wk L k).2 < 0 ∨ cnt (weeks (less hs (L.getD k [])) need wk) 64 < (bestN hs need wk L k).2 then ((k : Int), cnt (weeks (less hs (L.getD k [])) need wk) 64) else bestN hs need wk L k
theorem bestN_bd (hs : List Int) (need : Int) (wk : Nat) (L : List (List Int)) : ∀ k, -1 ≤ (bestN hs need wk L k).2 ∧ (bestN hs need wk L k).2 ≤ 64
  | 0 => by simp [bestN]
  | k + 1 => by
    have := bestN_bd hs need wk L k
    have := cnt_bd (weeks (less hs (L.getD k [])) need wk) 64
    unfold bestN
    split
    · show -1 ≤ cnt _ 64 ∧ cnt _ 64 ≤ 64
      omega
    · assumption
def bestF (hs : List Int) (need wk : Int) (L : List (List Int)) : Int × Int × Int :=
  if (inB need 1 4 && inB wk 0 100) = true then (if (bestN hs need wk.toNat L L.length).2 < 0 then (0, 0, 6) else ((bestN hs need wk.toNat L L.length).1, (bestN hs need wk.toNat L L.length).2, 0)) else (0, 0, 2)
theorem inB_bd' {n lo hi : Int} (h : inB n lo hi = true) : lo ≤ n ∧ n ≤ hi := by simpa [inB] using h
set_option maxHeartbeats 4000000 in
theorem c_sBestMend (hs : List Int) (need wk : Int) (L : List (List Int)) (h8 : Holes8 hs) (hL : (spotsN hs 64).1 = L) (w : World) :
    Calls Try.prog 21 #[.agg (nums .u8 hs).toArray, .int .i64 need, .int .i64 wk] w fun e w' => e = .returned (.tuple #[.int .i64 (bestF hs need wk L).1, .int .i64 (bestF hs need wk L).2.1, .int .i64 (bestF hs need wk L).2.2]) ∧ Below w.heap.size w w' := by
  have hlen : L.length ≤ 64 := hL ▸ spotsN_len hs 64
  have hall : ∀ s ∈ L, Holes8 s := hL ▸ spotsN_all8 64
  have cs := c_l06Spots hs h8
  simp only [hL] at cs
  have CS := fun w => Lib.hid (cs w)
  have HALL := Lib.hid hall
  have HK8 : Hid (∀ k, k < L.length → Holes8 (L.getD k [])) := fun k hk => by rw [show L.getD k [] = L[k]'hk from by simp [List.getD, hk]]; exact hall _ (List.getElem_mem hk)
  have H8 := Lib.hid h8
  have HI := Lib.hid (holes_info h8.len)
  have HA := Lib.hid (heap_alloc_new w (.cells (nums .u8 hs).toArray 25 (0, 0)))
  have HB0 : Hid (Below w.heap.size w (w.alloc (.cells (nums .u8 hs).toArray 25 (0, 0)))) := below_alloc (Below.refl _ _) _
  clear cs hL h8 hall
  cases q1 : inB need 1 4
  · have E : Hid (bestF hs need wk L = (0, 0, 2)) := by rw [Hid, bestF, q1]; rfl
    go_enter Try.func21, Try.ntmps21
    go_wp2_with (first | (go_at_call 30; ((with_reducible refine (c_l06Need _ _).mono ?_); rintro e w1 ⟨rfl, rfl⟩)) | (go_at_call 35; ((with_reducible refine (c_l00In _ _ _ _).mono ?_); rintro e w1 ⟨rfl, rfl⟩)))
    refine bodyPost_ret (v := .tuple #[.int .i64 0, .int .i64 0, .int .i64 2]) (by simp [results, Try.results21, go_sem]) rfl ⟨by rw [E.out], by (repeat (first | with_reducible exact Below.refl _ _ | with_reducible refine below_alloc ?_ _ | with_reducible refine below_drew ?_ | with_reducible refine below_drewN ?_ _ | with_reducible refine below_then ?_ (by assumption)))⟩
  · cases q2 : inB wk 0 100
    · have E : Hid (bestF hs need wk L = (0, 0, 2)) := by rw [Hid, bestF, q1, q2]; rfl
      go_enter Try.func21, Try.ntmps21
      go_wp2_with (first | (go_at_call 30; ((with_reducible refine (c_l06Need _ _).mono ?_); rintro e w1 ⟨rfl, rfl⟩)) | (go_at_call 35; ((with_reducible refine (c_l00In _ _ _ _).mono ?_); rintro e w1 ⟨rfl, rfl⟩)))
      refine bodyPost_ret (v := .tuple #[.int .i64 0, .int .i64 0, .int .i64 2]) (by simp [results, Try.results21, go_sem]) rfl ⟨by rw [E.out], by (repeat (first | with_reducible exact Below.refl _ _ | with_reducible refine below_alloc ?_ _ | with_reducible refine below_drew ?_ | with_reducible refine below_drewN ?_ _ | with_reducible refine below_then ?_ (by assumption)))⟩
    · obtain ⟨wk0, wk1⟩ := inB_bd' q2
      have E : Hid (bestF hs need wk L = if (bestN hs need wk.toNat L L.length).2 < 0 then (0, 0, 6) else ((bestN hs need wk.toNat L L.length).1, (bestN hs need wk.toNat L L.length).2, 0)) := by rw [Hid, bestF, q1, q2]; rfl
      have Q1 := Lib.hid q1
      have Q2 := Lib.hid q2
      go_enter Try.func21, Try.ntmps21
      go_wp2_with (first
        | (go_at_call 30; ((with_reducible refine (c_l06Need _ _).mono ?_); rintro e w1 ⟨rfl, rfl⟩))
        | (go_at_call 35; ((with_reducible refine (c_l00In _ _ _ _).mono ?_); rintro e w1 ⟨rfl, rfl⟩))
        | (refine wpList_load_row rfl 25 (.tmp 3) rfl (w.heap.size) rfl 25 (nums .u8 hs).toArray (0, 0) _ ?_ Try.underlying25 rfl HI.out ?_; (with_reducible exact HA.out))
        | (go_at_call 38; ((with_reducible refine (CS _).out.mono ?_); rintro e w1 ⟨v, rfl, hO, hb⟩; obtain ⟨A1, c1, rfl, hA1⟩ := own_form hO; have HO := Lib.hid hO; have HA1 := Lib.hid (blk_below HA.out hb); have HB1 := Lib.hid (below_then HB0.out hb); clear hO hb)))
      clear q1 q2
      go_loopw [12, 9, 10] (fun i x y wr => ∃ k : Nat, k ≤ L.length ∧ i = .int .i64 k ∧ x = .int .i64 (bestN hs need wk.toNat L k).1 ∧ y = .int .i64 (bestN hs need wk.toNat L k).2 ∧ Hid (wr.heap[w.heap.size]? = some (.cells (nums .u8 hs).toArray 25 (0, 0))) ∧ Hid (∃ base, wr.ownsRow base 25 8 (.slice A1 L.length c1) L.length (rows8 L)) ∧ Hid (Below w.heap.size w wr)) (fun i _ _ _ => L.length - (intOf i).toNat)
      case atStart => exact ⟨0, by omega, rfl, rfl, rfl, HA1, ⟨_, HO.out⟩, HB1⟩
      case round =>
        obtain ⟨k, hk, rfl, rfl, rfl, hA, hO, hB⟩ := hrel
        obtain ⟨base, hO⟩ := hO.out
        have hO := Lib.hid hO
        have hbd := bestN_bd hs need wk.toNat L k
        by_cases hlt : k < L.length
        · have d1 : decide ((k : Int) < (L.length : Int)) = true := by simp; omega
          obtain ⟨g, rfl, hg⟩ := hA1 (by omega)
          have k0 : (0 : Int) ≤ (k : Int) := by omega
          have k1 : (k : Int) < (L.length : Int) := by omega
          have K8 := Lib.hid (HK8.out k hlt)
          have LE8 := Lib.hid (less8 hs (L.getD k []))
          have W8 := Lib.hid (weeks8 LE8.out need wk.toNat)
          have HIW := Lib.hid (holes_info W8.out.len)
          have hc := cnt_bd (weeks (less hs (L.getD k [])) need wk.toNat) 64
          have HN : Hid (bestN hs need wk.toNat L (k + 1) = if (bestN hs need wk.toNat L k).2 < 0 ∨ cnt (weeks (less hs (L.getD k [])) need wk.toNat) 64 < (bestN hs need wk.toNat L k).2 then ((k : Int), cnt (weeks (less hs (L.getD k [])) need wk.toNat) 64) else bestN hs need wk.toNat L k) := rfl
          have hz := hB.out.size
          have hgl : g < wr.heap.size := World.block_lt_of_cell? wr _ (own_get hO.out (rows8_get0 HALL.out hlt)).1
          have HAt0 : HAt wr g (k * 8) (L.getD k []) := fun j hj => (own_get hO.out (rows8_get HALL.out hlt hj)).1
          have C1 := Lib.hid (c_l06LessAt w.heap.size g (k * 8) hs (L.getD k []) H8.out K8.out wr hA.out hgl HAt0)
          have C2 := fun wq => Lib.hid (c_l06Weeks (less hs (L.getD k [])) need wk wq LE8.out wk0 wk1)
          have C3 := fun gq wq (hq : wq.heap[gq]? = some (.cells (nums .u8 (weeks (less hs (L.getD k [])) need wk.toNat)).toArray 25 (0, 0))) => Lib.hid (c_l06Count gq 0 (weeks (less hs (L.getD k [])) need wk.toNat) wq W8.out (HAt_row W8.out.len hq))
          clear HAt0
          generalize L.getD k [] = S at *
          generalize hcn : cnt (weeks (less hs S) need wk.toNat) 64 = m at *
          generalize hbn : bestN hs need wk.toNat L k = r at *
          obtain ⟨r1, r2⟩ := r
          clear hcn hbn
          simp only at hbd HN ⊢
          have HN' := HN.out
          by_cases hneg : r2 < 0
          · have dn : decide (r2 < 0) = true := by simpa using hneg
            have HX := Lib.hid (HN'.trans (if_pos (.inl hneg)))
            clear HN' HN
            go_wp2_with (first
              | (go_at_call 43; ((with_reducible refine C1.out.mono ?_); rintro e w2 ⟨rfl, hb1⟩; have hA := Lib.hid (blk_below hA.out hb1); have hO := Lib.hid (own_below hO.out hb1); have hB := Lib.hid (below_then hB.out hb1); clear hb1))
              | (go_at_call 36; ((with_reducible refine (C2 _).out.mono ?_); rintro e w3 ⟨rfl, hb1⟩; have hA := Lib.hid (blk_below hA.out hb1); have hO := Lib.hid (own_below hO.out hb1); have hB := Lib.hid (below_then hB.out hb1); clear hb1))
              | (refine ev_store_row rfl 25 (.tmp 13) (.tmp 37) rfl (w3.heap.size) (nums .u8 (weeks (less hs S) need wk.toNat)).toArray rfl rfl 25 _ (heap_alloc_new w3 _) HIW.out (by simp [nums, W8.out.len]) (nums_one _ _) ?_; intro w4 hblk ht; have hb1 := tou_newS ht; clear ht; have hA := Lib.hid (blk_below hA.out hb1); have hO := Lib.hid (own_below hO.out hb1); have hB := Lib.hid (below_then hB.out hb1); clear hb1; have hT := Lib.hid hblk; clear hblk)
              | (go_at_call 40; ((with_reducible refine (C3 _ _ hT.out).out.mono ?_); rintro e w5 ⟨rfl, rfl⟩)))
            go_roundw
            case rel => exact ⟨k + 1, by omega, by go_num, by rw [HX.out], by rw [HX.out], hA, ⟨_, hO.out⟩, hB⟩
            case measure => simp [intOf]; omega
          · have dn : decide (r2 < 0) = false := by simpa using hneg
            by_cases hless : m < r2
            · have dl : decide (m < r2) = true := by simpa using hless
              have HX := Lib.hid (HN'.trans (if_pos (.inr hless)))
              clear HN' HN
              go_wp2_with (first
              | (go_at_call 43; ((with_reducible refine C1.out.mono ?_); rintro e w2 ⟨rfl, hb1⟩; have hA := Lib.hid (blk_below hA.out hb1); have hO := Lib.hid (own_below hO.out hb1); have hB := Lib.hid (below_then hB.out hb1); clear hb1))
              | (go_at_call 36; ((with_reducible refine (C2 _).out.mono ?_); rintro e w3 ⟨rfl, hb1⟩; have hA := Lib.hid (blk_below hA.out hb1); have hO := Lib.hid (own_below hO.out hb1); have hB := Lib.hid (below_then hB.out hb1); clear hb1))
              | (refine ev_store_row rfl 25 (.tmp 13) (.tmp 37) rfl (w3.heap.size) (nums .u8 (weeks (less hs S) need wk.toNat)).toArray rfl rfl 25 _ (heap_alloc_new w3 _) HIW.out (by simp [nums, W8.out.len]) (nums_one _ _) ?_; intro w4 hblk ht; have hb1 := tou_newS ht; clear ht; have hA := Lib.hid (blk_below hA.out hb1); have hO := Lib.hid (own_below hO.out hb1); have hB := Lib.hid (below_then hB.out hb1); clear hb1; have hT := Lib.hid hblk; clear hblk)
              | (go_at_call 40; ((with_reducible refine (C3 _ _ hT.out).out.mono ?_); rintro e w5 ⟨rfl, rfl⟩)))
              go_roundw
              case rel => exact ⟨k + 1, by omega, by go_num, by rw [HX.out], by rw [HX.out], hA, ⟨_, hO.out⟩, hB⟩
              case measure => simp [intOf]; omega
            · have dl : decide (m < r2) = false := by simpa using hless
              have HX := Lib.hid (HN'.trans (if_neg (fun h => h.elim hneg hless)))
              clear HN' HN
              go_wp2_with (first
              | (go_at_call 43; ((with_reducible refine C1.out.mono ?_); rintro e w2 ⟨rfl, hb1⟩; have hA := Lib.hid (blk_below hA.out hb1); have hO := Lib.hid (own_below hO.out hb1); have hB := Lib.hid (below_then hB.out hb1); clear hb1))
              | (go_at_call 36; ((with_reducible refine (C2 _).out.mono ?_); rintro e w3 ⟨rfl, hb1⟩; have hA := Lib.hid (blk_below hA.out hb1); have hO := Lib.hid (own_below hO.out hb1); have hB := Lib.hid (below_then hB.out hb1); clear hb1))
              | (refine ev_store_row rfl 25 (.tmp 13) (.tmp 37) rfl (w3.heap.size) (nums .u8 (weeks (less hs S) need wk.toNat)).toArray rfl rfl 25 _ (heap_alloc_new w3 _) HIW.out (by simp [nums, W8.out.len]) (nums_one _ _) ?_; intro w4 hblk ht; have hb1 := tou_newS ht; clear ht; have hA := Lib.hid (blk_below hA.out hb1); have hO := Lib.hid (own_below hO.out hb1); have hB := Lib.hid (below_then hB.out hb1); clear hb1; have hT := Lib.hid hblk; clear hblk)
              | (go_at_call 40; ((with_reducible refine (C3 _ _ hT.out).out.mono ?_); rintro e w5 ⟨rfl, rfl⟩)))
              go_roundw
              case rel => exact ⟨k + 1, by omega, by go_num, by rw [HX.out], by rw [HX.out], hA, ⟨_, hO.out⟩, hB⟩
              case measure => simp [intOf]; omega
        · obtain hkl : k = L.length := by omega
          subst hkl
          have d1 : decide ((L.length : Int) < (L.length : Int)) = false := by simp
          generalize hbn : bestN hs need wk.toNat L L.length = r at *
          obtain ⟨r1, r2⟩ := r
          by_cases hneg : r2 < 0
          · have dn : decide (r2 < 0) = true := by simpa using hneg
            have E2 : Hid (bestF hs need wk L = (0, 0, 6)) := by rw [Hid, E.out, if_pos hneg]
            go_wp2
            refine bodyPost_ret (v := .tuple #[.int .i64 0, .int .i64 0, .int .i64 6]) (by simp [results, Try.results21, go_sem]) rfl ⟨by rw [E2.out], hB.out⟩
          · have dn : decide (r2 < 0) = false := by simpa using hneg
            have E2 : Hid (bestF hs need wk L = (r1, r2, 0)) := by rw [Hid, E.out, if_neg hneg]
            go_wp2
            refine bodyPost_ret (v := .tuple #[.int .i64 r1, .int .i64 r2, .int .i64 0]) (by simp [results, Try.results21, go_sem]) rfl ⟨by rw [E2.out], hB.out⟩
set_option maxHeartbeats 4000000 in
theorem c_iBestMend (hs : List Int) (need wk : Int) (L : List (List Int)) (h8 : Holes8 hs) (hL : (spotsN hs 64).1 = L) (w : World) :
    Calls Try.prog 20 #[.agg (nums .u8 hs).toArray, .int .i64 need, .int .i64 wk] w fun e w' => e = .returned (.tuple #[.int .i64 (bestF hs need wk L).1, .int .i64 (bestF hs need wk L).2.1, .int .i64 (bestF hs need wk L).2.2]) ∧ Below w.heap.size w w' := by
  have hlen : L.length ≤ 64 := hL ▸ spotsN_len hs 64
  have hall : ∀ s ∈ L, Holes8 s := hL ▸ spotsN_all8 64
  have cs := c_spots hs h8
  simp only [hL] at cs
  have CS := fun w => Lib.hid (cs w)
  have HALL := Lib.hid hall
  have HK8 : Hid (∀ k, k < L.length → Holes8 (L.getD k [])) := fun k hk => by rw [show L.getD k [] = L[k]'hk from by simp [List.getD, hk]]; exact hall _ (List.getElem_mem hk)
  have H8 := Lib.hid h8
  have HI := Lib.hid (holes_info h8.len)
  have HA := Lib.hid (heap_alloc_new w (.cells (nums .u8 hs).toArray 25 (0, 0)))
  have HB0 : Hid (Below w.heap.size w (w.alloc (.cells (nums .u8 hs).toArray 25 (0, 0)))) := below_alloc (Below.refl _ _) _
  clear cs hL h8 hall
  cases q1 : inB need 1 4
  · have E : Hid (bestF hs need wk L = (0, 0, 2)) := by rw [Hid, bestF, q1]; rfl
    go_enter Try.func20, Try.ntmps20
    go_wp2_with (first | (go_at_call 32; ((with_reducible refine (c_isNeed _ _).mono ?_); rintro e w1 ⟨rfl, rfl⟩)) | (go_at_call 33; ((with_reducible refine (c_within _ _ _ _).mono ?_); rintro e w1 ⟨rfl, rfl⟩)))
    refine bodyPost_ret (v := .tuple #[.int .i64 0, .int .i64 0, .int .i64 2]) (by simp [results, Try.results20, go_sem]) rfl ⟨by rw [E.out], by (repeat (first | with_reducible exact Below.refl _ _ | with_reducible refine below_alloc ?_ _ | with_reducible refine below_drew ?_ | with_reducible refine below_drewN ?_ _ | with_reducible refine below_then ?_ (by assumption)))⟩
  · cases q2 : inB wk 0 100
    · have E : Hid (bestF hs need wk L = (0, 0, 2)) := by rw [Hid, bestF, q1, q2]; rfl
      go_enter Try.func20, Try.ntmps20
      go_wp2_with (first | (go_at_call 32; ((with_reducible refine (c_isNeed _ _).mono ?_); rintro e w1 ⟨rfl, rfl⟩)) | (go_at_call 33; ((with_reducible refine (c_within _ _ _ _).mono ?_); rintro e w1 ⟨rfl, rfl⟩)))
      refine bodyPost_ret (v := .tuple #[.int .i64 0, .int .i64 0, .int .i64 2]) (by simp [results, Try.results20, go_sem]) rfl ⟨by rw [E.out], by (repeat (first | with_reducible exact Below.refl _ _ | with_reducible refine below_alloc ?_ _ | with_reducible refine below_drew ?_ | with_reducible refine below_drewN ?_ _ | with_reducible refine below_then ?_ (by assumption)))⟩
    · obtain ⟨wk0, wk1⟩ := inB_bd' q2
      have E : Hid (bestF hs need wk L = if (bestN hs need wk.toNat L L.length).2 < 0 then (0, 0, 6) else ((bestN hs need wk.toNat L L.length).1, (bestN hs need wk.toNat L L.length).2, 0)) := by rw [Hid, bestF, q1, q2]; rfl
      have Q1 := Lib.hid q1
      have Q2 := Lib.hid q2
      go_enter Try.func20, Try.ntmps20
      go_wp2_with (first
        | (go_at_call 32; ((with_reducible refine (c_isNeed _ _).mono ?_); rintro e w1 ⟨rfl, rfl⟩))
        | (go_at_call 33; ((with_reducible refine (c_within _ _ _ _).mono ?_); rintro e w1 ⟨rfl, rfl⟩))
        | (refine wpList_load_row rfl 25 (.tmp 3) rfl (w.heap.size) rfl 25 (nums .u8 hs).toArray (0, 0) _ ?_ Try.underlying25 rfl HI.out ?_; (with_reducible exact HA.out))
        | (go_at_call 37; ((with_reducible refine (CS _).out.mono ?_); rintro e w1 ⟨v, rfl, hO, hb⟩; obtain ⟨A1, c1, rfl, hA1⟩ := own_form hO; have HO := Lib.hid hO; have HA1 := Lib.hid (blk_below HA.out hb); have HB1 := Lib.hid (below_then HB0.out hb); clear hO hb)))
      clear q1 q2
      go_loopw [27, 9, 10] (fun i x y wr => ∃ k : Nat, k ≤ L.length ∧ i = .int .i64 k ∧ x = .int .i64 (bestN hs need wk.toNat L k).1 ∧ y = .int .i64 (bestN hs need wk.toNat L k).2 ∧ Hid (wr.heap[w.heap.size]? = some (.cells (nums .u8 hs).toArray 25 (0, 0))) ∧ Hid (∃ base, wr.ownsRow base 25 8 (.slice A1 L.length c1) L.length (rows8 L)) ∧ Hid (Below w.heap.size w wr)) (fun i _ _ _ => L.length - (intOf i).toNat)
      case atStart => exact ⟨0, by omega, rfl, rfl, rfl, HA1, ⟨_, HO.out⟩, HB1⟩
      case round =>
        obtain ⟨k, hk, rfl, rfl, rfl, hA, hO, hB⟩ := hrel
        obtain ⟨base, hO⟩ := hO.out
        have hO := Lib.hid hO
        have hbd := bestN_bd hs need wk.toNat L k
        by_cases hlt : k < L.length
        · have d1 : decide ((k : Int) < (L.length : Int)) = true := by simp; omega
          obtain ⟨g, rfl, hg⟩ := hA1 (by omega)
          have k0 : (0 : Int) ≤ (k : Int) := by omega
          have k1 : (k : Int) < (L.length : Int) := by omega
          have K8 := Lib.hid (HK8.out k hlt)
          have LE8 := Lib.hid (less8 hs (L.getD k []))
          have W8 := Lib.hid (weeks8 LE8.out need wk.toNat)
          have HIW := Lib.hid (holes_info W8.out.len)
          have hc := cnt_bd (weeks (less hs (L.getD k [])) need wk.toNat) 64
          have HN : Hid (bestN hs need wk.toNat L (k + 1) = if (bestN hs need wk.toNat L k).2 < 0 ∨ cnt (weeks (less hs (L.getD k [])) need wk.toNat) 64 < (bestN hs need wk.toNat L k).2 then ((k : Int), cnt (weeks (less hs (L.getD k [])) need wk.toNat) 64) else bestN hs need wk.toNat L k) := rfl
          have hz := hB.out.size
          have e0 := (own_get hO.out (rows8_get0 HALL.out hlt)).1
          have e1 := (own_get hO.out (rows8_get HALL.out hlt (show 1 < 8 by decide))).1
          have e2 := (own_get hO.out (rows8_get HALL.out hlt (show 2 < 8 by decide))).1
          have e3 := (own_get hO.out (rows8_get HALL.out hlt (show 3 < 8 by decide))).1
          have e4 := (own_get hO.out (rows8_get HALL.out hlt (show 4 < 8 by decide))).1
          have e5 := (own_get hO.out (rows8_get HALL.out hlt (show 5 < 8 by decide))).1
          have e6 := (own_get hO.out (rows8_get HALL.out hlt (show 6 < 8 by decide))).1
          have e7 := (own_get hO.out (rows8_get HALL.out hlt (show 7 < 8 by decide))).1
          have c1' := c_without hs (L.getD k []) H8.out K8.out
          rw [nums_eight (k := .u8) K8.out.len] at c1'
          have C1 := fun wq => Lib.hid (c1' wq)
          have c2' := c_iWeeksLater (less hs (L.getD k [])) need wk
          rw [weeksF_yes Q1.out Q2.out] at c2'
          have C2 := fun wq => Lib.hid (c2' wq LE8.out)
          have C3 := fun wq => Lib.hid (c_iCountHoles (weeks (less hs (L.getD k [])) need wk.toNat) wq W8.out)
          clear c1' c2'
          generalize gi (L.getD k []) 0 = z0 at *
          generalize gi (L.getD k []) 1 = z1 at *
          generalize gi (L.getD k []) 2 = z2 at *
          generalize gi (L.getD k []) 3 = z3 at *
          generalize gi (L.getD k []) 4 = z4 at *
          generalize gi (L.getD k []) 5 = z5 at *
          generalize gi (L.getD k []) 6 = z6 at *
          generalize gi (L.getD k []) 7 = z7 at *

          generalize L.getD k [] = S at *
          generalize hcn : cnt (weeks (less hs S) need wk.toNat) 64 = m at *
          generalize hbn : bestN hs need wk.toNat L k = r at *
          obtain ⟨r1, r2⟩ := r
          clear hcn hbn
          simp only at hbd HN ⊢
          have HN' := HN.out
          by_cases hneg : r2 < 0
          · have dn : decide (r2 < 0) = true := by simpa using hneg
            have HX := Lib.hid (HN'.trans (if_pos (.inl hneg)))
            clear HN' HN
            go_wp2_with (first
              | (refine wpList_load_row rfl 25 (.tmp 3) rfl (w.heap.size) rfl 25 (nums .u8 hs).toArray (0, 0) _ ?_ Try.underlying25 rfl HI.out ?_; (exact blk_alloc hA.out _))
              | (go_at_call 41; ((with_reducible refine (C1 _).out.mono ?_); rintro e w2 ⟨rfl, hb1⟩; have hA := Lib.hid (blk_below (blk_alloc hA.out _) hb1); have hO := Lib.hid (own_below (hO.out.alloc _) hb1); have hB := Lib.hid (below_then (hB.out.alloc hz _) hb1); clear hb1))
              | (go_at_call 11; ((with_reducible refine (C2 _).out.mono ?_); rintro e w3 ⟨rfl, hb1⟩; have hA := Lib.hid (blk_below hA.out hb1); have hO := Lib.hid (own_below hO.out hb1); have hB := Lib.hid (below_then hB.out hb1); clear hb1))
              | (refine ev_store_row rfl 25 (.tmp 13) (.tmp 39) rfl (w3.heap.size) (nums .u8 (weeks (less hs S) need wk.toNat)).toArray rfl rfl 25 _ (heap_alloc_new w3 _) HIW.out (by simp [nums, W8.out.len]) (nums_one _ _) ?_; intro w4 hblk ht; have hb1 := tou_newS ht; clear ht; have hA := Lib.hid (blk_below hA.out hb1); have hO := Lib.hid (own_below hO.out hb1); have hB := Lib.hid (below_then hB.out hb1); clear hb1; have hT := Lib.hid hblk; clear hblk)
              | (refine wpList_load_row rfl 25 (.tmp 13) rfl _ rfl 25 (nums .u8 (weeks (less hs S) need wk.toNat)).toArray (0, 0) _ ?_ Try.underlying25 rfl HIW.out ?_; (with_reducible exact hT.out))
              | (go_at_call 16; ((with_reducible refine (C3 _).out.mono ?_); rintro e w5 ⟨rfl, hb1⟩; have hA := Lib.hid (blk_below hA.out hb1); have hO := Lib.hid (own_below hO.out hb1); have hB := Lib.hid (below_then hB.out hb1); clear hb1)))
            go_roundw
            case rel => exact ⟨k + 1, by omega, by go_num, by rw [HX.out], by rw [HX.out], hA, ⟨_, hO.out⟩, hB⟩
            case measure => simp [intOf]; omega
          · have dn : decide (r2 < 0) = false := by simpa using hneg
            by_cases hless : m < r2
            · have dl : decide (m < r2) = true := by simpa using hless
              have HX := Lib.hid (HN'.trans (if_pos (.inr hless)))
              clear HN' HN
              go_wp2_with (first
              | (refine wpList_load_row rfl 25 (.tmp 3) rfl (w.heap.size) rfl 25 (nums .u8 hs).toArray (0, 0) _ ?_ Try.underlying25 rfl HI.out ?_; (exact blk_alloc hA.out _))
              | (go_at_call 41; ((with_reducible refine (C1 _).out.mono ?_); rintro e w2 ⟨rfl, hb1⟩; have hA := Lib.hid (blk_below (blk_alloc hA.out _) hb1); have hO := Lib.hid (own_below (hO.out.alloc _) hb1); have hB := Lib.hid (below_then (hB.out.alloc hz _) hb1); clear hb1))
              | (go_at_call 11; ((with_reducible refine (C2 _).out.mono ?_); rintro e w3 ⟨rfl, hb1⟩; have hA := Lib.hid (blk_below hA.out hb1); have hO := Lib.hid (own_below hO.out hb1); have hB := Lib.hid (below_then hB.out hb1); clear hb1))
              | (refine ev_store_row rfl 25 (.tmp 13) (.tmp 39) rfl (w3.heap.size) (nums .u8 (weeks (less hs S) need wk.toNat)).toArray rfl rfl 25 _ (heap_alloc_new w3 _) HIW.out (by simp [nums, W8.out.len]) (nums_one _ _) ?_; intro w4 hblk ht; have hb1 := tou_newS ht; clear ht; have hA := Lib.hid (blk_below hA.out hb1); have hO := Lib.hid (own_below hO.out hb1); have hB := Lib.hid (below_then hB.out hb1); clear hb1; have hT := Lib.hid hblk; clear hblk)
              | (refine wpList_load_row rfl 25 (.tmp 13) rfl _ rfl 25 (nums .u8 (weeks (less hs S) need wk.toNat)).toArray (0, 0) _ ?_ Try.underlying25 rfl HIW.out ?_; (with_reducible exact hT.out))
              | (go_at_call 16; ((with_reducible refine (C3 _).out.mono ?_); rintro e w5 ⟨rfl, hb1⟩; have hA := Lib.hid (blk_below hA.out hb1); have hO := Lib.hid (own_below hO.out hb1); have hB := Lib.hid (below_then hB.out hb1); clear hb1)))
              go_roundw
              case rel => exact ⟨k + 1, by omega, by go_num, by rw [HX.out], by rw [HX.out], hA, ⟨_, hO.out⟩, hB⟩
              case measure => simp [intOf]; omega
            · have dl : decide (m < r2) = false := by simpa using hless
              have HX := Lib.hid (HN'.trans (if_neg (fun h => h.elim hneg hless)))
              clear HN' HN
              go_wp2_with (first
              | (refine wpList_load_row rfl 25 (.tmp 3) rfl (w.heap.size) rfl 25 (nums .u8 hs).toArray (0, 0) _ ?_ Try.underlying25 rfl HI.out ?_; (exact blk_alloc hA.out _))
              | (go_at_call 41; ((with_reducible refine (C1 _).out.mono ?_); rintro e w2 ⟨rfl, hb1⟩; have hA := Lib.hid (blk_below (blk_alloc hA.out _) hb1); have hO := Lib.hid (own_below (hO.out.alloc _) hb1); have hB := Lib.hid (below_then (hB.out.alloc hz _) hb1); clear hb1))
              | (go_at_call 11; ((with_reducible refine (C2 _).out.mono ?_); rintro e w3 ⟨rfl, hb1⟩; have hA := Lib.hid (blk_below hA.out hb1); have hO := Lib.hid (own_below hO.out hb1); have hB := Lib.hid (below_then hB.out hb1); clear hb1))
              | (refine ev_store_row rfl 25 (.tmp 13) (.tmp 39) rfl (w3.heap.size) (nums .u8 (weeks (less hs S) need wk.toNat)).toArray rfl rfl 25 _ (heap_alloc_new w3 _) HIW.out (by simp [nums, W8.out.len]) (nums_one _ _) ?_; intro w4 hblk ht; have hb1 := tou_newS ht; clear ht; have hA := Lib.hid (blk_below hA.out hb1); have hO := Lib.hid (own_below hO.out hb1); have hB := Lib.hid (below_then hB.out hb1); clear hb1; have hT := Lib.hid hblk; clear hblk)
              | (refine wpList_load_row rfl 25 (.tmp 13) rfl _ rfl 25 (nums .u8 (weeks (less hs S) need wk.toNat)).toArray (0, 0) _ ?_ Try.underlying25 rfl HIW.out ?_; (with_reducible exact hT.out))
              | (go_at_call 16; ((with_reducible refine (C3 _).out.mono ?_); rintro e w5 ⟨rfl, hb1⟩; have hA := Lib.hid (blk_below hA.out hb1); have hO := Lib.hid (own_below hO.out hb1); have hB := Lib.hid (below_then hB.out hb1); clear hb1)))
              go_roundw
              case rel => exact ⟨k + 1, by omega, by go_num, by rw [HX.out], by rw [HX.out], hA, ⟨_, hO.out⟩, hB⟩
              case measure => simp [intOf]; omega
        · obtain hkl : k = L.length := by omega
          subst hkl
          have d1 : decide ((L.length : Int) < (L.length : Int)) = false := by simp
          generalize hbn : bestN hs need wk.toNat L L.length = r at *
          obtain ⟨r1, r2⟩ := r
          by_cases hneg : r2 < 0
          · have dn : decide (r2 < 0) = true := by simpa using hneg
            have E2 : Hid (bestF hs need wk L = (0, 0, 6)) := by rw [Hid, E.out, if_pos hneg]
            go_wp2
            refine bodyPost_ret (v := .tuple #[.int .i64 0, .int .i64 0, .int .i64 6]) (by simp [results, Try.results20, go_sem]) rfl ⟨by rw [E2.out], hB.out⟩
          · have dn : decide (r2 < 0) = false := by simpa using hneg
            have E2 : Hid (bestF hs need wk L = (r1, r2, 0)) := by rw [Hid, E.out, if_neg hneg]
            go_wp2
            refine bodyPost_ret (v := .tuple #[.int .i64 r1, .int .i64 r2, .int .i64 0]) (by simp [results, Try.results20, go_sem]) rfl ⟨by rw [E2.out], hB.out⟩
end Go.Proofs.Ytcbegcekdmmjpaa
