/- Texts laid together: LeastImpl, LeastSpec. -/
import Derived.Test.YtjhifpidbobmaaaGreatDoorMg10
/- LeastStart, the implementation's. -/
namespace Go.Proofs.YtjhifpidbobmaaaGreatDoor
open Go.RowKit
set_option linter.unusedVariables false
set_option linter.unusedSimpArgs false
set_option maxRecDepth 100000

def lpart (l p : List Int) : Nat → List Int
  | 0 => l
  | j + 1 => (lpart l p j).set j (max (gi (lpart l p j) j) (-(gi p j)))
def leastN (s t g : Nat → Int) : Nat → List Int
  | 0 => [0, 0, 0, 0, 0]
  | k + 1 => lpart (leastN s t g k) (netN s t g (k + 1)) 5
theorem lpart_five {l p : List Int} {B : Int} (hl : Five l B) (hp : Five p B) : ∀ j, j ≤ 5 → Five (lpart l p j) B
  | 0, _ => hl
  | j + 1, hj => by
    have h := lpart_five hl hp j (by omega)
    refine ⟨by simp [lpart, h.len], fun i => ?_⟩
    rw [lpart, gi_setP _ (by rw [h.len]; omega)]
    have h1 := h.bd j
    have h2 := h.bd i
    have h3 := hp.bd j
    split <;> omega
theorem Five.mono {p : List Int} {B C : Int} (h : Five p B) (hc : B ≤ C) : Five p C := ⟨h.len, fun i => by have := h.bd i; omega⟩
theorem leastN_five {s t g : Nat → Int} {n : Nat} (hn : n ≤ 60) (h : ∀ j, j < n → okMove (s j) (t j) (g j) = true) : ∀ k, k ≤ n → Five (leastN s t g k) 600000
  | 0, _ => (netN_five h 0 (by omega)).mono (by omega)
  | k + 1, hk => lpart_five (leastN_five hn h k (by omega)) ((netN_five h (k + 1) hk).mono (by omega)) 5 (Nat.le_refl _)
def leastR (n : Nat) (s t g : Nat → Int) : List Int × Int := if (allB n (fun j => okMove (s j) (t j) (g j)) && decide (n ≤ 60)) = true then (leastN s t g n, 0) else ([0, 0, 0, 0, 0], 1)
theorem leastR_five (n : Nat) (s t g : Nat → Int) : (leastR n s t g).1.length = 5 := by
  unfold leastR
  split
  · rename_i h
    simp only [Bool.and_eq_true] at h
    exact (leastN_five (of_decide_eq_true h.2) (allB_get h.1) n (Nat.le_refl _)).len
  · rfl

set_option maxHeartbeats 1600000 in
theorem c_iLeastStart (A : Option Addr) (n c : Nat) (s t g : Nat → Int) (w : World) (h : MovesAt w A n s t g) (hn : n ≤ 1048576) (hg : ∀ j, j < n → (-32768 ≤ g j ∧ g j ≤ 32767) ∧ (-128 ≤ s j ∧ s j ≤ 127) ∧ (-128 ≤ t j ∧ t j ≤ 127)) :
    Calls Tryz.prog 8 #[.slice A n c] w fun e w' => e = .returned (.tuple #[.agg (nums .i32 (leastR n s t g).1).toArray, .int .i64 (leastR n s t g).2]) ∧ Below w.heap.size w w' := by
  have H := Lib.hid h
  have HG := Lib.hid hg
  have HR := Lib.hid (heap_alloc_new w (.cells #[.int .i32 0, .int .i32 0, .int .i32 0, .int .i32 0, .int .i32 0] 30 (0, 0)))
  have HB0 : Hid (Below w.heap.size w (w.alloc (.cells #[.int .i32 0, .int .i32 0, .int .i32 0, .int .i32 0, .int .i32 0] 30 (0, 0)))) := below_alloc (Below.refl _ _) _
  have HI0 := Lib.hid (places_info (p := [0, 0, 0, 0, 0]) rfl)
  clear h hg
  have cv := c_iValidMoves A n c s t g _ (H.out.below HB0.out) hn HG.out
  cases hok : (allB n (fun j => okMove (s j) (t j) (g j)) && decide (n ≤ 60))
  · have E : Hid (leastR n s t g = ([0, 0, 0, 0, 0], 1)) := by rw [Hid, leastR, hok]; rfl
    rw [hok] at cv
    have CV := Lib.hid cv
    clear cv hok
    go_enter Tryz.func8, Tryz.ntmps8
    go_wp2_with (first
      | (go_at_call 18; ((with_reducible refine CV.out.mono ?_); rintro e w1 ⟨rfl, hb⟩; have HR := Lib.hid (blk_below HR.out hb)))
      | (refine ev_store_row rfl 30 (.tmp 2) (.tmp 13) rfl (w.heap.size) (nums .i32 [0, 0, 0, 0, 0]).toArray rfl rfl 30 #[.int .i32 0, .int .i32 0, .int .i32 0, .int .i32 0, .int .i32 0] ?_ HI0.out (Eq.refl (5 : Nat)) (nums_one _ _) ?_; (with_reducible exact HR.out); intro w2 hblk ht; have HR3 := Lib.hid hblk; clear hblk))
    refine bodyPost_ret (v := .tuple #[.agg (nums .i32 [0, 0, 0, 0, 0]).toArray, .int .i64 1]) (results_ct rfl _ _ (w.heap.size) 30 (nums .i32 [0, 0, 0, 0, 0]).toArray (0, 0) _ rfl (by with_reducible exact HR3.out) Tryz.underlying30 rfl HI0.out rfl) rfl ⟨by rw [E.out], Below.trans (by (repeat (first | with_reducible exact Below.refl _ _ | with_reducible refine below_alloc ?_ _ | with_reducible refine below_drew ?_ | with_reducible refine below_drewN ?_ _ | with_reducible refine below_then ?_ (by assumption)))) (ht.below (Nat.le_refl _))⟩
  · have E : Hid (leastR n s t g = (leastN s t g n, 0)) := by rw [Hid, leastR, hok]; rfl
    have hok2 : allB n (fun j => okMove (s j) (t j) (g j)) = true ∧ decide (n ≤ 60) = true := by simpa only [Bool.and_eq_true] using hok
    have HOK := Lib.hid (allB_get hok2.1)
    have hn60 : n ≤ 60 := of_decide_eq_true hok2.2
    have HF := Lib.hid (netN_five (s := s) (t := t) (g := g) HOK.out)
    have HL := Lib.hid (leastN_five (s := s) (t := t) (g := g) hn60 HOK.out)
    rw [hok] at cv
    have CV := Lib.hid cv
    clear hok2 cv hok
    go_enter Tryz.func8, Tryz.ntmps8
    go_wp2_with (go_at_call 18; ((with_reducible refine CV.out.mono ?_); rintro e w1 ⟨rfl, hb⟩; have HR := Lib.hid (blk_below HR.out hb); have HB1 := Lib.hid (Below.trans HB0.out (hb.mono HB0.out.size))))
    clear hb
    have hsz : w.heap.size < w1.heap.size := blk_lt HR.out
    have hz2 := heap_alloc_new (w1.alloc (.cells #[.int .i32 0, .int .i32 0, .int .i32 0, .int .i32 0, .int .i32 0] 30 (0, 0))) (.cells #[.int .i32 0, .int .i32 0, .int .i32 0, .int .i32 0, .int .i32 0] 30 (0, 0))
    rw [World.size_alloc] at hz2
    go_loopw [16] (fun i wr => ∃ k : Nat, k ≤ n ∧ i = .int .i64 k ∧ Hid (wr.heap[w1.heap.size]? = some (.cells (nums .i32 (netN s t g k)).toArray 30 (0, 0))) ∧ Hid (wr.heap[w1.heap.size + 1]? = some (.cells (nums .i32 (leastN s t g k)).toArray 30 (0, 0))) ∧ Hid (wr.heap[w.heap.size]? = some (.cells #[.int .i32 0, .int .i32 0, .int .i32 0, .int .i32 0, .int .i32 0] 30 (0, 0))) ∧ Hid (Below w.heap.size w wr)) (fun i _ => n - (intOf i).toNat)
    case atStart => exact ⟨0, by omega, rfl, blk_alloc (heap_alloc_new w1 _) _, hz2, blk_alloc (blk_alloc HR.out _) _, (HB1.out.alloc (by omega) _).alloc (by simp; omega) _⟩
    case round =>
      obtain ⟨k, hk, rfl, hH, hT, hR, hB⟩ := hrel
      have b1 := blk_lt hT.out
      have HIk := Lib.hid (places_info (HF.out k hk).len)
      by_cases hlt : k < n
      · have d1 : decide ((k : Int) < (n : Int)) = true := by simp; omega
        obtain ⟨ad, rfl, c0, c1, c2⟩ := (H.out.below hB.out).at_ k hlt
        obtain ⟨⟨s0, s1⟩, ⟨t0, t1⟩, g0, g1⟩ := okMove_all (HOK.out k hlt)
        obtain ⟨a, ha⟩ := Int.eq_ofNat_of_zero_le s0
        obtain ⟨b, hb⟩ := Int.eq_ofNat_of_zero_le t0
        have ha5 : a < 5 := by omega
        have hb5 : b < 5 := by omega
        rw [ha] at c0
        rw [hb] at c1
        have HN : Hid (netN s t g (k + 1) = stepP (netN s t g k) a b (g k)) := by rw [Hid, netN, ha, hb]
        have f5 : Five (netN s t g k) 610000 := (HF.out k hk).mono (by omega)
        have CM := fun w => Lib.hid (c_moved (netN s t g k) a b (g k) w f5 ha5 hb5 ⟨g0, g1⟩)
        have f6 : Five (netN s t g (k + 1)) 600000 := (HF.out (k + 1) hlt).mono (by omega)
        have HI1 := Lib.hid (places_info (HF.out (k + 1) hlt).len)
        have L0 := Lib.hid (HF.out k hk).len
        have L1 := Lib.hid (HF.out (k + 1) hlt).len
        have HLP := Lib.hid (lpart_five (HL.out k hk) f6)
        have HF6 := Lib.hid f6
        have k0 : (0 : Int) ≤ (k : Int) := by omega
        have k1 : (k : Int) < (n : Int) := by omega
        have hsz2 : w.heap.size ≤ wr.heap.size := hB.out.size
        clear s0 s1 t0 t1 ha hb f5 f6
        go_wp2_with (first
          | (refine wpList_load_row rfl 30 (.tmp 4) rfl (w1.heap.size) rfl 30 (nums .i32 (netN s t g k)).toArray (0, 0) _ ?_ Tryz.underlying30 rfl HIk.out ?_; (exact blk_alloc hH.out _))
          | (go_at_call 35; ((with_reducible refine (CM _).out.mono ?_); rintro e w2 ⟨rfl, hb⟩; have hH := Lib.hid (blk_below (blk_alloc hH.out _) hb); have hT := Lib.hid (blk_below (blk_alloc hT.out _) hb); have hR := Lib.hid (blk_below (blk_alloc hR.out _) hb); have hB2 := Lib.hid (Below.trans (hB.out.alloc hsz2 _) (hb.mono (by simp; omega)))))
          | (refine ev_store_row rfl 30 (.tmp 4) (.tmp 22) rfl (w1.heap.size) (nums .i32 (stepP (netN s t g k) a b (g k))).toArray rfl rfl 30 (nums .i32 (netN s t g k)).toArray ?_ (HN.out ▸ HI1.out) (by rw [← HN.out]; simp [nums, L0.out, L1.out]) (nums_one _ _) ?_; (with_reducible exact hH.out); intro w3 hblk ht; have hH3 := Lib.hid hblk; have hT3 := Lib.hid (blk_tou hT.out ht (by omega)); have hR3 := Lib.hid (blk_tou hR.out ht (by omega)); have hB3 : Hid (Below w.heap.size w w3) := Below.trans hB2.out (ht.below (by omega)); clear hblk)
          | (refine wpList_load_row rfl 30 (.tmp 4) rfl (w1.heap.size) rfl 30 (nums .i32 (stepP (netN s t g k) a b (g k))).toArray (0, 0) _ ?_ Tryz.underlying30 rfl (HN.out ▸ HI1.out) ?_; (with_reducible exact hH3.out)))
        have F6 : Hid (Five (stepP (netN s t g k) a b (g k)) 600000) := by rw [Hid, ← HN.out]; exact HF6.out
        have HLP2 : Hid (∀ j, j ≤ 5 → Five (lpart (leastN s t g k) (stepP (netN s t g k) a b (g k)) j) 600000) := by rw [Hid, ← HN.out]; exact HLP.out
        have HS : Hid (leastN s t g (k + 1) = lpart (leastN s t g k) (stepP (netN s t g k) a b (g k)) 5) := by rw [Hid, leastN, HN.out]
        have HH0 : Hid (w3.heap[w1.heap.size]? = some (.cells (nums .i32 (netN s t g (k + 1))).toArray 30 (0, 0))) := by rw [Hid, HN.out]; exact hH3.out
        clear HIk HI1 L0 L1 HLP HF6 c0 c1 c2 CM hH hT hR hB hH3
        generalize stepP (netN s t g k) a b (g k) = p at *
        generalize leastN s t g k = l at *
        obtain ⟨wo, rfl⟩ : ∃ wo : World, wo = w3 := ⟨_, rfl⟩
        go_loopw [24] (fun i wr => ∃ j : Nat, j ≤ 5 ∧ i = .int .i64 j ∧ Hid (wr.heap[w1.heap.size + 1]? = some (.cells (nums .i32 (lpart l p j)).toArray 30 (0, 0))) ∧ Hid (wr.heap[w1.heap.size]? = some (.cells (nums .i32 (netN s t g (k + 1))).toArray 30 (0, 0))) ∧ Hid (wr.heap[w.heap.size]? = some (.cells #[.int .i32 0, .int .i32 0, .int .i32 0, .int .i32 0, .int .i32 0] 30 (0, 0))) ∧ Hid (Below w.heap.size w wr)) (fun i _ => 5 - (intOf i).toNat)
        case atStart => exact ⟨0, by omega, rfl, hT3.out, HH0.out, hR3.out, hB3.out⟩
        case round =>
          obtain ⟨j, hj, rfl, hT4, hH4, hR4, hB4⟩ := hrel
          by_cases hlt2 : j < 5
          · have d2 : decide ((j : Int) < 5) = true := by simp; omega
            have f := HLP2.out j hj
            have ct := nums_cell hT4.out j (by rw [f.len]; exact hlt2)
            have ft := blk_frozen hT4.out j
            obtain ⟨x0, x1⟩ := f.bd j
            obtain ⟨y0, y1⟩ := F6.out.bd j
            have e1 : (nums .i32 p).toArray[j]? = some (.int .i32 (gi p j)) := by
              have := nums_at (k := .i32) (xs := p) j (by rw [F6.out.len]; exact hlt2)
              simpa using this
            have hix := fun w => run_index_arr (P := Tryz.prog) Tryz.underlying30 Tryz.underlying21 (by kernel_rfl) w _ j hlt2 _ e1 .i64
            have j0 : (0 : Int) ≤ (j : Int) := by omega
            have j1 : (j : Int) < 5 := by omega
            have HS1 : Hid (lpart l p (j + 1) = (lpart l p j).set j (max (gi (lpart l p j) j) (-(gi p j)))) := rfl
            clear e1
            by_cases hm : gi (lpart l p j) j < -(gi p j)
            · have EM : Hid (max (gi (lpart l p j) j) (-(gi p j)) = -(gi p j)) := by rw [Hid]; omega
              go_wp2
              go_roundw
              case rel =>
                refine ⟨j + 1, by omega, by go_num, ?_, blk_far hH4.out (by omega) j _, blk_far hR4.out (by omega) j _, hB4.out.setCell (by simp; omega) _⟩
                have := blk_set hT4.out j (.int .i32 (-(gi p j)))
                rw [nums_set] at this
                rw [Hid, HS1.out, EM.out]
                exact this
              case measure => simp [intOf]; omega
            · have EM : Hid (max (gi (lpart l p j) j) (-(gi p j)) = gi (lpart l p j) j) := by rw [Hid]; omega
              go_wp2
              go_roundw
              case rel =>
                refine ⟨j + 1, by omega, by go_num, ?_, blk_far hH4.out (by omega) j _, blk_far hR4.out (by omega) j _, hB4.out.setCell (by simp; omega) _⟩
                have := blk_set hT4.out j (.int .i32 (gi (lpart l p j) j))
                rw [nums_set] at this
                rw [Hid, HS1.out, EM.out]
                exact this
              case measure => simp [intOf]; omega
          · obtain rfl : j = 5 := by omega
            go_wp2
            go_roundw
            case rel => exact ⟨k + 1, by omega, by go_num, hH4, by rw [HS.out]; exact hT4, hR4, hB4⟩
            case measure => simp [intOf]; omega
      · obtain rfl : k = n := by omega
        have d1 : decide ((k : Int) < (k : Int)) = false := by simp
        have L0 := Lib.hid (HL.out k hk).len
        have HIl := Lib.hid (places_info L0.out)
        go_wp2_with (first
          | (refine wpList_load_row rfl 30 (.tmp 5) rfl (w1.heap.size + 1) rfl 30 (nums .i32 (leastN s t g k)).toArray (0, 0) _ ?_ Tryz.underlying30 rfl HIl.out ?_; (with_reducible exact hT.out))
          | (refine ev_store_row rfl 30 (.tmp 2) (.tmp 38) rfl (w.heap.size) (nums .i32 (leastN s t g k)).toArray rfl rfl 30 #[.int .i32 0, .int .i32 0, .int .i32 0, .int .i32 0, .int .i32 0] ?_ HIl.out (by simp [nums, L0.out]) (nums_one _ _) ?_; (with_reducible exact hR.out); intro w3 hblk ht; have hR3 := Lib.hid hblk; clear hblk))
        refine bodyPost_ret (v := .tuple #[.agg (nums .i32 (leastN s t g k)).toArray, .int .i64 0]) (results_ct rfl _ _ (w.heap.size) 30 (nums .i32 (leastN s t g k)).toArray (0, 0) _ rfl (by with_reducible exact hR3.out) Tryz.underlying30 rfl HIl.out rfl) rfl ⟨by rw [E.out], hB.out.trans (ht.below (Nat.le_refl _))⟩
end Go.Proofs.YtjhifpidbobmaaaGreatDoor
/- LeastStart, the reference's. -/
namespace Go.Proofs.YtjhifpidbobmaaaGreatDoor
open Go.RowKit
set_option linter.unusedVariables false
set_option linter.unusedSimpArgs false
set_option maxRecDepth 100000

theorem c_l00MaxV (a b : Int) (w : World) : Calls Tryz.prog 37 #[.int .i64 a, .int .i64 b] w fun e w' => e = .returned (.int .i64 (max a b)) ∧ w' = w := by
  by_cases h : b < a
  · have E : Hid (max a b = a) := by rw [Hid]; omega
    go_enter Tryz.func37, Tryz.ntmps37
    go_wp2
    go_ret
    exact ⟨by rw [E.out]; rfl, rfl⟩
  · have E : Hid (max a b = b) := by rw [Hid]; omega
    go_enter Tryz.func37, Tryz.ntmps37
    go_wp2
    go_ret
    exact ⟨by rw [E.out]; rfl, rfl⟩
set_option maxHeartbeats 1600000 in
theorem c_sLeastStart (A : Option Addr) (n c : Nat) (s t g : Nat → Int) (w : World) (h : MovesAt w A n s t g) (hn : n ≤ 1048576) (hg : ∀ j, j < n → (-32768 ≤ g j ∧ g j ≤ 32767) ∧ (-128 ≤ s j ∧ s j ≤ 127) ∧ (-128 ≤ t j ∧ t j ≤ 127)) :
    Calls Tryz.prog 9 #[.slice A n c] w fun e w' => e = .returned (.tuple #[.agg (nums .i32 (leastR n s t g).1).toArray, .int .i64 (leastR n s t g).2]) ∧ Below w.heap.size w w' := by
  have H := Lib.hid h
  have HG := Lib.hid hg
  have HR := Lib.hid (blk_alloc (heap_alloc_new w (.cells #[.int .i32 0, .int .i32 0, .int .i32 0, .int .i32 0, .int .i32 0] 30 (0, 0))) (.cells #[.int .i32 0, .int .i32 0, .int .i32 0, .int .i32 0, .int .i32 0] 30 (0, 0)))
  have ho := heap_alloc_new (w.alloc (.cells #[.int .i32 0, .int .i32 0, .int .i32 0, .int .i32 0, .int .i32 0] 30 (0, 0))) (.cells #[.int .i32 0, .int .i32 0, .int .i32 0, .int .i32 0, .int .i32 0] 30 (0, 0))
  rw [World.size_alloc] at ho
  have HO := Lib.hid ho
  have HB0 : Hid (Below w.heap.size w ((w.alloc (.cells #[.int .i32 0, .int .i32 0, .int .i32 0, .int .i32 0, .int .i32 0] 30 (0, 0))).alloc (.cells #[.int .i32 0, .int .i32 0, .int .i32 0, .int .i32 0, .int .i32 0] 30 (0, 0)))) := below_alloc (below_alloc (Below.refl _ _) _) _
  have HI0 := Lib.hid (places_info (p := [0, 0, 0, 0, 0]) rfl)
  clear h hg ho
  have cv := c_l07Moves A n c s t g _ (H.out.below HB0.out) hn HG.out
  cases hok : (allB n (fun j => okMove (s j) (t j) (g j)) && decide (n ≤ 60))
  · have E : Hid (leastR n s t g = ([0, 0, 0, 0, 0], 1)) := by rw [Hid, leastR, hok]; rfl
    rw [hok] at cv
    have CV := Lib.hid cv
    clear cv hok
    go_enter Tryz.func9, Tryz.ntmps9
    go_wp2_with (first
      | (go_at_call 36; ((with_reducible refine CV.out.mono ?_); rintro e w1 ⟨rfl, hb⟩; have HR := Lib.hid (blk_below HR.out hb); have HO := Lib.hid (blk_below HO.out hb)))
      | (refine wpList_load_row rfl 30 (.tmp 4) rfl (w.heap.size + 1) rfl 30 #[.int .i32 0, .int .i32 0, .int .i32 0, .int .i32 0, .int .i32 0] (0, 0) _ ?_ Tryz.underlying30 rfl HI0.out ?_; (with_reducible exact HO.out))
      | (refine ev_store_row rfl 30 (.tmp 2) (.tmp 12) rfl (w.heap.size) (nums .i32 [0, 0, 0, 0, 0]).toArray rfl rfl 30 #[.int .i32 0, .int .i32 0, .int .i32 0, .int .i32 0, .int .i32 0] ?_ HI0.out (Eq.refl (5 : Nat)) (nums_one _ _) ?_; (with_reducible exact HR.out); intro w2 hblk ht; have HR3 := Lib.hid hblk; clear hblk))
    refine bodyPost_ret (v := .tuple #[.agg (nums .i32 [0, 0, 0, 0, 0]).toArray, .int .i64 1]) (results_ct rfl _ _ (w.heap.size) 30 (nums .i32 [0, 0, 0, 0, 0]).toArray (0, 0) _ rfl (by with_reducible exact HR3.out) Tryz.underlying30 rfl HI0.out rfl) rfl ⟨by rw [E.out], Below.trans (by (repeat (first | with_reducible exact Below.refl _ _ | with_reducible refine below_alloc ?_ _ | with_reducible refine below_drew ?_ | with_reducible refine below_drewN ?_ _ | with_reducible refine below_then ?_ (by assumption)))) (ht.below (Nat.le_refl _))⟩
  · have E : Hid (leastR n s t g = (leastN s t g n, 0)) := by rw [Hid, leastR, hok]; rfl
    have hok2 : allB n (fun j => okMove (s j) (t j) (g j)) = true ∧ decide (n ≤ 60) = true := by simpa only [Bool.and_eq_true] using hok
    have HOK := Lib.hid (allB_get hok2.1)
    have hn60 : n ≤ 60 := of_decide_eq_true hok2.2
    have HF := Lib.hid (netN_five (s := s) (t := t) (g := g) HOK.out)
    rw [hok] at cv
    have CV := Lib.hid cv
    clear cv hok hok2
    go_enter Tryz.func9, Tryz.ntmps9
    go_wp2_with (go_at_call 36; ((with_reducible refine CV.out.mono ?_); rintro e w1 ⟨rfl, hb⟩; have HR := Lib.hid (blk_below HR.out hb); have HO := Lib.hid (blk_below HO.out hb); have HB1 := Lib.hid (Below.trans HB0.out (hb.mono HB0.out.size))))
    clear hb
    have hsz : w.heap.size < w1.heap.size := blk_lt HR.out
    have hO1 := blk_lt HO.out
    go_loopw [6] (fun i wr => ∃ k : Nat, k ≤ n ∧ i = .int .i64 k ∧ Hid (wr.heap[w1.heap.size]? = some (.cells (nums .i64 (netN s t g k)).toArray 64 (0, 0))) ∧ Hid (wr.heap[w.heap.size + 1]? = some (.cells (nums .i32 (leastN s t g k)).toArray 30 (0, 0))) ∧ Hid (wr.heap[w.heap.size]? = some (.cells #[.int .i32 0, .int .i32 0, .int .i32 0, .int .i32 0, .int .i32 0] 30 (0, 0))) ∧ Hid (Below w.heap.size w wr)) (fun i _ => n - (intOf i).toNat)
    case atStart => exact ⟨0, by omega, rfl, heap_alloc_new w1 _, blk_alloc HO.out _, blk_alloc HR.out _, HB1.out.alloc (by omega) _⟩
    case round =>
      obtain ⟨k, hk, rfl, hH, hT, hR, hB⟩ := hrel
      have hT0 := blk_lt hT.out
      have HL := Lib.hid (leastN_five (s := s) (t := t) (g := g) hn60 HOK.out)
      by_cases hlt : k < n
      · have d1 : decide ((k : Int) < (n : Int)) = true := by simp; omega
        obtain ⟨ad, rfl, c0, c1, c2⟩ := (H.out.below hB.out).at_ k hlt
        obtain ⟨⟨s0, s1⟩, ⟨t0, t1⟩, g0, g1⟩ := okMove_all (HOK.out k hlt)
        obtain ⟨a, ha⟩ := Int.eq_ofNat_of_zero_le s0
        obtain ⟨b, hb⟩ := Int.eq_ofNat_of_zero_le t0
        have ha5 : a < 5 := by omega
        have hb5 : b < 5 := by omega
        rw [ha] at c0
        rw [hb] at c1
        have HN : Hid (netN s t g (k + 1) = stepP (netN s t g k) a b (g k)) := by rw [Hid, netN, ha, hb]
        have f5 := HF.out k hk
        have f6 := f5.addAt a (v := -(g k)) (V := 5000) ha5 (by omega) (by omega)
        obtain ⟨v0, v1⟩ := f5.bd a
        obtain ⟨v2, v3⟩ := f6.bd b
        have v0' : -600000 ≤ gi (netN s t g k) a := by omega
        have v1' : gi (netN s t g k) a ≤ 600000 := by omega
        have v2' : -610000 ≤ gi (addAtP (netN s t g k) a (-(g k))) b := by omega
        have v3' : gi (addAtP (netN s t g k) a (-(g k))) b ≤ 610000 := by omega
        have L0 := Lib.hid f5.len
        have L6 := Lib.hid f6.len
        have a0 : (0 : Int) ≤ (a : Int) := by omega
        have a1 : (a : Int) < 5 := by omega
        have b0 : (0 : Int) ≤ (b : Int) := by omega
        have b1 : (b : Int) < 5 := by omega
        have k0 : (0 : Int) ≤ (k : Int) := by omega
        have k1 : (k : Int) < (n : Int) := by omega
        have HTB := Lib.hid hb
        clear s0 s1 t0 t1 ha hb f5 f6 v0 v1 v2 v3
        have ca := nums_cell hH.out a (by rw [L0.out]; exact ha5)
        have fa := blk_frozen hH.out a
        have HS : Hid (stepP (netN s t g k) a b (g k) = (addAtP (netN s t g k) a (-(g k))).set b (gi (addAtP (netN s t g k) a (-(g k))) b + g k)) := rfl
        have HS1 : Hid (addAtP (netN s t g k) a (-(g k)) = (netN s t g k).set a (gi (netN s t g k) a + -(g k))) := rfl
        have HLP2 : Hid (∀ j, j ≤ 5 → Five (lpart (leastN s t g k) (netN s t g (k + 1)) j) 600000) := lpart_five (HL.out k hk) ((HF.out (k + 1) hlt).mono (by omega))
        have HF6 : Hid (Five (netN s t g (k + 1)) 600000) := (HF.out (k + 1) hlt).mono (by omega)
        have HLS : Hid (leastN s t g (k + 1) = lpart (leastN s t g k) (netN s t g (k + 1)) 5) := rfl
        generalize netN s t g k = q at *
        generalize hz : g k = z at *
        have HZk := Lib.hid hz
        clear hz
        go_wp2
        go_still_tail 15, (by kernel_rfl)
        change wpList _ _ _ _ _ wr.drew
        have hH1 : Hid (wr.drew.heap[w1.heap.size]? = some (.cells (nums .i64 q).toArray 64 (0, 0))) := hH.out
        have hT1 : Hid (wr.drew.heap[w.heap.size + 1]? = some (.cells (nums .i32 (leastN s t g k)).toArray 30 (0, 0))) := hT.out
        have hR1 : Hid (wr.drew.heap[w.heap.size]? = some (.cells #[.int .i32 0, .int .i32 0, .int .i32 0, .int .i32 0, .int .i32 0] 30 (0, 0))) := hR.out
        have hB1 : Hid (Below w.heap.size w wr.drew) := below_drew hB.out
        have ca' : wr.drew.cell? ⟨w1.heap.size, a, none⟩ = some (.int .i64 (gi q a)) := ca
        have fa' : wr.drew.frozen? ⟨w1.heap.size, a, none⟩ = false := fa
        clear c0 c1 c2 ca fa hH hT hR hB
        generalize wr.drew = wd at *
        go_wp2
        have hH2 : Hid ((wd.setCell ⟨w1.heap.size, a, none⟩ (.int .i64 (gi q a - z))).heap[w1.heap.size]? = some (.cells (nums .i64 (addAtP q a (-z))).toArray 64 (0, 0))) := by
          have := blk_set hH1.out a (.int .i64 (gi q a - z))
          rw [nums_set, Int.sub_eq_add_neg] at this
          rw [Hid, Int.sub_eq_add_neg]
          exact this
        have hT2 : Hid ((wd.setCell ⟨w1.heap.size, a, none⟩ (.int .i64 (gi q a - z))).heap[w.heap.size + 1]? = _) := blk_far hT1.out (by omega) a _
        have hR2 : Hid ((wd.setCell ⟨w1.heap.size, a, none⟩ (.int .i64 (gi q a - z))).heap[w.heap.size]? = _) := blk_far hR1.out (by omega) a _
        have hB2 : Hid (Below w.heap.size w (wd.setCell ⟨w1.heap.size, a, none⟩ (.int .i64 (gi q a - z)))) := hB1.out.setCell (by simp; omega) _
        clear ca' fa' hH1 hT1 hR1 hB1
        generalize wd.setCell ⟨w1.heap.size, a, none⟩ (.int .i64 (gi q a - z)) = wb at *
        obtain ⟨ad', ead, c0, c1, c2⟩ := (H.out.below hB2.out).at_ k hlt
        obtain rfl : ad' = ad := by simpa using ead.symm
        rw [HTB.out] at c1
        rw [HZk.out] at c2
        have cb := nums_cell hH2.out b (by rw [L6.out]; exact hb5)
        have fb := blk_frozen hH2.out b
        generalize addAtP q a (-z) = q1 at *
        go_still_tail 15, (by kernel_rfl)
        change wpList _ _ _ _ _ wb.drew
        have hH3 : Hid (wb.drew.heap[w1.heap.size]? = some (.cells (nums .i64 q1).toArray 64 (0, 0))) := hH2.out
        have hT3 : Hid (wb.drew.heap[w.heap.size + 1]? = some (.cells (nums .i32 (leastN s t g k)).toArray 30 (0, 0))) := hT2.out
        have hR3 : Hid (wb.drew.heap[w.heap.size]? = some (.cells #[.int .i32 0, .int .i32 0, .int .i32 0, .int .i32 0, .int .i32 0] 30 (0, 0))) := hR2.out
        have hB3 : Hid (Below w.heap.size w wb.drew) := below_drew hB2.out
        have cb' : wb.drew.cell? ⟨w1.heap.size, b, none⟩ = some (.int .i64 (gi q1 b)) := cb
        have fb' : wb.drew.frozen? ⟨w1.heap.size, b, none⟩ = false := fb
        clear c0 c1 c2 cb fb hH2 hT2 hR2 hB2
        generalize wb.drew = we at *
        go_wp2
        have hH4 : Hid ((we.setCell ⟨w1.heap.size, b, none⟩ (.int .i64 (gi q1 b + z))).heap[w1.heap.size]? = some (.cells (nums .i64 (netN s t g (k + 1))).toArray 64 (0, 0))) := by
          have := blk_set hH3.out b (.int .i64 (gi q1 b + z))
          rw [nums_set] at this
          rw [Hid, HN.out, HS.out]
          exact this
        have hT4 : Hid ((we.setCell ⟨w1.heap.size, b, none⟩ (.int .i64 (gi q1 b + z))).heap[w.heap.size + 1]? = _) := blk_far hT3.out (by omega) b _
        have hR4 : Hid ((we.setCell ⟨w1.heap.size, b, none⟩ (.int .i64 (gi q1 b + z))).heap[w.heap.size]? = _) := blk_far hR3.out (by omega) b _
        have hB4 : Hid (Below w.heap.size w (we.setCell ⟨w1.heap.size, b, none⟩ (.int .i64 (gi q1 b + z)))) := hB3.out.setCell (by simp; omega) _
        clear cb' fb' hH3 hT3 hR3 hB3
        generalize we.setCell ⟨w1.heap.size, b, none⟩ (.int .i64 (gi q1 b + z)) = wf at *
        clear HN HS HS1 L0 L6 v0' v1' v2' v3'
        generalize leastN s t g k = l at *
        obtain ⟨p, hp⟩ : ∃ p, netN s t g (k + 1) = p := ⟨_, rfl⟩
        rw [hp] at HLP2 HF6 HLS hH4
        have HP := Lib.hid hp
        clear hp
        obtain ⟨wo, rfl⟩ : ∃ wo : World, wo = wf := ⟨_, rfl⟩
        go_loopw [7] (fun i wr => ∃ j : Nat, j ≤ 5 ∧ i = .int .i64 j ∧ Hid (wr.heap[w.heap.size + 1]? = some (.cells (nums .i32 (lpart l p j)).toArray 30 (0, 0))) ∧ Hid (wr.heap[w1.heap.size]? = some (.cells (nums .i64 p).toArray 64 (0, 0))) ∧ Hid (wr.heap[w.heap.size]? = some (.cells #[.int .i32 0, .int .i32 0, .int .i32 0, .int .i32 0, .int .i32 0] 30 (0, 0))) ∧ Hid (Below w.heap.size w wr)) (fun i _ => 5 - (intOf i).toNat)
        case atStart => exact ⟨0, by omega, rfl, hT4, hH4, hR4, hB4⟩
        case round =>
          obtain ⟨j, hj, rfl, hT5, hH5, hR5, hB5⟩ := hrel
          by_cases hlt2 : j < 5
          · have d2 : decide ((j : Int) < 5) = true := by simp; omega
            have f := HLP2.out j hj
            have ct := nums_cell hT5.out j (by rw [f.len]; exact hlt2)
            have ft := blk_frozen hT5.out j
            have cp := nums_cell hH5.out j (by rw [HF6.out.len]; exact hlt2)
            obtain ⟨x0, x1⟩ := f.bd j
            obtain ⟨y0, y1⟩ := HF6.out.bd j
            have j0 : (0 : Int) ≤ (j : Int) := by omega
            have j1 : (j : Int) < 5 := by omega
            have HS1 : Hid (lpart l p (j + 1) = (lpart l p j).set j (max (gi (lpart l p j) j) (-(gi p j)))) := rfl
            clear f
            go_wp2
            go_still_tail 12, (by kernel_rfl)
            still_call (c_l00MaxV _ _ _)
            repeat still_step
            refine wpStill_nil ?_
            change wpList _ _ _ _ _ wr.drew
            have hH6 : Hid (wr.drew.heap[w1.heap.size]? = some (.cells (nums .i64 p).toArray 64 (0, 0))) := hH5.out
            have hT6 : Hid (wr.drew.heap[w.heap.size + 1]? = some (.cells (nums .i32 (lpart l p j)).toArray 30 (0, 0))) := hT5.out
            have hR6 : Hid (wr.drew.heap[w.heap.size]? = some (.cells #[.int .i32 0, .int .i32 0, .int .i32 0, .int .i32 0, .int .i32 0] 30 (0, 0))) := hR5.out
            have hB6 : Hid (Below w.heap.size w wr.drew) := below_drew hB5.out
            have ct' : wr.drew.cell? ⟨w.heap.size + 1, j, none⟩ = some (.int .i32 (gi (lpart l p j) j)) := ct
            have ft' : wr.drew.frozen? ⟨w.heap.size + 1, j, none⟩ = false := ft
            clear ct ft cp hH5 hT5 hR5 hB5
            generalize wr.drew = wg at *
            go_wp2
            go_roundw
            case rel =>
              refine ⟨j + 1, by omega, by go_num, ?_, blk_far hH6.out (by omega) j _, blk_far hR6.out (by omega) j _, hB6.out.setCell (by simp) _⟩
              have := blk_set hT6.out j (.int .i32 (max (gi (lpart l p j) j) (-(gi p j))))
              rw [nums_set] at this
              rw [Hid, HS1.out]
              exact this
            case measure => simp [intOf]; omega
          · obtain rfl : j = 5 := by omega
            go_wp2
            go_roundw
            case rel => exact ⟨k + 1, by omega, by go_num, by rw [HP.out]; exact hH5, by rw [HLS.out]; exact hT5, hR5, hB5⟩
            case measure => simp [intOf]; omega
      · obtain rfl : k = n := by omega
        have d1 : decide ((k : Int) < (k : Int)) = false := by simp
        have L0 := Lib.hid (HL.out k hk).len
        have HIk := Lib.hid (places_info L0.out)
        go_wp2_with (first
          | (refine wpList_load_row rfl 30 (.tmp 4) rfl (w.heap.size + 1) rfl 30 (nums .i32 (leastN s t g k)).toArray (0, 0) _ ?_ Tryz.underlying30 rfl HIk.out ?_; (with_reducible exact hT.out))
          | (refine ev_store_row rfl 30 (.tmp 2) (.tmp 66) rfl (w.heap.size) (nums .i32 (leastN s t g k)).toArray rfl rfl 30 #[.int .i32 0, .int .i32 0, .int .i32 0, .int .i32 0, .int .i32 0] ?_ HIk.out (by simp [nums, L0.out]) (nums_one _ _) ?_; (with_reducible exact hR.out); intro w3 hblk ht; have hR3 := Lib.hid hblk; clear hblk))
        refine bodyPost_ret (v := .tuple #[.agg (nums .i32 (leastN s t g k)).toArray, .int .i64 0]) (results_ct rfl _ _ (w.heap.size) 30 (nums .i32 (leastN s t g k)).toArray (0, 0) _ rfl (by with_reducible exact hR3.out) Tryz.underlying30 rfl HIk.out rfl) rfl ⟨by rw [E.out], hB.out.trans (ht.below (Nat.le_refl _))⟩
end Go.Proofs.YtjhifpidbobmaaaGreatDoor
