/- WashOnce. -/
import Derived.Test.YtdmcemhckalhkaaWashBy
import Derived.Deep.RegionHeld3
namespace Go.Proofs.Ytdmcemhckalhkaa
open Go.RowKit
set_option linter.unusedVariables false
set_option linter.unusedSimpArgs false
set_option maxRecDepth 100000

set_option maxHeartbeats 800000 in
theorem c_sWashOnce (a b c d e p q r : Int) (w : World) (ha : -32768 ≤ a ∧ a ≤ 32767) (hb : -32768 ≤ b ∧ b ≤ 32767) :
    Calls Try.prog 25 #[.agg #[.int .i16 a, .int .i16 b, .int .i8 c, .int .i8 d, .int .i8 e], .agg #[.int .i8 p, .int .i8 q, .int .i8 r]] w fun u w' => u = .returned (.tuple #[.agg (washOnceF a b c d e p q r).1, .int .i64 (washOnceF a b c d e p q r).2]) ∧ Below w.heap.size w w' := by
  have hR : (((w.alloc (.cells #[.int .i16 a, .int .i16 b, .int .i8 c, .int .i8 d, .int .i8 e] 27 (0, 0))).alloc (.cells #[.int .i8 p, .int .i8 q, .int .i8 r] 47 (0, 0))).alloc (.cells #[.int .i16 0, .int .i16 0, .int .i8 0, .int .i8 0, .int .i8 0] 27 (0, 0))).heap[w.heap.size + 1 + 1]? = some (.cells #[.int .i16 0, .int .i16 0, .int .i8 0, .int .i8 0, .int .i8 0] 27 (0, 0)) := by
    have := heap_alloc_new ((w.alloc (.cells #[.int .i16 a, .int .i16 b, .int .i8 c, .int .i8 d, .int .i8 e] 27 (0, 0))).alloc (.cells #[.int .i8 p, .int .i8 q, .int .i8 r] 47 (0, 0))) (.cells #[.int .i16 0, .int .i16 0, .int .i8 0, .int .i8 0, .int .i8 0] 27 (0, 0))
    rwa [World.size_alloc, World.size_alloc] at this
  have HC : Hid (ClothAt (((w.alloc (.cells #[.int .i16 a, .int .i16 b, .int .i8 c, .int .i8 d, .int .i8 e] 27 (0, 0))).alloc (.cells #[.int .i8 p, .int .i8 q, .int .i8 r] 47 (0, 0))).alloc (.cells #[.int .i16 0, .int .i16 0, .int .i8 0, .int .i8 0, .int .i8 0] 27 (0, 0))) w.heap.size 0 a b c d e) := by
    have h := fun i => cell_of_row _ w.heap.size i _ _ _ (blk_alloc (blk_alloc (heap_alloc_new w (.cells #[.int .i16 a, .int .i16 b, .int .i8 c, .int .i8 d, .int .i8 e] 27 (0, 0))) (.cells #[.int .i8 p, .int .i8 q, .int .i8 r] 47 (0, 0))) (.cells #[.int .i16 0, .int .i16 0, .int .i8 0, .int .i8 0, .int .i8 0] 27 (0, 0)))
    exact ⟨h 0, h 1, h 2, h 3, h 4⟩
  have HP : Hid (ProgAt (((w.alloc (.cells #[.int .i16 a, .int .i16 b, .int .i8 c, .int .i8 d, .int .i8 e] 27 (0, 0))).alloc (.cells #[.int .i8 p, .int .i8 q, .int .i8 r] 47 (0, 0))).alloc (.cells #[.int .i16 0, .int .i16 0, .int .i8 0, .int .i8 0, .int .i8 0] 27 (0, 0))) (w.heap.size + 1) 0 p q r) := by
    have hP := blk_alloc (heap_alloc_new (w.alloc (.cells #[.int .i16 a, .int .i16 b, .int .i8 c, .int .i8 d, .int .i8 e] 27 (0, 0))) (.cells #[.int .i8 p, .int .i8 q, .int .i8 r] 47 (0, 0))) (.cells #[.int .i16 0, .int .i16 0, .int .i8 0, .int .i8 0, .int .i8 0] 27 (0, 0))
    rw [World.size_alloc] at hP
    have h := fun i => cell_of_row _ (w.heap.size + 1) i _ _ _ hP
    exact ⟨h 0, h 1, h 2⟩
  have HC0 := Lib.hid HC.out.1
  have HC1 := Lib.hid HC.out.2.1
  have HC2 := Lib.hid HC.out.2.2.1
  have HC3 := Lib.hid HC.out.2.2.2.1
  have HC4 := Lib.hid HC.out.2.2.2.2
  have HP0 := Lib.hid HP.out.1
  have HP1 := Lib.hid HP.out.2.1
  have HP2 := Lib.hid HP.out.2.2
  have HS : Hid (w.heap.size + 1 < (((w.alloc (.cells #[.int .i16 a, .int .i16 b, .int .i8 c, .int .i8 d, .int .i8 e] 27 (0, 0))).alloc (.cells #[.int .i8 p, .int .i8 q, .int .i8 r] 47 (0, 0))).alloc (.cells #[.int .i16 0, .int .i16 0, .int .i8 0, .int .i8 0, .int .i8 0] 27 (0, 0))).heap.size) := by rw [Hid, World.size_alloc, World.size_alloc, World.size_alloc]; omega
  have HR := Lib.hid hR
  clear hR
  have HI : Hid ((Try.prog.info? 27).map (·.size) = some 5) := by show (Try.prog.info? 27).map (·.size) = some 5; kernel_rfl
  cases k0 : okCloth a b c d e
  · have E : Hid (washOnceF a b c d e p q r = (#[.int .i16 0, .int .i16 0, .int .i8 0, .int .i8 0, .int .i8 0], 1)) := by simp [Hid, washOnceF, k0]
    go_enter Try.func25, Try.ntmps25
    go_wp2_with (first
      | (go_at_call 53; ((with_reducible refine (c_l06Ok w.heap.size 0 a b c d e _ ha hb HC0.out HC1.out HC2.out HC3.out HC4.out).mono ?_); rintro e w1 ⟨rfl, rfl⟩))
      | (go_at_call 54; ((with_reducible refine (c_l06Program (w.heap.size + 1) 0 p q r _ HP0.out HP1.out HP2.out).mono ?_); rintro e w1 ⟨rfl, rfl⟩))
      | (refine ev_store_row rfl 27 (.tmp 4) (.tmp 12) rfl (w.heap.size + 1 + 1) #[.int .i16 0, .int .i16 0, .int .i8 0, .int .i8 0, .int .i8 0] rfl rfl 27 #[.int .i16 0, .int .i16 0, .int .i8 0, .int .i8 0, .int .i8 0] ?_ HI.out (Eq.refl (5 : Nat)) one5 ?_; (with_reducible exact HR.out); intro w2 hblk ht; have HR2 := Lib.hid hblk; clear hblk))
    refine bodyPost_ret (v := .tuple #[.agg #[.int .i16 0, .int .i16 0, .int .i8 0, .int .i8 0, .int .i8 0], .int .i64 1]) (results_ct rfl _ _ (w.heap.size + 1 + 1) 27 #[.int .i16 0, .int .i16 0, .int .i8 0, .int .i8 0, .int .i8 0] (0, 0) _ rfl (by with_reducible exact HR2.out) Try.underlying27 rfl HI.out rfl) rfl ⟨by rw [E.out], Below.trans (by (repeat (first | with_reducible exact Below.refl _ _ | with_reducible refine below_alloc ?_ _ | with_reducible refine below_drew ?_ | with_reducible refine below_drewN ?_ _ | with_reducible refine below_then ?_ (by assumption)))) (ht.below (by omega))⟩
  · cases k1 : okProgram p q r
    · have E : Hid (washOnceF a b c d e p q r = (#[.int .i16 0, .int .i16 0, .int .i8 0, .int .i8 0, .int .i8 0], 1)) := by simp [Hid, washOnceF, k0, k1]
      go_enter Try.func25, Try.ntmps25
      go_wp2_with (first
        | (go_at_call 53; ((with_reducible refine (c_l06Ok w.heap.size 0 a b c d e _ ha hb HC0.out HC1.out HC2.out HC3.out HC4.out).mono ?_); rintro e w1 ⟨rfl, rfl⟩))
        | (go_at_call 54; ((with_reducible refine (c_l06Program (w.heap.size + 1) 0 p q r _ HP0.out HP1.out HP2.out).mono ?_); rintro e w1 ⟨rfl, rfl⟩))
        | (refine ev_store_row rfl 27 (.tmp 4) (.tmp 12) rfl (w.heap.size + 1 + 1) #[.int .i16 0, .int .i16 0, .int .i8 0, .int .i8 0, .int .i8 0] rfl rfl 27 #[.int .i16 0, .int .i16 0, .int .i8 0, .int .i8 0, .int .i8 0] ?_ HI.out (Eq.refl (5 : Nat)) one5 ?_; (with_reducible exact HR.out); intro w2 hblk ht; have HR2 := Lib.hid hblk; clear hblk))
      refine bodyPost_ret (v := .tuple #[.agg #[.int .i16 0, .int .i16 0, .int .i8 0, .int .i8 0, .int .i8 0], .int .i64 1]) (results_ct rfl _ _ (w.heap.size + 1 + 1) 27 #[.int .i16 0, .int .i16 0, .int .i8 0, .int .i8 0, .int .i8 0] (0, 0) _ rfl (by with_reducible exact HR2.out) Try.underlying27 rfl HI.out rfl) rfl ⟨by rw [E.out], Below.trans (by (repeat (first | with_reducible exact Below.refl _ _ | with_reducible refine below_alloc ?_ _ | with_reducible refine below_drew ?_ | with_reducible refine below_drewN ?_ _ | with_reducible refine below_then ?_ (by assumption)))) (ht.below (by omega))⟩
    · have E : Hid (washOnceF a b c d e p q r = (#[.int .i16 (sideV a (feltsV d e p q)), .int .i16 (sideV b (feltsV d e p q)), .int .i8 (max 0 (c - r)), .int .i8 (d + feltsV d e p q), .int .i8 e], 0)) := by simp [Hid, washOnceF, k0, k1]
      obtain ⟨h1, h2, hc, hd, he⟩ := okCloth_all k0
      obtain ⟨hp', hq, hr⟩ := okProgram_all k1
      generalize hY : (#[.int .i16 (sideV a (feltsV d e p q)), .int .i16 (sideV b (feltsV d e p q)), .int .i8 (max 0 (c - r)), .int .i8 (d + feltsV d e p q), .int .i8 e] : Array Value) = Y at *
      have CW := fun (w1 : World) (x1 : ProgAt w1 (w.heap.size + 1) 0 p q r) (x2 : w.heap.size + 1 < w1.heap.size) => Lib.hid (hY ▸ c_l06Washed (w.heap.size + 1) 0 a b c d e p q r w1 x1 x2 h1.1 h1.2 h2.1 h2.2 hc hd he hp' hq hr)
      have HO : Hid (Y.all (·.oneCell') = true) := by rw [Hid, ← hY]; exact one5
      have HY5 : Hid (Y.size = 5) := by rw [Hid, ← hY]; rfl
      go_enter Try.func25, Try.ntmps25
      go_wp2_with (first
        | (go_at_call 53; ((with_reducible refine (c_l06Ok w.heap.size 0 a b c d e _ ha hb HC0.out HC1.out HC2.out HC3.out HC4.out).mono ?_); rintro e w1 ⟨rfl, rfl⟩))
        | (go_at_call 54; ((with_reducible refine (c_l06Program (w.heap.size + 1) 0 p q r _ HP0.out HP1.out HP2.out).mono ?_); rintro e w1 ⟨rfl, rfl⟩))
        | (go_at_call 39; refine (CW _ HP.out HS.out).out.mono ?_; rintro u w1 ⟨rfl, hb⟩; have HR := Lib.hid (blk_below HR.out hb))
        | (refine ev_store_row rfl 27 (.tmp 4) (.tmp 14) rfl (w.heap.size + 1 + 1) Y rfl rfl 27 #[.int .i16 0, .int .i16 0, .int .i8 0, .int .i8 0, .int .i8 0] ?_ (by rw [HY5.out]; exact HI.out) (by rw [HY5.out]; rfl) HO.out ?_; (with_reducible exact HR.out); intro w2 hblk ht; have HR2 := Lib.hid hblk; clear hblk))
      refine bodyPost_ret (v := .tuple #[.agg Y, .int .i64 0]) (results_ct rfl _ _ (w.heap.size + 1 + 1) 27 Y (0, 0) _ rfl (by with_reducible exact HR2.out) Try.underlying27 rfl (by rw [HY5.out]; exact HI.out) rfl) rfl ⟨by rw [E.out], Below.trans (by (repeat (first | with_reducible exact Below.refl _ _ | with_reducible refine below_alloc ?_ _ | with_reducible refine below_drew ?_ | with_reducible refine below_drewN ?_ _ | with_reducible refine below_then ?_ (by assumption)))) (ht.below (by omega))⟩

set_option maxHeartbeats 800000 in
theorem c_iWashOnce (a b c d e p q r : Int) (w : World) (ha : -32768 ≤ a ∧ a ≤ 32767) (hb : -32768 ≤ b ∧ b ≤ 32767) :
    Calls Try.prog 24 #[.agg #[.int .i16 a, .int .i16 b, .int .i8 c, .int .i8 d, .int .i8 e], .agg #[.int .i8 p, .int .i8 q, .int .i8 r]] w fun u w' => u = .returned (.tuple #[.agg (washOnceF a b c d e p q r).1, .int .i64 (washOnceF a b c d e p q r).2]) ∧ Below w.heap.size w w' := by
  have hR : (((w.alloc (.cells #[.int .i16 a, .int .i16 b, .int .i8 c, .int .i8 d, .int .i8 e] 27 (0, 0))).alloc (.cells #[.int .i8 p, .int .i8 q, .int .i8 r] 47 (0, 0))).alloc (.cells #[.int .i16 0, .int .i16 0, .int .i8 0, .int .i8 0, .int .i8 0] 27 (0, 0))).heap[w.heap.size + 1 + 1]? = some (.cells #[.int .i16 0, .int .i16 0, .int .i8 0, .int .i8 0, .int .i8 0] 27 (0, 0)) := by
    have := heap_alloc_new ((w.alloc (.cells #[.int .i16 a, .int .i16 b, .int .i8 c, .int .i8 d, .int .i8 e] 27 (0, 0))).alloc (.cells #[.int .i8 p, .int .i8 q, .int .i8 r] 47 (0, 0))) (.cells #[.int .i16 0, .int .i16 0, .int .i8 0, .int .i8 0, .int .i8 0] 27 (0, 0))
    rwa [World.size_alloc, World.size_alloc] at this
  have HC : Hid (ClothAt (((w.alloc (.cells #[.int .i16 a, .int .i16 b, .int .i8 c, .int .i8 d, .int .i8 e] 27 (0, 0))).alloc (.cells #[.int .i8 p, .int .i8 q, .int .i8 r] 47 (0, 0))).alloc (.cells #[.int .i16 0, .int .i16 0, .int .i8 0, .int .i8 0, .int .i8 0] 27 (0, 0))) w.heap.size 0 a b c d e) := by
    have h := fun i => cell_of_row _ w.heap.size i _ _ _ (blk_alloc (blk_alloc (heap_alloc_new w (.cells #[.int .i16 a, .int .i16 b, .int .i8 c, .int .i8 d, .int .i8 e] 27 (0, 0))) (.cells #[.int .i8 p, .int .i8 q, .int .i8 r] 47 (0, 0))) (.cells #[.int .i16 0, .int .i16 0, .int .i8 0, .int .i8 0, .int .i8 0] 27 (0, 0)))
    exact ⟨h 0, h 1, h 2, h 3, h 4⟩
  have HP : Hid (ProgAt (((w.alloc (.cells #[.int .i16 a, .int .i16 b, .int .i8 c, .int .i8 d, .int .i8 e] 27 (0, 0))).alloc (.cells #[.int .i8 p, .int .i8 q, .int .i8 r] 47 (0, 0))).alloc (.cells #[.int .i16 0, .int .i16 0, .int .i8 0, .int .i8 0, .int .i8 0] 27 (0, 0))) (w.heap.size + 1) 0 p q r) := by
    have hP := blk_alloc (heap_alloc_new (w.alloc (.cells #[.int .i16 a, .int .i16 b, .int .i8 c, .int .i8 d, .int .i8 e] 27 (0, 0))) (.cells #[.int .i8 p, .int .i8 q, .int .i8 r] 47 (0, 0))) (.cells #[.int .i16 0, .int .i16 0, .int .i8 0, .int .i8 0, .int .i8 0] 27 (0, 0))
    rw [World.size_alloc] at hP
    have h := fun i => cell_of_row _ (w.heap.size + 1) i _ _ _ hP
    exact ⟨h 0, h 1, h 2⟩
  have HC0 := Lib.hid HC.out.1
  have HC1 := Lib.hid HC.out.2.1
  have HC2 := Lib.hid HC.out.2.2.1
  have HC3 := Lib.hid HC.out.2.2.2.1
  have HC4 := Lib.hid HC.out.2.2.2.2
  have HP0 := Lib.hid HP.out.1
  have HP1 := Lib.hid HP.out.2.1
  have HP2 := Lib.hid HP.out.2.2
  have HS : Hid (w.heap.size + 1 < (((w.alloc (.cells #[.int .i16 a, .int .i16 b, .int .i8 c, .int .i8 d, .int .i8 e] 27 (0, 0))).alloc (.cells #[.int .i8 p, .int .i8 q, .int .i8 r] 47 (0, 0))).alloc (.cells #[.int .i16 0, .int .i16 0, .int .i8 0, .int .i8 0, .int .i8 0] 27 (0, 0))).heap.size) := by rw [Hid, World.size_alloc, World.size_alloc, World.size_alloc]; omega
  have HR := Lib.hid hR
  clear hR
  have HI : Hid ((Try.prog.info? 27).map (·.size) = some 5) := by show (Try.prog.info? 27).map (·.size) = some 5; kernel_rfl
  cases k0 : okCloth a b c d e
  · have E : Hid (washOnceF a b c d e p q r = (#[.int .i16 0, .int .i16 0, .int .i8 0, .int .i8 0, .int .i8 0], 1)) := by simp [Hid, washOnceF, k0]
    go_enter Try.func24, Try.ntmps24
    go_wp2_with (first
      | (go_at_call 19; ((with_reducible refine (c_iValidCloth a b c d e _ ha hb).mono ?_); rintro e w1 ⟨rfl, hb⟩; obtain ⟨hc_, hf_, hz_⟩ := bfacts hb; (try simp only [World.size_alloc, World.size_setCell, World.size_drew] at hc_ hf_ hz_); have hzz0 : w.heap.size < w1.heap.size := (by omega); have hzz1 : w.heap.size + 1 < w1.heap.size := (by omega); have hzz2 : w.heap.size + 1 + 1 < w1.heap.size := (by omega); have HR := Lib.hid (blk_below HR.out hb)))
      | (go_at_call 23; ((with_reducible refine (c_iValidProgram p q r _).mono ?_); rintro e w1 ⟨rfl, hb⟩; obtain ⟨hc_, hf_, hz_⟩ := bfacts hb; (try simp only [World.size_alloc, World.size_setCell, World.size_drew] at hc_ hf_ hz_); have hzz0 : w.heap.size < w1.heap.size := (by omega); have hzz1 : w.heap.size + 1 < w1.heap.size := (by omega); have hzz2 : w.heap.size + 1 + 1 < w1.heap.size := (by omega); have HR := Lib.hid (blk_below HR.out hb)))
      | (refine ev_store_row rfl 27 (.tmp 4) (.tmp 14) rfl (w.heap.size + 1 + 1) #[.int .i16 0, .int .i16 0, .int .i8 0, .int .i8 0, .int .i8 0] rfl rfl 27 #[.int .i16 0, .int .i16 0, .int .i8 0, .int .i8 0, .int .i8 0] ?_ HI.out (Eq.refl (5 : Nat)) one5 ?_; (with_reducible exact HR.out); intro w2 hblk ht; have HR2 := Lib.hid hblk; clear hblk))
    refine bodyPost_ret (v := .tuple #[.agg #[.int .i16 0, .int .i16 0, .int .i8 0, .int .i8 0, .int .i8 0], .int .i64 1]) (results_ct rfl _ _ (w.heap.size + 1 + 1) 27 #[.int .i16 0, .int .i16 0, .int .i8 0, .int .i8 0, .int .i8 0] (0, 0) _ rfl (by with_reducible exact HR2.out) Try.underlying27 rfl HI.out rfl) rfl ⟨by rw [E.out], Below.trans (by (repeat (first | with_reducible exact Below.refl _ _ | with_reducible refine below_alloc ?_ _ | with_reducible refine below_drew ?_ | with_reducible refine below_drewN ?_ _ | with_reducible refine below_then ?_ (by assumption)))) (ht.below (by omega))⟩
  · cases k1 : okProgram p q r
    · have E : Hid (washOnceF a b c d e p q r = (#[.int .i16 0, .int .i16 0, .int .i8 0, .int .i8 0, .int .i8 0], 1)) := by simp [Hid, washOnceF, k0, k1]
      go_enter Try.func24, Try.ntmps24
      go_wp2_with (first
        | (go_at_call 19; ((with_reducible refine (c_iValidCloth a b c d e _ ha hb).mono ?_); rintro e w1 ⟨rfl, hb⟩; obtain ⟨hc_, hf_, hz_⟩ := bfacts hb; (try simp only [World.size_alloc, World.size_setCell, World.size_drew] at hc_ hf_ hz_); have hzz0 : w.heap.size < w1.heap.size := (by omega); have hzz1 : w.heap.size + 1 < w1.heap.size := (by omega); have hzz2 : w.heap.size + 1 + 1 < w1.heap.size := (by omega); have HR := Lib.hid (blk_below HR.out hb)))
        | (go_at_call 23; ((with_reducible refine (c_iValidProgram p q r _).mono ?_); rintro e w1 ⟨rfl, hb⟩; obtain ⟨hc_, hf_, hz_⟩ := bfacts hb; (try simp only [World.size_alloc, World.size_setCell, World.size_drew] at hc_ hf_ hz_); have hzz0 : w.heap.size < w1.heap.size := (by omega); have hzz1 : w.heap.size + 1 < w1.heap.size := (by omega); have hzz2 : w.heap.size + 1 + 1 < w1.heap.size := (by omega); have HR := Lib.hid (blk_below HR.out hb)))
        | (refine ev_store_row rfl 27 (.tmp 4) (.tmp 14) rfl (w.heap.size + 1 + 1) #[.int .i16 0, .int .i16 0, .int .i8 0, .int .i8 0, .int .i8 0] rfl rfl 27 #[.int .i16 0, .int .i16 0, .int .i8 0, .int .i8 0, .int .i8 0] ?_ HI.out (Eq.refl (5 : Nat)) one5 ?_; (with_reducible exact HR.out); intro w2 hblk ht; have HR2 := Lib.hid hblk; clear hblk))
      refine bodyPost_ret (v := .tuple #[.agg #[.int .i16 0, .int .i16 0, .int .i8 0, .int .i8 0, .int .i8 0], .int .i64 1]) (results_ct rfl _ _ (w.heap.size + 1 + 1) 27 #[.int .i16 0, .int .i16 0, .int .i8 0, .int .i8 0, .int .i8 0] (0, 0) _ rfl (by with_reducible exact HR2.out) Try.underlying27 rfl HI.out rfl) rfl ⟨by rw [E.out], Below.trans (by (repeat (first | with_reducible exact Below.refl _ _ | with_reducible refine below_alloc ?_ _ | with_reducible refine below_drew ?_ | with_reducible refine below_drewN ?_ _ | with_reducible refine below_then ?_ (by assumption)))) (ht.below (by omega))⟩
    · have E : Hid (washOnceF a b c d e p q r = (#[.int .i16 (sideV a (feltsV d e p q)), .int .i16 (sideV b (feltsV d e p q)), .int .i8 (max 0 (c - r)), .int .i8 (d + feltsV d e p q), .int .i8 e], 0)) := by simp [Hid, washOnceF, k0, k1]
      obtain ⟨h1, h2, hc, hd, he⟩ := okCloth_all k0
      obtain ⟨hp', hq, hr⟩ := okProgram_all k1
      generalize hY : (#[.int .i16 (sideV a (feltsV d e p q)), .int .i16 (sideV b (feltsV d e p q)), .int .i8 (max 0 (c - r)), .int .i8 (d + feltsV d e p q), .int .i8 e] : Array Value) = Y at *
      have CW := fun (w1 : World) => Lib.hid (hY ▸ c_washed a b c d e p q r w1 h1.1 h1.2 h2.1 h2.2 hc hd he hp' hq hr)
      have HO : Hid (Y.all (·.oneCell') = true) := by rw [Hid, ← hY]; exact one5
      have HY5 : Hid (Y.size = 5) := by rw [Hid, ← hY]; rfl
      go_enter Try.func24, Try.ntmps24
      go_wp2_with (first
        | (go_at_call 19; ((with_reducible refine (c_iValidCloth a b c d e _ ha hb).mono ?_); rintro e w1 ⟨rfl, hb⟩; obtain ⟨hc_, hf_, hz_⟩ := bfacts hb; (try simp only [World.size_alloc, World.size_setCell, World.size_drew] at hc_ hf_ hz_); have hzz0 : w.heap.size < w1.heap.size := (by omega); have hzz1 : w.heap.size + 1 < w1.heap.size := (by omega); have hzz2 : w.heap.size + 1 + 1 < w1.heap.size := (by omega); have HR := Lib.hid (blk_below HR.out hb)))
        | (go_at_call 23; ((with_reducible refine (c_iValidProgram p q r _).mono ?_); rintro e w1 ⟨rfl, hb⟩; obtain ⟨hc_, hf_, hz_⟩ := bfacts hb; (try simp only [World.size_alloc, World.size_setCell, World.size_drew] at hc_ hf_ hz_); have hzz0 : w.heap.size < w1.heap.size := (by omega); have hzz1 : w.heap.size + 1 < w1.heap.size := (by omega); have hzz2 : w.heap.size + 1 + 1 < w1.heap.size := (by omega); have HR := Lib.hid (blk_below HR.out hb)))
        | (go_at_call 36; ((with_reducible refine ((CW _).out).mono ?_); rintro e w1 ⟨rfl, hb⟩; obtain ⟨hc_, hf_, hz_⟩ := bfacts hb; (try simp only [World.size_alloc, World.size_setCell, World.size_drew] at hc_ hf_ hz_); have hzz0 : w.heap.size < w1.heap.size := (by omega); have hzz1 : w.heap.size + 1 < w1.heap.size := (by omega); have hzz2 : w.heap.size + 1 + 1 < w1.heap.size := (by omega); have HR := Lib.hid (blk_below HR.out hb)))
        | (refine ev_store_row rfl 27 (.tmp 4) (.tmp 17) rfl (w.heap.size + 1 + 1) Y rfl rfl 27 #[.int .i16 0, .int .i16 0, .int .i8 0, .int .i8 0, .int .i8 0] ?_ (by rw [HY5.out]; exact HI.out) (by rw [HY5.out]; rfl) HO.out ?_; (with_reducible exact HR.out); intro w2 hblk ht; have HR2 := Lib.hid hblk; clear hblk))
      refine bodyPost_ret (v := .tuple #[.agg Y, .int .i64 0]) (results_ct rfl _ _ (w.heap.size + 1 + 1) 27 Y (0, 0) _ rfl (by with_reducible exact HR2.out) Try.underlying27 rfl (by rw [HY5.out]; exact HI.out) rfl) rfl ⟨by rw [E.out], Below.trans (by (repeat (first | with_reducible exact Below.refl _ _ | with_reducible refine below_alloc ?_ _ | with_reducible refine below_drew ?_ | with_reducible refine below_drewN ?_ _ | with_reducible refine below_then ?_ (by assumption)))) (ht.below (by omega))⟩
end Go.Proofs.Ytdmcemhckalhkaa
