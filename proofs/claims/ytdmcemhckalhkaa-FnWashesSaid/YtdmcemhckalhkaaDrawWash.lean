/- Cloths and programs drawn from bytes. -/
import Derived.Test.YtdmcemhckalhkaaDrawBase
import Derived.Test.YtdmcemhckalhkaaDrawn
import Derived.Test.YtdmcemhckalhkaaEvOps
import Derived.Test.YtdmcemhckalhkaaWashAll
import Derived.Deep.DeepCutAuto
namespace Go.Proofs.Ytdmcemhckalhkaa
open Go.RowKit
set_option linter.unusedVariables false
set_option linter.unusedSimpArgs false
set_option maxRecDepth 100000

set_option maxHeartbeats 2000000 in
theorem c_l06Drawn (g : Nat) (A : Option Addr) (cap : Nat) (xs : List Int) (w : World) (h : Src g 0 A cap xs w) (hA : ∀ ad, A = some ad → xs ≠ [] → ad.block < w.heap.size) :
    Calls Try.prog 27 #[.pointer (some ⟨g, 0, none⟩)] w fun e w' => ∃ x : Cl, x.Ok ∧ e = .returned (.agg x.cells) ∧ Drawn g w.heap.size w w' := by
  have hg : g < w.heap.size := by obtain ⟨_, _, _, _, hb⟩ := h.blk; exact blk_lt hb
  have hb0 : Below w.heap.size w (w.alloc (.cells #[.int .i16 0, .int .i16 0, .int .i8 0, .int .i8 0, .int .i8 0] 27 (0, 0))) := below_alloc (Below.refl _ _) _
  have HS := Lib.hid (h.below hb0)
  have HB : Hid (Drawn g w.heap.size w (w.alloc (.cells #[.int .i16 0, .int .i16 0, .int .i8 0, .int .i8 0, .int .i8 0] 27 (0, 0)))) := ⟨hb0.os, hb0.tape, hb0.output, hb0.size, fun i hi _ => hb0.block i hi⟩
  have HR := Lib.hid (heap_alloc_new w (.cells #[.int .i16 0, .int .i16 0, .int .i8 0, .int .i8 0, .int .i8 0] 27 (0, 0)))
  have HA := Lib.hid hA
  have C1 := Lib.hid (fun w' h => c_pick g 0 A cap xs 200 w' h (by omega) (by omega))
  have C2 := Lib.hid (fun w' h => c_pick g 1 A cap xs 200 w' h (by omega) (by omega))
  have C3 := Lib.hid (fun w' h => c_pick g 2 A cap xs 10 w' h (by omega) (by omega))
  have C4 := Lib.hid (fun w' h => c_pick g 3 A cap xs 5 w' h (by omega) (by omega))
  have C5 := Lib.hid (fun w' h => c_pick g 4 A cap xs 8 w' h (by omega) (by omega))
  have HI : Hid ((Try.prog.info? 27).map (·.size) = some 5) := by show (Try.prog.info? 27).map (·.size) = some 5; kernel_rfl
  have hne : ¬ w.heap.size = g := by omega
  clear h hA hb0
  go_enter Try.func27, Try.ntmps27
  go_upto_region 1 with fail
  generalize hwa : w.alloc (.cells #[.int .i16 0, .int .i16 0, .int .i8 0, .int .i8 0, .int .i8 0] 27) = wa at *
  clear hwa
  go_upto_region 2 with (first
    | (go_at_call 30; ((with_reducible refine (C1.out _ HS.out).mono ?_); rintro e w1 ⟨r1, rfl, p0, p1, hS, hT⟩; have HS := Lib.hid hS; have HR := Lib.hid (blk_tou HR.out hT hne); have HB := Lib.hid (HB.out.tou hT); clear hS hT C1))
    | (go_at_call 30; ((with_reducible refine (C2.out _ HS.out).mono ?_); rintro e w2 ⟨r2, rfl, q0, q1, hS, hT⟩; have HS := Lib.hid hS; have HR := Lib.hid (blk_tou HR.out hT hne); have HB := Lib.hid (HB.out.tou hT); clear hS hT C2))
    | (go_at_call 30; ((with_reducible refine (C3.out _ HS.out).mono ?_); rintro e w3 ⟨r3, rfl, s0, s1, hS, hT⟩; have HS := Lib.hid hS; have HR := Lib.hid (blk_tou HR.out hT hne); have HB := Lib.hid (HB.out.tou hT); clear hS hT C3)))
  have hz3 : w.heap.size < w3.heap.size := blk_lt HR.out
  have hgl : g < w3.heap.size := by obtain ⟨_, _, _, _, hb⟩ := HS.out.blk; exact blk_lt hb
  have HS := Lib.hid (HS.out.below (below_alloc (Below.refl _ _) (.cells #[.int .i16 (1 + r1), .int .i16 (1 + r2), .int .i8 r3, .int .i8 0, .int .i8 0] 27 (0, 0))))
  have HR := Lib.hid (blk_alloc HR.out (.cells #[.int .i16 (1 + r1), .int .i16 (1 + r2), .int .i8 r3, .int .i8 0, .int .i8 0] 27 (0, 0)))
  have HL := Lib.hid (heap_alloc_new w3 (.cells #[.int .i16 (1 + r1), .int .i16 (1 + r2), .int .i8 r3, .int .i8 0, .int .i8 0] 27 (0, 0)))
  have HB : Hid (Drawn g w.heap.size w (w3.alloc (.cells #[.int .i16 (1 + r1), .int .i16 (1 + r2), .int .i8 r3, .int .i8 0, .int .i8 0] 27 (0, 0)))) := HB.out.alloc (by omega) _
  have HAl : Hid (∀ ad, A = some ad → xs ≠ [] → ad.block ≠ w3.heap.size) := fun ad e en => by have := HA.out ad e en; omega
  generalize hwl : w3.alloc (.cells #[.int .i16 (1 + r1), .int .i16 (1 + r2), .int .i8 r3, .int .i8 0, .int .i8 0] 27) = wl at *
  clear hwl
  generalize w3.heap.size = gl at *
  have n1 : ¬ gl = g := by omega
  have n2 : g ≠ gl := by omega
  have n3 : w.heap.size ≠ gl := by omega
  have n4 : w.heap.size ≤ gl := by omega
  go_upto_region 3 with (go_at_call 30; ((with_reducible refine (C4.out _ HS.out).mono ?_); rintro e w4 ⟨r4, rfl, t0, t1, hS, hT⟩; have HS := Lib.hid hS; have HR := Lib.hid (blk_tou HR.out hT hne); have HL := Lib.hid (blk_tou HL.out hT n1); have HB := Lib.hid (HB.out.tou hT); have x3 := cell_of_row w4 gl 3 _ _ _ HL.out; have f3 := blk_frozen HL.out 3; simp at x3; clear hS hT C4))
  have hT4 := Tou.setCell w4 gl 3 (.int .i8 r4)
  have HS := Lib.hid (HS.out.tou hT4 n2 HAl.out)
  have HR := Lib.hid (blk_tou HR.out hT4 n3)
  have HL : Hid ((w4.setCell ⟨gl, 3, none⟩ (.int .i8 r4)).heap[gl]? = some (.cells #[.int .i16 (1 + r1), .int .i16 (1 + r2), .int .i8 r3, .int .i8 r4, .int .i8 0] 27 (0, 0))) := blk_set HL.out 3 _
  have HB := Lib.hid (HB.out.touB hT4 n4)
  clear hT4 x3 f3
  generalize w4.setCell ⟨gl, 3, none⟩ (.int .i8 r4) = wm at *

  go_upto_region 4 with (go_at_call 30; ((with_reducible refine (C5.out _ HS.out).mono ?_); rintro e w5 ⟨r5, rfl, u0, u1, hS, hT⟩; have HS := Lib.hid hS; have HR := Lib.hid (blk_tou HR.out hT hne); have HL := Lib.hid (blk_tou HL.out hT n1); have HB := Lib.hid (HB.out.tou hT); have x3 := cell_of_row w5 gl 4 _ _ _ HL.out; have f3 := blk_frozen HL.out 4; simp at x3; clear hS hT C5))
  have hT5 := Tou.setCell w5 gl 4 (.int .i8 r5)
  have HR := Lib.hid (blk_tou HR.out hT5 n3)
  have HL : Hid ((w5.setCell ⟨gl, 4, none⟩ (.int .i8 r5)).heap[gl]? = some (.cells #[.int .i16 (1 + r1), .int .i16 (1 + r2), .int .i8 r3, .int .i8 r4, .int .i8 r5] 27 (0, 0))) := blk_set HL.out 4 _
  have HB := Lib.hid (HB.out.touB hT5 n4)
  clear hT5 x3 f3 HS
  generalize w5.setCell ⟨gl, 4, none⟩ (.int .i8 r5) = wn at *
  go_wp2_with (first
    | (refine wpList_load_row rfl 27 (.tmp 3) rfl gl rfl 27 _ (0, 0) _ HL.out Try.underlying27 rfl HI.out ?_)
    | (refine wpList_store_row rfl 27 (.tmp 2) (.tmp 24) rfl w.heap.size #[.int .i16 (1 + r1), .int .i16 (1 + r2), .int .i8 r3, .int .i8 r4, .int .i8 r5] rfl rfl 27 _ HR.out HI.out (Eq.refl (5 : Nat)) one5 ?_))
  refine bodyPost_ret (v := .agg #[.int .i16 (1 + r1), .int .i16 (1 + r2), .int .i8 r3, .int .i8 r4, .int .i8 r5]) (results_cell_row rfl _ _ w.heap.size 27 _ (0, 0) _ rfl (setRow_heap _ _ _ _ _ _ HR.out) Try.underlying27 rfl HI.out) rfl ⟨⟨1 + r1, 1 + r2, r3, r4, r5⟩, ⟨by show 1 ≤ 1 + r1 ∧ 1 + r1 ≤ 1000; omega, by show 1 ≤ 1 + r2 ∧ 1 + r2 ≤ 1000; omega, by show 0 ≤ r3 ∧ r3 ≤ 9; omega, by show 0 ≤ r4 ∧ r4 ≤ 9; omega, by show 0 ≤ r5 ∧ r5 ≤ 9; omega⟩, rfl, ?_⟩
  exact HB.out.touB (Tou.setRow _ _ _) (Nat.le_refl _)
set_option maxHeartbeats 2000000 in
theorem c_A2Cloth (A : Option Addr) (cap : Nat) (xs : List Int) (w : World) (h : BytesAt w A xs) (hA : ∀ ad, A = some ad → xs ≠ [] → ad.block < w.heap.size) :
    Calls Try.prog 5 #[.slice A xs.length cap] w fun e w' => ∃ x : Cl, x.Ok ∧ e = .returned (.agg x.cells) ∧ Below w.heap.size w w' := by
  have hb0 : Below w.heap.size w (w.alloc (.cells #[.int .i16 0, .int .i16 0, .int .i8 0, .int .i8 0, .int .i8 0] 27 (0, 0))) := below_alloc (Below.refl _ _) _
  have HR := Lib.hid (heap_alloc_new w (.cells #[.int .i16 0, .int .i16 0, .int .i8 0, .int .i8 0, .int .i8 0] 27 (0, 0)))
  have CF := Lib.hid (c_l00From A cap xs _ (h.below hb0) (fun ad e en => Nat.lt_of_lt_of_le (hA ad e en) hb0.size))
  have HB := Lib.hid hb0
  have HA := Lib.hid hA
  have HI : Hid ((Try.prog.info? 27).map (·.size) = some 5) := by show (Try.prog.info? 27).map (·.size) = some 5; kernel_rfl
  have hz : w.heap.size < (w.alloc (.cells #[.int .i16 0, .int .i16 0, .int .i8 0, .int .i8 0, .int .i8 0] 27 (0, 0))).heap.size := blk_lt HR.out
  clear h hb0 hA
  go_enter Try.func5, Try.ntmps5
  go_upto_region 1 with fail
  generalize w.alloc (.cells #[.int .i16 0, .int .i16 0, .int .i8 0, .int .i8 0, .int .i8 0] 27) = wa at *
  generalize hga : wa.heap.size = ga at *
  go_wp2_with (first
    | (go_at_call 28; ((with_reducible refine CF.out.mono ?_); rintro e w1 ⟨rfl, hS, hb⟩; have HR := Lib.hid (blk_below HR.out (hga ▸ hb)); have HB := Lib.hid (below_then HB.out (hga ▸ hb)); have CD := Lib.hid (c_l06Drawn ga A cap xs w1 hS (fun ad e en => Nat.lt_of_lt_of_le (HA.out ad e en) HB.out.size)); clear hS hb))
    | (go_at_call 27; ((with_reducible refine CD.out.mono ?_); rintro e w2 ⟨⟨ca, cb, cc, cd, ce⟩, ok, rfl, hD⟩; have OK := Lib.hid ok; have HR := Lib.hid ((hD.block w.heap.size (blk_lt HR.out) (by omega)).trans HR.out); have HB : Hid (Below w.heap.size w w2) := ⟨hD.os.trans HB.out.os, hD.tape.trans HB.out.tape, hD.output.trans HB.out.output, Nat.le_trans HB.out.size hD.size, fun i hi => (hD.block i (Nat.lt_of_lt_of_le hi HB.out.size) (by omega)).trans (HB.out.block i hi)⟩; clear hD ok))
    | (refine wpList_store_row rfl 27 (.tmp 2) (.tmp 5) rfl w.heap.size #[.int .i16 ca, .int .i16 cb, .int .i8 cc, .int .i8 cd, .int .i8 ce] rfl rfl 27 _ HR.out HI.out (Eq.refl (5 : Nat)) one5 ?_))

  refine bodyPost_ret (v := .agg #[.int .i16 ca, .int .i16 cb, .int .i8 cc, .int .i8 cd, .int .i8 ce]) (results_cell_row rfl _ _ w.heap.size 27 _ (0, 0) _ rfl (setRow_heap _ _ _ _ _ _ HR.out) Try.underlying27 rfl HI.out) rfl ⟨⟨ca, cb, cc, cd, ce⟩, OK.out, rfl, ?_⟩
  exact HB.out.trans ((Tou.setRow _ _ _).below (Nat.le_refl _))
end Go.Proofs.Ytdmcemhckalhkaa
