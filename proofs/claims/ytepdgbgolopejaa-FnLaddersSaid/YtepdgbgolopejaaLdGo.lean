/- The stitch that takes a loop: the program's GoesTo. -/
import Derived.Test.YtepdgbgolopejaaLdIs
import Derived.Test.YtepdgbgolopejaaLdImpl
namespace Go.Proofs.Ytepdgbgolopejaa
open Go.RowKit
set_option linter.unusedVariables false
set_option linter.unusedSimpArgs false
set_option maxRecDepth 100000

set_option maxHeartbeats 1000000 in
theorem c_loopCode (r x : Nat) (cast : Int) (A : Option Addr) (cap : Nat) (L : List (List UInt8)) (w : World) (hF : FabAt w cast A cap L) (hok : fabOk cast L = true) (hr : r ≤ L.length) (hx : x < widN cast L r) :
    Calls Try.prog 33 #[.agg #[.int .i16 cast, .slice A L.length cap], .agg #[.int .i16 (r : Int), .int .i16 (x : Int)]] w fun e w' => e = .returned (.int .i64 0) ∧ Below w.heap.size w w' := by
  have s1 := heap_alloc_new w (.cells #[.int .i16 cast, .slice A L.length cap] 27 (0, 0))
  have s2 := heap_alloc_new (w.alloc (.cells #[.int .i16 cast, .slice A L.length cap] 27 (0, 0))) (.cells #[.int .i16 (r : Int), .int .i16 (x : Int)] 39 (0, 0))
  rw [World.size_alloc] at s2
  have hb2 : Below w.heap.size w ((w.alloc (.cells #[.int .i16 cast, .slice A L.length cap] 27 (0, 0))).alloc (.cells #[.int .i16 (r : Int), .int .i16 (x : Int)] 39 (0, 0))) := below_alloc (below_alloc (Below.refl _ _) _) _
  have HA := Lib.hid (blk_alloc s1 (.cells #[.int .i16 (r : Int), .int .i16 (x : Int)] 39 (0, 0)))
  have HX := Lib.hid s2
  have HF := Lib.hid (hF.below hb2)
  have HB := Lib.hid hb2
  have CV := Lib.hid (hok ▸ c_ValidFabric cast A cap L _ (hF.below hb2))
  have hV := fabV_of hok
  have CI := Lib.hid (fun w' h => c_isLoop r x cast A cap L w' h hV hr hx)
  clear hF hok hV s1 s2 hb2 hr hx
  go_enter Try.func33, Try.ntmps33
  go_wp2_with (first
    | (go_at_call 26; ((with_reducible refine CV.out.mono ?_); rintro e w1 ⟨rfl, hb⟩; have HB1 := Lib.hid (below_then HB.out hb); have HA1 := Lib.hid (blk_below HA.out hb); have HX1 := Lib.hid (blk_below HX.out hb); have HF1 := Lib.hid (HF.out.below hb); have y0 : w1.cell? ⟨w.heap.size, 0, none⟩ = some (.int .i16 cast) := blk_cell HA1.out 0; have y1 : w1.cell? ⟨w.heap.size, 1, none⟩ = some (.slice A L.length cap) := blk_cell HA1.out 1; have y2 : w1.cell? ⟨w.heap.size + 1, 0, none⟩ = some (.int .i16 (r : Int)) := blk_cell HX1.out 0; have y3 : w1.cell? ⟨w.heap.size + 1, 1, none⟩ = some (.int .i16 (x : Int)) := blk_cell HX1.out 1; clear hb))
    | (go_at_call 61; ((with_reducible refine (CI.out _ HF1.out).mono ?_); rintro e w2 ⟨rfl, hb⟩; have HB2 := Lib.hid (below_then HB1.out hb); clear hb)))
  exact bodyPost_ret (v := .int .i64 0) (by simp [results, Try.results33, go_sem]) rfl ⟨rfl, HB2.out⟩
set_option maxHeartbeats 2000000 in
theorem c_iGoesTo (r x : Nat) (cast : Int) (A : Option Addr) (cap : Nat) (L : List (List UInt8)) (w : World) (hF : FabAt w cast A cap L) (hok : fabOk cast L = true) (hr : r < L.length) (hx : x < widN cast L r) :
    Calls Try.prog 12 #[.agg #[.int .i16 cast, .slice A L.length cap], .agg #[.int .i16 (r : Int), .int .i16 (x : Int)]] w fun e w' => ∃ z : Int, e = .returned (.tuple #[.int .i64 z, .int .i64 0]) ∧ 0 ≤ z ∧ Below w.heap.size w w' := by
  have s1 := heap_alloc_new w (.cells #[.int .i16 cast, .slice A L.length cap] 27 (0, 0))
  have s2 := heap_alloc_new (w.alloc (.cells #[.int .i16 cast, .slice A L.length cap] 27 (0, 0))) (.cells #[.int .i16 (r : Int), .int .i16 (x : Int)] 39 (0, 0))
  rw [World.size_alloc] at s2
  have hb2 : Below w.heap.size w ((w.alloc (.cells #[.int .i16 cast, .slice A L.length cap] 27 (0, 0))).alloc (.cells #[.int .i16 (r : Int), .int .i16 (x : Int)] 39 (0, 0))) := below_alloc (below_alloc (Below.refl _ _) _) _
  have HA := Lib.hid (blk_alloc s1 (.cells #[.int .i16 (r : Int), .int .i16 (x : Int)] 39 (0, 0)))
  have HX := Lib.hid s2
  have HF := Lib.hid (hF.below hb2)
  have HB := Lib.hid hb2
  have hV := fabV_of hok
  have h30 := hV.num
  have CL := Lib.hid (fun w' h => c_loopCode r x cast A cap L w' h hok (by omega) hx)
  obtain ⟨ad, rfl, c0⟩ := HF.out.row r _ (strs_get hr)
  have hl120 := hV.len r hr
  have hmk : mkS (L.getD r []) ≤ 60 := by rw [hV.wd r hr]; exact hV.wid (r + 1) hr
  have htk := hV.tk r hr
  have htk60 := hV.wid r (by omega)
  rw [← htk] at htk60 hx
  have hs := hV.row r hr
  have r30 : (r : Int) < 30 := by omega
  have r0 : (0 : Int) ≤ (r : Int) := by omega
  have r1 : (r : Int) < (L.length : Int) := by omega
  have rne : ((r : Int) == (L.length : Int)) = false := by simp; omega
  clear hF hV s1 s2 hb2 htk hok
  generalize L.getD r [] = l at *
  have CST := Lib.hid (fun w' => c_stitches l (by omega) hs w')
  have CIM := Lib.hid (fun A base c w' h hc => c_indexMade A base (w.heap.size + 1) c x (r : Int) l w' h (by omega) hs hx htk60 hmk hc)
  clear hs hx htk60 hmk hl120
  go_enter Try.func12, Try.ntmps12
  go_wp2_with (first
    | (go_at_call 33; ((with_reducible refine (CL.out _ HF.out).mono ?_); rintro e w1 ⟨rfl, hb⟩; have HB1 := Lib.hid (below_then HB.out hb); have HA1 := Lib.hid (blk_below HA.out hb); have HX1 := Lib.hid (blk_below HX.out hb); have c1 := (hb.cell (World.block_lt_of_cell? _ _ c0)).trans c0; have y0 : w1.cell? ⟨w.heap.size, 0, none⟩ = some (.int .i16 cast) := blk_cell HA1.out 0; have y1 : w1.cell? ⟨w.heap.size, 1, none⟩ = some (.slice (some ad) L.length cap) := blk_cell HA1.out 1; have y2 : w1.cell? ⟨w.heap.size + 1, 0, none⟩ = some (.int .i16 (r : Int)) := blk_cell HX1.out 0; have y3 : w1.cell? ⟨w.heap.size + 1, 1, none⟩ = some (.int .i16 (x : Int)) := blk_cell HX1.out 1; clear hb))
    | (go_at_call 34; ((refine (CST.out _).mono ?_); rintro e w3 ⟨vS, rfl, hS, hb⟩; obtain ⟨AS, cS, rfl, -⟩ := own_form hS; have HS3 := Lib.hid hS; have HB3 := Lib.hid (below_then HB1.out hb); have HX3 := Lib.hid (blk_below HX1.out hb); clear hS hb))
    | (go_at_call 35; ((refine (CIM.out _ _ _ _ HS3.out HX3.out).mono ?_); rintro e w5 ⟨z, rfl, hz, hb⟩; have HZ := Lib.hid hz; have HB5 := Lib.hid (below_then HB3.out hb); clear hz hb)))
  exact bodyPost_ret (v := .tuple #[.int .i64 z, .int .i64 0]) (by simp [results, Try.results12, go_sem]) rfl ⟨z, rfl, HZ.out, HB5.out⟩
end Go.Proofs.Ytepdgbgolopejaa
