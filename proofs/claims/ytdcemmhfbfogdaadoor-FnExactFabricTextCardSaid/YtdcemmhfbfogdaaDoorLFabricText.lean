/- The law on the text of a fabric. -/
import Derived.Test.YtdcemmhfbfogdaaDoorFabJoin
import Derived.Test.YtdcemmhfbfogdaaDoorFabOpen
import Derived.Deep.RegionHeld3
import Derived.BigRegion
namespace Go.Proofs.YtdcemmhfbfogdaaDoor
open Go.RowKit
set_option linter.unusedVariables false
set_option linter.unusedSimpArgs false
set_option maxRecDepth 100000

theorem fab_drew {w : World} {a : Int} {A : Option Addr} {c : Nat} {L : List (List UInt8)} (h : FabAt w a A c L) : FabAt w.drew a A c L := ⟨h.num, h.len, h.row, h.bd⟩
/-- What the last comparing keeps. -/
abbrev FS (W : World) (g8 b2 : Nat) (a0 : Int) (A0 : Option Addr) (cap0 : Nat) (L0 : List (List UInt8)) (w' : World) : Prop :=
  (w'.cell? ⟨W.heap.size, 0, none⟩ = some (.int .i16 a0) ∧ w'.cell? ⟨W.heap.size, 1, none⟩ = some (.slice A0 L0.length cap0) ∧ w'.cell? ⟨g8, 0, none⟩ = some (.int .i16 a0) ∧ w'.cell? ⟨g8, 1, none⟩ = some (.slice (some ⟨b2, 0, none⟩) L0.length L0.length)) ∧
  Hid (FabAt w' a0 A0 cap0 L0) ∧ Hid (FabAt w' a0 (some ⟨b2, 0, none⟩) L0.length L0) ∧ Hid (Below W.heap.size W w')
section
variable {W w' w1 : World} {g8 b2 cap0 : Nat} {a0 : Int} {A0 : Option Addr} {L0 : List (List UInt8)}
theorem fs_below (hb : Below w'.heap.size w' w1) (h : FS W g8 b2 a0 A0 cap0 L0 w') : FS W g8 b2 a0 A0 cap0 L0 w1 :=
  ⟨⟨(hb.cell (World.block_lt_of_cell? w' _ h.1.1)).trans h.1.1, (hb.cell (World.block_lt_of_cell? w' _ h.1.2.1)).trans h.1.2.1, (hb.cell (World.block_lt_of_cell? w' _ h.1.2.2.1)).trans h.1.2.2.1, (hb.cell (World.block_lt_of_cell? w' _ h.1.2.2.2)).trans h.1.2.2.2⟩, h.2.1.out.below hb, h.2.2.1.out.below hb, below_then h.2.2.2.out hb⟩
theorem fs_A (h : FS W g8 b2 a0 A0 cap0 L0 w') : FabAt w' a0 A0 cap0 L0 := h.2.1.out
theorem fs_X (h : FS W g8 b2 a0 A0 cap0 L0 w') : FabAt w' a0 (some ⟨b2, 0, none⟩) L0.length L0 := h.2.2.1.out
theorem fs_B (h : FS W g8 b2 a0 A0 cap0 L0 w') : Below W.heap.size W w' := h.2.2.2.out
end
set_option maxHeartbeats 2000000 in
theorem walk_FnExactFabricText (W : World) (a0 : Int) (A0 : Option Addr) (cap0 : Nat) (L0 : List (List UInt8)) (w0 : (Lit.int .i16 a0).wf = true) (r0 : RdRow W A0 (strs L0)) (l0 : ∀ l ∈ L0, l.length ≤ maxLen) (m0 : L0.length ≤ maxLen) :
    Calls Tryd.prog 3 #[.agg #[.int .i16 a0, .slice A0 L0.length cap0]] W fun e w' => e = .returned (.bool true) ∧ Below W.heap.size W w' := by
  have hb0 : Below W.heap.size W (W.alloc (.cells #[.int .i16 a0, .slice A0 L0.length cap0] 25 (0, 0))) := below_alloc (Below.refl _ _) _
  have CZ := Lib.hid (c_szFabric a0 A0 cap0 L0 _ (r0.below hb0) m0 l0)
  have HA : Hid ((W.alloc (.cells #[.int .i16 a0, .slice A0 L0.length cap0] 25 (0, 0))).heap[W.heap.size]? = some (.cells #[.int .i16 a0, .slice A0 L0.length cap0] 25 (0, 0))) := heap_alloc_new W _
  have HB0 := Lib.hid hb0
  by_cases hlen : L0.length + lensN L0 ≤ 1048576
  · have hd : decide (szF L0.length (lensN L0) < 0) = false := by rw [szF_yes hlen]; simp; omega
    have HLN := Lib.hid hlen
    have HF : Hid (FabAt (W.alloc (.cells #[.int .i16 a0, .slice A0 L0.length cap0] 25 (0, 0))) a0 A0 cap0 L0) := ⟨by omega, fun l hl => by have := lensN_mem hl; omega, r0.below hb0, wf_i16 w0⟩
    clear hb0 r0 l0 m0 w0 hlen
    generalize hS : szF L0.length (lensN L0) = sz at *
    clear hS
    have HB : Hid (Below (W.alloc (.cells #[.int .i16 a0, .slice A0 L0.length cap0] 25 (0, 0))).heap.size (W.alloc (.cells #[.int .i16 a0, .slice A0 L0.length cap0] 25 (0, 0))) (W.alloc (.cells #[.int .i16 a0, .slice A0 L0.length cap0] 25 (0, 0)))) := Below.refl _ _
    have st1 := Lib.hid True.intro
    have st2 := Lib.hid True.intro
    have st3 := Lib.hid True.intro
    go_enter Tryd.func3, Tryd.ntmps3
    go_wp2_with (first
      | (go_at_call 7; ((with_reducible refine CZ.out.mono ?_); rintro e w1 ⟨rfl, hb⟩; have HB := Lib.hid (below_then HB.out hb); have HA := Lib.hid (blk_below HA.out hb); have xa0 : w1.cell? ⟨W.heap.size, 0, none⟩ = some (.int .i16 a0) := (blk_cell HA.out 0); have xa1 : w1.cell? ⟨W.heap.size, 1, none⟩ = some (.slice A0 L0.length cap0) := (blk_cell HA.out 1); have hza : W.heap.size < w1.heap.size := (blk_lt HA.out); (try have HX1 := Lib.hid (HX1.out.below hb)); clear hb))
      | (go_at_call 9; clear st1; ((with_reducible refine (c_toFabric a0 A0 cap0 L0 _ (HF.out.below HB.out)).mono ?_); rintro e w1 ⟨b1, rfl, hz, hX, hb⟩; have HB := Lib.hid (below_then HB.out hb); have HA := Lib.hid (blk_below HA.out hb); have xa0 : w1.cell? ⟨W.heap.size, 0, none⟩ = some (.int .i16 a0) := (blk_cell HA.out 0); have xa1 : w1.cell? ⟨W.heap.size, 1, none⟩ = some (.slice A0 L0.length cap0) := (blk_cell HA.out 1); have hza : W.heap.size < w1.heap.size := (blk_lt HA.out); (try have HX1 := Lib.hid (HX1.out.below hb)); clear hb; have HX1 := Lib.hid hX))
      | (go_at_call 9; clear st2; ((with_reducible refine (c_toFabric a0 A0 cap0 L0 _ (HF.out.below HB.out)).mono ?_); rintro e wx ⟨b2, rfl, hz, hX, hb⟩;  have HB := Lib.hid (below_then HB.out hb); have HA := Lib.hid (blk_below HA.out hb); have xa0 : wx.cell? ⟨W.heap.size, 0, none⟩ = some (.int .i16 a0) := (blk_cell HA.out 0); have xa1 : wx.cell? ⟨W.heap.size, 1, none⟩ = some (.slice A0 L0.length cap0) := (blk_cell HA.out 1); have hza : W.heap.size < wx.heap.size := (blk_lt HA.out); (try have HX1 := Lib.hid (HX1.out.below hb)); clear hb; have HX := Lib.hid hX; have HB9 := HB))
      | (go_at_call 8; ((with_reducible refine (c_sFabricText a0 (some ⟨b1, 0, none⟩) L0.length L0 _ HX1.out HLN.out).mono ?_); rintro e w1 ⟨rfl, hb⟩; have HB := Lib.hid (below_then HB.out hb); have HA := Lib.hid (blk_below HA.out hb); have xa0 : w1.cell? ⟨W.heap.size, 0, none⟩ = some (.int .i16 a0) := (blk_cell HA.out 0); have xa1 : w1.cell? ⟨W.heap.size, 1, none⟩ = some (.slice A0 L0.length cap0) := (blk_cell HA.out 1); have hza : W.heap.size < w1.heap.size := (blk_lt HA.out); (try have HX1 := Lib.hid (HX1.out.below hb)); clear hb))
      | (go_at_call 10; ((refine (c_iFabricText a0 b2 L0.length L0 _ (HX.out.below (below_alloc (Below.refl _ _) _)) (Nat.le_refl _) HLN.out).mono ?_); rintro e w1 ⟨rfl, hb⟩; have HY := Lib.hid (blk_below (heap_alloc_new _ _) hb); have HX := Lib.hid ((HX.out.below (below_alloc (Below.refl _ _) _)).below hb); have hb := below_then (below_alloc (Below.refl _ _) _) hb; have HB := Lib.hid (below_then HB.out hb); have HA := Lib.hid (blk_below HA.out hb); have xa0 : w1.cell? ⟨W.heap.size, 0, none⟩ = some (.int .i16 a0) := (blk_cell HA.out 0); have xa1 : w1.cell? ⟨W.heap.size, 1, none⟩ = some (.slice A0 L0.length cap0) := (blk_cell HA.out 1); have hza : W.heap.size < w1.heap.size := (blk_lt HA.out); (try have HX1 := Lib.hid (HX1.out.below hb)); clear hb)))
    have HFS : Hid (FS W wx.heap.size b2 a0 A0 cap0 L0 w1.drew) := ⟨⟨xa0, xa1, blk_cell HY.out 0, blk_cell HY.out 1⟩, HF.out.below (below_drew HB.out), fab_drew HX.out, below_drew (below_then HB0.out HB.out)⟩
    go_region_held3 (fun w' => (w'.cell? ⟨W.heap.size, 0, none⟩ = some (.int .i16 a0) ∧ w'.cell? ⟨W.heap.size, 1, none⟩ = some (.slice A0 L0.length cap0) ∧ w'.cell? ⟨wx.heap.size, 0, none⟩ = some (.int .i16 a0) ∧ w'.cell? ⟨wx.heap.size, 1, none⟩ = some (.slice (some ⟨b2, 0, none⟩) L0.length L0.length)) ∧
        Hid (FabAt w' a0 A0 cap0 L0) ∧ Hid (FabAt w' a0 (some ⟨b2, 0, none⟩) L0.length L0) ∧ Hid (Below W.heap.size W w'))
      (first
        | exact HFS.out
        | exact fs_below hb3 (by assumption)
        | exact fs_below hb4 (fs_below hb3 (by assumption))
        | exact fs_below hb4 (by assumption))
      (first
        | (go_at_call 9; ((with_reducible refine (c_toFabric a0 A0 cap0 L0 _ (fs_A (W := W) (g8 := wx.heap.size) (b2 := b2) (by assumption))).mono ?_); rintro e w3 ⟨b3, rfl, hz3, hX3, hb3⟩))
        | (go_at_call 11; ((with_reducible refine (c_eqFabric a0 (some ⟨b2, 0, none⟩) (some ⟨b3, 0, none⟩) L0.length L0.length L0 _ (fs_X (W := W) (g8 := wx.heap.size) (A0 := A0) (cap0 := cap0) (by assumption)) hX3).mono ?_); rintro e w4 ⟨rfl, hb4⟩)))
    go_wp2
    go_ret
    exact ⟨rfl, fs_B (W := W) (g8 := wx.heap.size) (b2 := b2) (a0 := a0) (A0 := A0) (cap0 := cap0) (L0 := L0) (by assumption)⟩
  · have hd : decide (szF L0.length (lensN L0) < 0) = true := by rw [szF_no hlen]; rfl
    clear hb0 r0 l0 m0 w0
    generalize hS : szF L0.length (lensN L0) = sz at *
    clear hS
    go_enter Tryd.func3, Tryd.ntmps3
    go_wp2_with (go_at_call 7; ((with_reducible refine CZ.out.mono ?_); rintro e w1 ⟨rfl, hb⟩; have HB := Lib.hid (below_then HB0.out hb); clear hb))
    go_ret
    exact ⟨rfl, HB.out⟩
end Go.Proofs.YtdcemmhfbfogdaaDoor
