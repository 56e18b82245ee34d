/- The law on CatchLoop. -/
import Derived.Test.YtdcemmhfbfogdaaLadRows
import Derived.Test.YtdcemmhfbfogdaaFabOpen
import Derived.Deep.RegionHeld3
import Derived.BigRegion
namespace Go.Proofs.Ytdcemmhfbfogdaa
open Go.RowKit
set_option linter.unusedVariables false
set_option linter.unusedSimpArgs false
set_option maxRecDepth 100000

/-- What the law's comparing of the argument keeps. -/
structure CInv (W : World) (gx b2 bu : Nat) (a0 : Int) (A0 : Option Addr) (cap0 : Nat) (L0 : List (List UInt8)) (vV vU : Value) (Y : List (Int × Int)) (wr : World) : Prop where
  a : wr.heap[W.heap.size]? = some (.cells #[.int .i16 a0, .slice A0 L0.length cap0] 25 (0, 0))
  x : wr.heap[gx]? = some (.cells #[.int .i16 a0, .slice (some ⟨b2, 0, none⟩) L0.length L0.length] 29 (0, 0))
  o : wr.ownsRow W.heap.size 9 1 (.slice (some ⟨b2, 0, none⟩) L0.length L0.length) L0.length (strs L0)
  v : wr.ownsRow W.heap.size 61 2 vV Y.length (lpRow Y)
  u : wr.ownsRow bu 61 2 vU Y.length (lpRow Y)
  b : Below W.heap.size W wr
/-- The cells that are read there. -/
abbrev CCel (W : World) (gx b2 : Nat) (a0 : Int) (A0 : Option Addr) (cap0 n : Nat) (w' : World) : Prop :=
  (w'.cell? ⟨W.heap.size, 0, none⟩ = some (.int .i16 a0) ∧ w'.cell? ⟨W.heap.size, 1, none⟩ = some (.slice A0 n cap0)) ∧ w'.cell? ⟨gx, 0, none⟩ = some (.int .i16 a0) ∧ w'.cell? ⟨gx, 1, none⟩ = some (.slice (some ⟨b2, 0, none⟩) n n)
section
variable {W wr w1 : World} {gx b2 bu cap0 : Nat} {a0 : Int} {A0 : Option Addr} {L0 : List (List UInt8)} {vV vU : Value} {Y : List (Int × Int)}
theorem CInv.below (h : CInv W gx b2 bu a0 A0 cap0 L0 vV vU Y wr) (hb : Below wr.heap.size wr w1) : CInv W gx b2 bu a0 A0 cap0 L0 vV vU Y w1 :=
  ⟨blk_below h.a hb, blk_below h.x hb, own_below h.o hb, own_below h.v hb, own_below h.u hb, below_then h.b hb⟩
theorem CInv.cel (h : CInv W gx b2 bu a0 A0 cap0 L0 vV vU Y wr) : CCel W gx b2 a0 A0 cap0 L0.length wr := ⟨⟨blk_cell h.a 0, blk_cell h.a 1⟩, blk_cell h.x 0, blk_cell h.x 1⟩
end
theorem fabAt_ownL {w : World} {base b : Nat} {a0 : Int} {L : List (List UInt8)} (hn : L.length ≤ 1048576) (hl : ∀ l ∈ L, l.length ≤ 1048576) (hb : -32768 ≤ a0 ∧ a0 ≤ 32767) (h : w.ownsRow base 9 1 (.slice (some ⟨b, 0, none⟩) L.length L.length) L.length (strs L)) : FabAt w a0 (some ⟨b, 0, none⟩) L.length L := ⟨hn, hl, own_rd h, hb⟩
theorem catchF_le {cast : Int} {L : List (List UInt8)} {at_ row : Int} : (catchF cast L at_ row).1.length ≤ 2000 := by
  cases q1 : fabOk cast L
  · rw [catch_bad q1]; simp
  · by_cases h : inB at_ 0 ((widN cast L L.length : Int) - 1) = true ∧ inB row 0 L.length = true
    · rw [catch_in q1 h.1 h.2]
      have hV := fabV_of q1
      have h2 : 0 ≤ at_ ∧ at_ ≤ (widN cast L L.length : Int) - 1 := by simpa [inB] using h.1
      have := ladU_len hV (at_ := at_.toNat) (by omega) (L.length - row.toNat) (by omega)
      have := hV.num
      show (ladU L at_.toNat (L.length - row.toNat)).length ≤ 2000
      omega
    · rw [catch_out q1 h]; simp
set_option maxHeartbeats 4000000 in
theorem walk_FnExactCatchLoop (W : World) (a0 : Int) (A0 : Option Addr) (cap0 : Nat) (L0 : List (List UInt8)) (w0 : (Lit.int .i16 a0).wf = true) (r0 : RdRow W A0 (strs L0)) (l0 : ∀ l ∈ L0, l.length ≤ maxLen) (m0 : L0.length ≤ maxLen) (a1 : Int) (w1 : (Lit.int .i64 a1).wf = true) (a2 : Int) (w2 : (Lit.int .i64 a2).wf = true) :
    Calls Try.prog 4 #[.agg #[.int .i16 a0, .slice A0 L0.length cap0], .int .i64 a1, .int .i64 a2] W fun e w' => e = .returned (.bool true) ∧ Below W.heap.size W w' := by
  have hb0 : Below W.heap.size W (W.alloc (.cells #[.int .i16 a0, .slice A0 L0.length cap0] 25 (0, 0))) := below_alloc (Below.refl _ _) _
  have CZ := Lib.hid (c_szFabric a0 A0 cap0 L0 _ (r0.below hb0) m0 l0)
  have HA : Hid ((W.alloc (.cells #[.int .i16 a0, .slice A0 L0.length cap0] 25 (0, 0))).heap[W.heap.size]? = some (.cells #[.int .i16 a0, .slice A0 L0.length cap0] 25 (0, 0))) := heap_alloc_new W _
  have HB := Lib.hid hb0
  by_cases hlen : L0.length + lensN L0 ≤ 1048576
  · have hd : decide (szF L0.length (lensN L0) < 0) = false := by rw [szF_yes hlen]; simp; omega
    have hn : L0.length ≤ 1048576 := by omega
    have hls : Hid (∀ l ∈ L0, l.length ≤ 1048576) := fun l hl => by have := lensN_mem hl; omega
    have hbd := Lib.hid (wf_i16 w0)
    have HF : Hid (FabAt W a0 A0 cap0 L0) := ⟨hn, hls.out, r0, wf_i16 w0⟩
    have HFO := Lib.hid (fun w base b h => fabAt_ownL (w := w) (base := base) (b := b) hn hls.out hbd.out h)
    have CSP := Lib.hid (fun b c w h => c_sCatchLoop a0 a1 a2 (some ⟨b, 0, none⟩) c L0 w h)
    have CIM := Lib.hid (fun b c w h => c_iCatchLoop a0 a1 a2 (some ⟨b, 0, none⟩) c L0 w h)
    have hY := catchF_le (cast := a0) (L := L0) (at_ := a1) (row := a2)
    have HYL : Hid ((catchF a0 L0 a1 a2).1.length ≤ 1048576) := by rw [Hid]; omega
    unfold LpEnd at CSP CIM
    generalize (catchF a0 L0 a1 a2).1 = Y at *
    generalize (catchF a0 L0 a1 a2).2 = kc at *
    have qm : decide ((1 : Int) + ((Y.length * 2 : Nat) : Int) < 0) = false := by simp; omega
    have qn : decide ((1 : Int) + (L0.length : Int) < 0) = false := by simp; omega
    clear hb0 r0 l0 m0 w0 w1 w2 hlen hls hbd
    generalize hS : szF L0.length (lensN L0) = sz at *
    clear hS
    have st1 := Lib.hid True.intro
    have st2 := Lib.hid True.intro
    have st3 := Lib.hid True.intro
    go_enter Try.func4, Try.ntmps4
    go_wp2_with (first
      | (go_at_call 5; ((with_reducible refine CZ.out.mono ?_); rintro e w1 ⟨rfl, hb⟩; have HB := Lib.hid (below_then HB.out hb); have HA := Lib.hid (blk_below HA.out hb); have xa0 : w1.cell? ⟨W.heap.size, 0, none⟩ = some (.int .i16 a0) := (blk_cell HA.out 0); have xa1 : w1.cell? ⟨W.heap.size, 1, none⟩ = some (.slice A0 L0.length cap0) := (blk_cell HA.out 1); have hza : W.heap.size < w1.heap.size := (blk_lt HA.out); clear hb))
      | (go_at_call 7; clear st1; ((refine (c_toFabric a0 A0 cap0 L0 _ (HF.out.below HB.out)).mono ?_); rintro e w1 ⟨b1, rfl, -, hX, hb⟩; have HB := Lib.hid (below_then HB.out hb); have HA := Lib.hid (blk_below HA.out hb); have xa0 : w1.cell? ⟨W.heap.size, 0, none⟩ = some (.int .i16 a0) := (blk_cell HA.out 0); have xa1 : w1.cell? ⟨W.heap.size, 1, none⟩ = some (.slice A0 L0.length cap0) := (blk_cell HA.out 1); have hza : W.heap.size < w1.heap.size := (blk_lt HA.out); clear hb; have HX1 := Lib.hid hX; clear hX))
      | (go_at_call 7; clear st2; ((refine (c_toFabricO a0 A0 cap0 L0 _ (HF.out.below HB.out)).mono ?_); rintro e wx ⟨b2, rfl, hX, hb⟩; have HV := Lib.hid (own_below HV.out hb); have hX := own_mono hX HB.out.size; have HB := Lib.hid (below_then HB.out hb); have HA := Lib.hid (blk_below HA.out hb); have xa0 : wx.cell? ⟨W.heap.size, 0, none⟩ = some (.int .i16 a0) := (blk_cell HA.out 0); have xa1 : wx.cell? ⟨W.heap.size, 1, none⟩ = some (.slice A0 L0.length cap0) := (blk_cell HA.out 1); have hza : W.heap.size < wx.heap.size := (blk_lt HA.out); clear hb; have HX := Lib.hid hX; clear hX))
      | (go_at_call 10; ((refine (CSP.out b1 _ _ HX1.out).mono ?_); rintro e w1 ⟨vV, rfl, hO, hb⟩; have HV := Lib.hid (own_mono hO HB.out.size); have HB := Lib.hid (below_then HB.out hb); have HA := Lib.hid (blk_below HA.out hb); have xa0 : w1.cell? ⟨W.heap.size, 0, none⟩ = some (.int .i16 a0) := (blk_cell HA.out 0); have xa1 : w1.cell? ⟨W.heap.size, 1, none⟩ = some (.slice A0 L0.length cap0) := (blk_cell HA.out 1); have hza : W.heap.size < w1.heap.size := (blk_lt HA.out); clear hb; clear hO HX1))
      | (go_at_call 11; clear st3; ((refine (CIM.out b2 _ _ (HFO.out _ _ _ (HX.out.alloc _))).mono ?_); rintro e w1 ⟨vU, rfl, hO, hb⟩; have AVU := Lib.hid (apart_of (own_lo (HV.out.alloc _) (Nat.le_refl _)) (own_up hO)); have HBX := Lib.hid (blk_below (heap_alloc_new wx _) hb); have HX := Lib.hid (own_below (HX.out.alloc _) hb); have HV := Lib.hid (own_below (HV.out.alloc _) hb); have HU := Lib.hid (own_mono hO (below_alloc HB.out _).size); have HA := Lib.hid (blk_below (blk_alloc HA.out _) hb); have xa0 := blk_cell HA.out 0; have xa1 := blk_cell HA.out 1; have HB := Lib.hid (below_then (below_alloc HB.out _) hb); have xx0 := blk_cell HBX.out 0; have xx1 := blk_cell HBX.out 1; clear hO hb))
      | (go_at_call 12; ((refine (c_eqLoopS _ _ _ _ Y _ HU.out HV.out HYL.out).mono ?_); rintro e w5 ⟨rfl, hb⟩; have HI : Hid (CInv W wx.heap.size b2 W.heap.size a0 A0 cap0 L0 vV vU Y w5) := ⟨blk_below HA.out hb, blk_below HBX.out hb, own_below HX.out hb, own_below HV.out hb, own_below HU.out hb, below_then HB.out hb⟩; clear hb)))
    have HSi : Hid (CCel W wx.heap.size b2 a0 A0 cap0 L0.length w5.drew ∧ Hid (CInv W wx.heap.size b2 W.heap.size a0 A0 cap0 L0 vV vU Y w5.drew)) := ⟨(HI.out.below (below_drew (Below.refl _ _))).cel, HI.out.below (below_drew (Below.refl _ _))⟩
    have CTF := Lib.hid (fun w h => c_toFabric a0 A0 cap0 L0 w (HF.out.below h))
    have CEF := Lib.hid (fun w base b3 h h3 => c_eqFabric a0 (some ⟨b2, 0, none⟩) (some ⟨b3, 0, none⟩) L0.length L0.length L0 w (HFO.out w base b2 h) h3)
    have HF0 := HF
    clear HA HBX HX HV HU HB xa0 xa1 xx0 xx1 HI
    (first
      | go_region_held3 (fun w' => ((w'.cell? ⟨W.heap.size, 0, none⟩ = some (.int .i16 a0) ∧ w'.cell? ⟨W.heap.size, 1, none⟩ = some (.slice A0 L0.length cap0)) ∧ w'.cell? ⟨wx.heap.size, 0, none⟩ = some (.int .i16 a0) ∧ w'.cell? ⟨wx.heap.size, 1, none⟩ = some (.slice (some ⟨b2, 0, none⟩) L0.length L0.length)) ∧ Hid (CInv W wx.heap.size b2 W.heap.size a0 A0 cap0 L0 vV vU Y w'))
          (first
            | with_reducible exact HSi.out
            | with_reducible exact HS6.out
            | with_reducible exact HS7.out)
          (first
            | (go_at_call 7; ((with_reducible refine (CTF.out _ HSi.out.2.out.b).mono ?_); rintro e w6 ⟨b3, rfl, -, hX3, hb⟩; have HX3 := Lib.hid hX3; have HS6 : Hid (CCel W wx.heap.size b2 a0 A0 cap0 L0.length w6 ∧ Hid (CInv W wx.heap.size b2 W.heap.size a0 A0 cap0 L0 vV vU Y w6)) := ⟨(HSi.out.2.out.below hb).cel, HSi.out.2.out.below hb⟩; clear hX3 hb))
            | (go_at_call 9; ((with_reducible refine (CEF.out _ _ b3 HS6.out.2.out.o HX3.out).mono ?_); rintro e w7 ⟨rfl, hb⟩; have HS7 : Hid (CCel W wx.heap.size b2 a0 A0 cap0 L0.length w7 ∧ Hid (CInv W wx.heap.size b2 W.heap.size a0 A0 cap0 L0 vV vU Y w7)) := ⟨(HS6.out.2.out.below hb).cel, HS6.out.2.out.below hb⟩; clear hb)))
      | fail)
    have hJ := HS7.out.2.out
    have HX := Lib.hid hJ.o
    have HBX := Lib.hid hJ.x
    have HV := Lib.hid hJ.v
    have HU := Lib.hid hJ.u
    have HA := Lib.hid hJ.a
    have HB := Lib.hid hJ.b
    have xx0 := blk_cell hJ.x 0
    have xx1 := blk_cell hJ.x 1
    have xa0 := blk_cell hJ.a 0
    have xa1 := blk_cell hJ.a 1
    clear hJ HS7 HS6 HSi CTF CEF HX3
    go_wp2_with (first
      | (go_at_call 13; ((refine (c_markFabric a0 (some ⟨b2, 0, none⟩) L0.length _ 1 L0 _ HX.out hn (by omega) (by omega)).mono ?_); rintro e w8 ⟨rfl, hO, hG⟩; have HV := Lib.hid (row_grown3 HV.out HX.out (by decide) hG); have HU := Lib.hid (row_grown3 HU.out HX.out (by decide) hG); have HA := Lib.hid (blk_grownT HA.out HX.out (by decide) hG); have xa0 := blk_cell HA.out 0; have xa1 := blk_cell HA.out 1; have HB := Lib.hid (below_grown HB.out hG HX.out (Nat.le_refl _) HB.out.size); clear hO hG HX HBX xx0 xx1))
      | (go_at_call 12; ((refine (c_eqLoopS _ _ _ _ Y _ HH.out HV.out HYL.out).mono ?_); rintro e w9 ⟨rfl, hb⟩; have HV := Lib.hid (own_below HV.out hb); have HU := Lib.hid (own_below HU.out hb); have HA := Lib.hid (blk_below HA.out hb); have xa0 := blk_cell HA.out 0; have xa1 := blk_cell HA.out 1; have HB := Lib.hid (below_then HB.out hb); clear hb HH))
      | (go_at_call 12; ((refine (c_eqLoopS _ _ _ _ Y _ HU.out HV.out HYL.out).mono ?_); rintro e w9 ⟨rfl, hb⟩; have HV := Lib.hid (own_below HV.out hb); have HU := Lib.hid (own_below HU.out hb); have HA := Lib.hid (blk_below HA.out hb); have xa0 := blk_cell HA.out 0; have xa1 := blk_cell HA.out 1; have HB := Lib.hid (below_then HB.out hb); clear hb))
      | (go_at_call 14; ((refine (c_markLoop1 _ _ _ _ _ HU.out HYL.out).mono ?_); rintro e w10 ⟨rfl, hO, ht⟩; have HA := Lib.hid (blk_touV HA.out ht (blk_differ HA.out HU.out (by decide))); have xa0 := blk_cell HA.out 0; have xa1 := blk_cell HA.out 1; have HB := Lib.hid (HB.out.trans (ht.below (own_up hO))); have HV := Lib.hid (own_touV HV.out ht AVU.out.ne); have HU := Lib.hid hO; clear hO ht))
      | (go_at_call 15; ((refine (c_heldLoop1 _ _ _ _ HU.out HYL.out).mono ?_); rintro e w11 ⟨rfl, rfl⟩))
      | (go_at_call 7; ((refine (c_toFabric a0 A0 cap0 L0 _ (HF.out.below HB.out)).mono ?_); rintro e w12 ⟨b4, rfl, -, hX, hb⟩; have HV := Lib.hid (own_below HV.out hb); have HU := Lib.hid (own_below HU.out hb); have HA := Lib.hid (blk_below HA.out hb); have xa0 := blk_cell HA.out 0; have xa1 := blk_cell HA.out 1; have HB := Lib.hid (below_then HB.out hb); have HX4 := Lib.hid hX; clear hX hb))
      | (go_at_call 11; ((refine (CIM.out b4 _ _ HX4.out).mono ?_); rintro e w13 ⟨vH, rfl, hO, hb⟩; have HV := Lib.hid (own_below HV.out hb); have HU := Lib.hid (own_below HU.out hb); have HA := Lib.hid (blk_below HA.out hb); have xa0 := blk_cell HA.out 0; have xa1 := blk_cell HA.out 1; have HB := Lib.hid (below_then HB.out hb); have HH := Lib.hid hO; clear hO hb HX4)))
    go_ret
    exact ⟨rfl, HB.out⟩
  · have hd : decide (szF L0.length (lensN L0) < 0) = true := by rw [szF_no hlen]; rfl
    clear hb0 r0 l0 m0 w0 w1 w2
    generalize hS : szF L0.length (lensN L0) = sz at *
    go_enter Try.func4, Try.ntmps4
    go_wp2_with (go_at_call 5; ((with_reducible refine CZ.out.mono ?_); rintro e w1 ⟨rfl, hb⟩; have HB := Lib.hid (below_then HB.out hb)))
    go_ret
    exact ⟨rfl, HB.out⟩
end Go.Proofs.Ytdcemmhfbfogdaa
