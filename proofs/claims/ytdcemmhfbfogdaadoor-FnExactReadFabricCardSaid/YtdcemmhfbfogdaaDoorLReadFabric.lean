/- The law on reading a fabric. -/
import Derived.Test.YtdcemmhfbfogdaaDoorMarkText
namespace Go.Proofs.YtdcemmhfbfogdaaDoor
open Go.RowKit
set_option linter.unusedVariables false
set_option linter.unusedSimpArgs false
set_option maxRecDepth 100000

theorem grown_trans {w w1 w2 : World} {r : Option Nat} (h : w.grownBy w1 r) (h' : w1.grownBy w2 r) : w.grownBy w2 r :=
  ⟨h'.os.trans h.os, h'.tape.trans h.tape, h'.output.trans h.output, Nat.le_trans h.size h'.size, fun k hk hr => (h'.block k (Nat.lt_of_lt_of_le hk h.size) hr).trans (h.block k hk hr)⟩
theorem grown_alloc (w : World) (o : Obj) (r : Option Nat) : w.grownBy (w.alloc o) r := grown_below (grown_refl w r) (below_alloc (Below.refl _ _) _)
theorem c_markFabric (C : Int) (A : Option Addr) (cap base k0 : Nat) (L : List (List UInt8)) (w : World) (h : w.ownsRow base 9 1 (.slice A L.length cap) L.length (strs L)) (hn : L.length ≤ 1048576) (h1 : 1 ≤ k0) (h2 : k0 ≤ 1048576) :
    Calls Tryd.prog 14 #[.agg #[.int .i16 C, .slice A L.length cap], .int .i64 (k0 : Int)] w fun e w' => e = .returned (.int .i64 ((k0 : Int) + (L.length : Int))) ∧ w'.ownsRow base 9 1 (.slice A L.length cap) L.length (strs (mkA k0 L.length)) ∧ w.grownBy w' (Value.slice A L.length cap).ownBlock := by
  have CM := Lib.hid (c_markStringS (.slice A L.length cap) base k0 L (w.alloc (.cells #[.int .i16 C, .slice A L.length cap] 28 (0, 0))) (h.alloc _) hn h1 h2)
  clear h
  go_enter Tryd.func14, Tryd.ntmps14
  go_wp2_with (go_at_call 38; ((with_reducible refine CM.out.mono ?_); rintro e w1 ⟨rfl, hO, hG⟩))
  exact bodyPost_ret (v := .int .i64 ((k0 : Int) + (L.length : Int))) (by simp [results, Tryd.results14, go_sem]) rfl ⟨rfl, hO, grown_trans (grown_alloc _ _ _) hG⟩
theorem c_heldFabric (C : Int) (A : Option Addr) (cap base k0 n : Nat) (w : World) (h : w.ownsRow base 9 1 (.slice A n cap) n (strs (mkA k0 n))) (hn : n ≤ 1048576) (h1 : 1 ≤ k0) (h2 : k0 ≤ 1048576) :
    Calls Tryd.prog 15 #[.agg #[.int .i16 C, .slice A n cap], .int .i64 (k0 : Int)] w fun e w' => e = .returned (.int .i64 ((k0 : Int) + (n : Int))) ∧ Below w.heap.size w w' := by
  have CM := Lib.hid (c_heldStringS (.slice A n cap) base k0 n (w.alloc (.cells #[.int .i16 C, .slice A n cap] 28 (0, 0))) (h.alloc _) hn h1 h2)
  have d1 : decide ((k0 : Int) + (n : Int) < 0) = false := by simp; omega
  clear h
  go_enter Tryd.func15, Tryd.ntmps15
  go_wp2_with (go_at_call 39; ((with_reducible refine CM.out.mono ?_); rintro e w1 ⟨rfl, hb⟩; have hb2 := below_then (below_alloc (Below.refl w.heap.size w) _) hb))
  exact bodyPost_ret (v := .int .i64 ((k0 : Int) + (n : Int))) (by simp [results, Tryd.results15, go_sem]) rfl ⟨rfl, hb2⟩
theorem blk_grownNe {w w1 : World} {k : Nat} {o : Obj} {r : Option Nat} (h : w.heap[k]? = some o) (hG : w.grownBy w1 r) (hr : ∀ i, r = some i → k ≠ i) : w1.heap[k]? = some o :=
  (hG.block k (blk_lt h) (fun e => hr k e.symm rfl)).trans h
theorem fabAt_own {t : List UInt8} (ht : t.length ≤ 1048576) {w : World} {base : Nat} {A : Option Addr} {c : Nat} (h : w.ownsRow base 9 1 (.slice A (rdL t).length c) (rdL t).length (strs (rdL t))) : FabAt w (rdC t) A c (rdL t) :=
  ⟨by have := (rd_num t).1; omega, fun l hl => Nat.le_trans (rd_lens t l hl) ht, own_rd h, (rd_num t).2⟩
theorem str_all (a : ByteArray) : ∃ t : List UInt8, a = str t := ⟨a.data.toList, (str_of_data a).symm⟩
set_option maxHeartbeats 8000000 in
theorem walk_FnExactReadFabric (W : World) (a0 : ByteArray) (w0 : a0.size ≤ 140737488351232) (hL : Laid W) :
    Calls Tryd.prog 4 #[.string a0] W fun e w' => e = .returned (.bool true) ∧ Below W.heap.size W w' := by
  obtain ⟨t, rfl⟩ := str_all a0
  have hsz : (str t).size = t.length := str_size t
  by_cases hlen : t.length ≤ 1048576
  · have dl : decide ((1048576 : Int) < (t.length : Int)) = false := by simp; omega
    have CSP := Lib.hid (c_sReadFabric t hlen W)
    have CIM := Lib.hid (fun w hb => c_iReadFabric t hlen w (hL.below hb))
    have hnum := (rd_num t).1
    have HFA := Lib.hid (fun w base A c h => fabAt_own hlen (w := w) (base := base) (A := A) (c := c) h)
    have HI : ∀ C A n c, Hid ((Tryd.prog.info? 28).map (·.size) = some (fabCells C A n c).size) := fun C A n c => Lib.hid (show (Tryd.prog.info? 28).map (·.size) = some (fabCells C A n c).size from by kernel_rfl)
    clear hL
    unfold RdEnd at CSP CIM
    generalize rdC t = C at *
    generalize rdL t = L at *
    generalize rdE t = E at *
    have hn : L.length ≤ 1048576 := by omega
    have q0 : decide ((1 : Int) + (L.length : Int) < 0) = false := by simp; omega
    have st1 := Lib.hid True.intro
    have st2 := Lib.hid True.intro
    have st3 := Lib.hid True.intro
    go_enter Tryd.func4, Tryd.ntmps4
    go_wp2_with (first
      | (go_at_call 12; ((with_reducible refine CSP.out.mono ?_); rintro e w1 ⟨v, rfl, hO, hb⟩; obtain ⟨A0, c0, rfl, _⟩ := own_form hO; have HO0 := Lib.hid hO; have HB := Lib.hid hb; clear hO hb CSP))
      | (go_at_call 13; clear st1; (refine (CIM.out _ (below_alloc HB.out _)).mono ?_); rintro e w2 ⟨v, rfl, hO, hb⟩; obtain ⟨A5, c5, rfl, _⟩ := own_form hO; have HA05 := Lib.hid (apart_of (own_lo (HO0.out.alloc _) (Nat.le_refl _)) (own_up hO)); have HUP := Lib.hid (own_up hO); have HLO := Lib.hid (own_lo hO (Nat.le_refl _)); have HO0 := Lib.hid (own_below (HO0.out.alloc _) hb); have HF3 := Lib.hid (blk_below (heap_alloc_new w1 _) hb); have x3a : w2.cell? ⟨w1.heap.size, 0, none⟩ = some (.int .i16 C) := (blk_cell HF3.out 0); have x3b : w2.cell? ⟨w1.heap.size, 1, none⟩ = some (.slice A0 L.length c0) := (blk_cell HF3.out 1); have z3 : w1.heap.size < w2.heap.size := (blk_lt HF3.out); have HW := Lib.hid (below_alloc HB.out (.cells (fabCells C A0 L.length c0) 28 (0, 0))).size; have HB := Lib.hid ((below_alloc HB.out _).trans (hb.mono (below_alloc HB.out _).size)); have HO5 := Lib.hid hO; clear hO hb)
      | (go_at_call 11; clear st2; (refine (c_eqFabric C A5 A0 c5 c0 L _ (HFA.out _ _ _ _ (HO5.out.alloc _)) (HFA.out _ _ _ _ (HO0.out.alloc _))).mono ?_); rintro e w3 ⟨rfl, hb⟩; have HO0 := Lib.hid (own_below (HO0.out.alloc _) hb); have HO5 := Lib.hid (own_below (HO5.out.alloc _) hb); have HF3 := Lib.hid (blk_below (blk_alloc HF3.out _) hb); have HF5 := Lib.hid (blk_below (heap_alloc_new w2 _) hb); have x3a : w3.cell? ⟨w1.heap.size, 0, none⟩ = some (.int .i16 C) := (blk_cell HF3.out 0); have x3b : w3.cell? ⟨w1.heap.size, 1, none⟩ = some (.slice A0 L.length c0) := (blk_cell HF3.out 1); have z3 : w1.heap.size < w3.heap.size := (blk_lt HF3.out); have x5a : w3.cell? ⟨w2.heap.size, 0, none⟩ = some (.int .i16 C) := (blk_cell HF5.out 0); have x5b : w3.cell? ⟨w2.heap.size, 1, none⟩ = some (.slice A5 L.length c5) := (blk_cell HF5.out 1); have z5 : w2.heap.size < w3.heap.size := (blk_lt HF5.out); have HB := Lib.hid ((below_alloc HB.out _).trans (hb.mono (below_alloc HB.out _).size)); clear hb)
      | (go_at_call 14; go_loud ((refine (c_markFabric C A5 c5 _ 1 L _ HO5.out hn (by omega) (by omega)).mono ?_); rintro e w4 ⟨rfl, hO, hG⟩; have HB4 := Lib.hid (below_grown HB.out hG HO5.out HW.out HB.out.size); have HO0 := Lib.hid (HO0.out.kept hG HA05.out.ne); have HF3 := Lib.hid (blk_grownNe HF3.out hG (fun i hi => (by have := HUP.out i hi; rw [World.size_alloc] at this; omega))); have HF5 := Lib.hid (blk_grownNe HF5.out hG (fun i hi => (by have := HLO.out i hi; omega))); have x3a : w4.cell? ⟨w1.heap.size, 0, none⟩ = some (.int .i16 C) := (blk_cell HF3.out 0); have x3b : w4.cell? ⟨w1.heap.size, 1, none⟩ = some (.slice A0 L.length c0) := (blk_cell HF3.out 1); have z3 : w1.heap.size < w4.heap.size := (blk_lt HF3.out); have x5a : w4.cell? ⟨w2.heap.size, 0, none⟩ = some (.int .i16 C) := (blk_cell HF5.out 0); have x5b : w4.cell? ⟨w2.heap.size, 1, none⟩ = some (.slice A5 L.length c5) := (blk_cell HF5.out 1); have z5 : w2.heap.size < w4.heap.size := (blk_lt HF5.out); have HO5 := Lib.hid hO; have HB := HB4; clear hO hG HB4))
      | (go_at_call 15; clear st3; go_loud ((refine (c_heldFabric C A5 c5 _ 1 L.length _ HO5.out hn (by omega) (by omega)).mono ?_); rintro e w5 ⟨rfl, hb⟩; have HO0 := Lib.hid (own_below HO0.out hb); have HO5 := Lib.hid (own_below HO5.out hb); have HF3 := Lib.hid (blk_below HF3.out hb); have HF5 := Lib.hid (blk_below HF5.out hb); have x3a : w5.cell? ⟨w1.heap.size, 0, none⟩ = some (.int .i16 C) := (blk_cell HF3.out 0); have x3b : w5.cell? ⟨w1.heap.size, 1, none⟩ = some (.slice A0 L.length c0) := (blk_cell HF3.out 1); have z3 : w1.heap.size < w5.heap.size := (blk_lt HF3.out); have x5a : w5.cell? ⟨w2.heap.size, 0, none⟩ = some (.int .i16 C) := (blk_cell HF5.out 0); have x5b : w5.cell? ⟨w2.heap.size, 1, none⟩ = some (.slice A5 L.length c5) := (blk_cell HF5.out 1); have z5 : w2.heap.size < w5.heap.size := (blk_lt HF5.out); have HB := Lib.hid (below_then HB.out hb); clear hb))
      | (go_at_call 13; go_loud ((refine (CIM.out _ HB.out).mono ?_); rintro e w6 ⟨v, rfl, hO, hb⟩; obtain ⟨A9, c9, rfl, _⟩ := own_form hO; have HO0 := Lib.hid (own_below HO0.out hb); have HO5 := Lib.hid (own_below HO5.out hb); have HF3 := Lib.hid (blk_below HF3.out hb); have HF5 := Lib.hid (blk_below HF5.out hb); have x3a : w6.cell? ⟨w1.heap.size, 0, none⟩ = some (.int .i16 C) := (blk_cell HF3.out 0); have x3b : w6.cell? ⟨w1.heap.size, 1, none⟩ = some (.slice A0 L.length c0) := (blk_cell HF3.out 1); have z3 : w1.heap.size < w6.heap.size := (blk_lt HF3.out); have x5a : w6.cell? ⟨w2.heap.size, 0, none⟩ = some (.int .i16 C) := (blk_cell HF5.out 0); have x5b : w6.cell? ⟨w2.heap.size, 1, none⟩ = some (.slice A5 L.length c5) := (blk_cell HF5.out 1); have z5 : w2.heap.size < w6.heap.size := (blk_lt HF5.out); have HB := Lib.hid (below_then HB.out hb); have HO9 := Lib.hid hO; clear hO hb))
      | (go_at_call 11; go_loud ((refine (c_eqFabric C A9 A0 c9 c0 L _ (HFA.out _ _ _ _ (HO9.out.alloc _)) (HFA.out _ _ _ _ (HO0.out.alloc _))).mono ?_); rintro e w7 ⟨rfl, hb⟩; have HO5 := Lib.hid (own_below (HO5.out.alloc _) hb); have HF5 := Lib.hid (blk_below (blk_alloc HF5.out _) hb); have x5a : w7.cell? ⟨w2.heap.size, 0, none⟩ = some (.int .i16 C) := (blk_cell HF5.out 0); have x5b : w7.cell? ⟨w2.heap.size, 1, none⟩ = some (.slice A5 L.length c5) := (blk_cell HF5.out 1); have z5 : w2.heap.size < w7.heap.size := (blk_lt HF5.out); have HB := Lib.hid ((below_alloc HB.out _).trans (hb.mono (below_alloc HB.out _).size)); clear hb))
      | (go_at_call 15; go_loud ((refine (c_heldFabric C A5 c5 _ 1 L.length _ HO5.out hn (by omega) (by omega)).mono ?_); rintro e w8 ⟨rfl, hb⟩; have HB := Lib.hid (below_then HB.out hb); clear hb)))
    go_ret
    exact ⟨rfl, HB.out⟩
  · have dl : decide ((1048576 : Int) < (t.length : Int)) = true := by simp; omega
    go_enter Tryd.func4, Tryd.ntmps4
    go_wp2
    go_ret
    exact ⟨rfl, Below.refl _ _⟩
end Go.Proofs.YtdcemmhfbfogdaaDoor
