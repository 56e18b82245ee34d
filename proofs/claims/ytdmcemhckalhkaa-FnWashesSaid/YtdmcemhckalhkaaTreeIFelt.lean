/- The least felted clean cloth: the program's function. -/
import Derived.Test.YtdmcemhckalhkaaTreeThree
import Derived.BigRegion
namespace Go.Proofs.Ytdmcemhckalhkaa
open Go.RowKit
set_option linter.unusedVariables false
set_option linter.unusedSimpArgs false
set_option maxRecDepth 100000

set_option maxHeartbeats 4000000 in
theorem c_iLeastFelt (A : Option Addr) (a b c d e : Int) (n cap : Nat) (p q r : Nat → Int) (M : Int) (w : World) (ha : -32768 ≤ a ∧ a ≤ 32767) (hb : -32768 ≤ b ∧ b ≤ 32767) (h : ProgsAt w A n p q r) (hn : n ≤ 1048576) (hg : ∀ j, j < n → (-128 ≤ r j ∧ r j ≤ 127) ∧ (-128 ≤ p j ∧ p j ≤ 127) ∧ (-128 ≤ q j ∧ q j ≤ 127)) :
    Calls Try.prog 12 #[.agg #[.int .i16 a, .int .i16 b, .int .i8 c, .int .i8 d, .int .i8 e], .slice A n cap, .int .i64 M] w fun u w' => ∃ v, u = .returned (.tuple #[v, .agg (bestR feltF a b c d e n p q r M).1.c.cells, .int .i64 (bestR feltF a b c d e n p q r M).2]) ∧ w'.ownsRow w.heap.size 2 1 v (bestR feltF a b c d e n p q r M).1.o.length (nums .i64 (bestR feltF a b c d e n p q r M).1.o) ∧ Below w.heap.size w w' := by
  have HB0 : Hid (Below w.heap.size w ((w.alloc (.cells #[.int .i16 a, .int .i16 b, .int .i8 c, .int .i8 d, .int .i8 e] 27 (0, 0))).alloc (.cells #[.int .i16 0, .int .i16 0, .int .i8 0, .int .i8 0, .int .i8 0] 27 (0, 0)))) := below_alloc (below_alloc (Below.refl _ _) _) _
  have HC := Lib.hid (blk_alloc (heap_alloc_new w (.cells #[.int .i16 a, .int .i16 b, .int .i8 c, .int .i8 d, .int .i8 e] 27 (0, 0))) (.cells #[.int .i16 0, .int .i16 0, .int .i8 0, .int .i8 0, .int .i8 0] 27 (0, 0)))
  have hRS := heap_alloc_new (w.alloc (.cells #[.int .i16 a, .int .i16 b, .int .i8 c, .int .i8 d, .int .i8 e] 27 (0, 0))) (.cells #[.int .i16 0, .int .i16 0, .int .i8 0, .int .i8 0, .int .i8 0] 27 (0, 0))
  rw [World.size_alloc] at hRS
  have HRS := Lib.hid hRS
  clear hRS
  have HIC : Hid ((Try.prog.info? 27).map (·.size) = some 5) := by show (Try.prog.info? 27).map (·.size) = some 5; kernel_rfl
  have HIW : Hid ((Try.prog.info? 69).map (·.size) = some 6) := by show (Try.prog.info? 69).map (·.size) = some 6; kernel_rfl
  have he : ∀ args w, (callFunc 45 args).run Try.prog w = .ok (.enter 45 args) w := enters_of Try.func45 (by kernel_rfl) rfl
  have cb := c_bestWashing 45 he feltF c_felt1 A a b c d e n cap p q r M _ ha hb (h.below HB0.out) hn hg
  have hok := bestR_ok (f := feltF) (a := a) (b := b) (c := c) (d := d) (e := e) (n := n) (p := p) (q := q) (r := r) (M := M)
  generalize (bestR feltF a b c d e n p q r M) = R at cb hok ⊢
  obtain ⟨⟨⟨z0, z1, z2, z3, z4⟩, zo⟩, kc⟩ := R
  simp only [wcells, Cl.cells] at cb hok ⊢
  have CB := Lib.hid cb
  clear cb h hg ha hb he hok
  go_enter Try.func12, Try.ntmps12
  go_wp2_with (first
    | (refine wpList_load_row rfl 27 (.tmp 3) rfl (w.heap.size) rfl 27 #[.int .i16 a, .int .i16 b, .int .i8 c, .int .i8 d, .int .i8 e] (0, 0) _ ?_ Try.underlying27 rfl HIC.out ?_; (with_reducible exact HC.out))
    | (go_at_call 40; ((with_reducible refine CB.out.mono ?_); rintro u w1 ⟨v, rfl, hO, hb1⟩; have HO := Lib.hid hO; have HV := Lib.hid (own_slice hO); have HB1 := Lib.hid (below_then HB0.out hb1); have HRS1 := Lib.hid (blk_below HRS.out hb1); clear hO hb1))
    | (refine ev_store_row rfl 69 (.tmp 9) (.tmp 16) rfl (w1.heap.size) #[v, .int .i16 z0, .int .i16 z1, .int .i8 z2, .int .i8 z3, .int .i8 z4] rfl rfl 69 _ (heap_alloc_new w1 _) HIW.out (Eq.refl (6 : Nat)) (wc_one HV.out _ _ _ _ _) ?_; intro w2 hblk ht; have hb := below_alloc_tou2 ht; clear ht; have HO2 := Lib.hid (own_below HO.out hb); have HB2 := Lib.hid (below_then HB1.out hb); have HX2 := Lib.hid hblk; have HRS2 := Lib.hid (blk_below HRS1.out hb); have y0 := cell_of_row w2 w1.heap.size 0 _ _ _ hblk; have y1 := cell_of_row w2 w1.heap.size 1 _ _ _ hblk; have y2 := cell_of_row w2 w1.heap.size 2 _ _ _ hblk; have y3 := cell_of_row w2 w1.heap.size 3 _ _ _ hblk; have y4 := cell_of_row w2 w1.heap.size 4 _ _ _ hblk; have y5 := cell_of_row w2 w1.heap.size 5 _ _ _ hblk; clear hblk hb))
  have hbs := HB0.out.size
  have hnb := own_ne_blk HO2.out HRS2.out (by decide)
  have hlt1 := blk_lt HRS1.out
  generalize w1.heap.size = bq at *
  have hq1 : ¬ bq = w.heap.size + 1 := by omega
  have hq2 : ¬ w.heap.size + 1 = bq := by omega
  have x0 : w2.cell? ⟨w.heap.size + 1, 0, none⟩ = some (.int .i16 0) := cell_of_row w2 (w.heap.size + 1) 0 _ _ _ HRS2.out
  have f0 := blk_frozen HRS2.out 0
  have x1 : w2.cell? ⟨w.heap.size + 1, 1, none⟩ = some (.int .i16 0) := cell_of_row w2 (w.heap.size + 1) 1 _ _ _ HRS2.out
  have f1 := blk_frozen HRS2.out 1
  have x2 : w2.cell? ⟨w.heap.size + 1, 2, none⟩ = some (.int .i8 0) := cell_of_row w2 (w.heap.size + 1) 2 _ _ _ HRS2.out
  have f2 := blk_frozen HRS2.out 2
  have x3 : w2.cell? ⟨w.heap.size + 1, 3, none⟩ = some (.int .i8 0) := cell_of_row w2 (w.heap.size + 1) 3 _ _ _ HRS2.out
  have f3 := blk_frozen HRS2.out 3
  have x4 : w2.cell? ⟨w.heap.size + 1, 4, none⟩ = some (.int .i8 0) := cell_of_row w2 (w.heap.size + 1) 4 _ _ _ HRS2.out
  have f4 := blk_frozen HRS2.out 4
  clear HB0 HC HB1 HO HRS1 HX2 CB
  clear HV hlt1 HRS HIW hn
  simp only [List.getElem?_toArray, List.getElem?_cons_zero, List.getElem?_cons_succ] at y0 y1 y2 y3 y4 y5
  go_region
  all_goals go_wp2
  all_goals have R := blk_set (blk_set (blk_set (blk_set (blk_set HRS2.out 0 (.int .i16 z0)) 1 (.int .i16 z1)) 2 (.int .i8 z2)) 3 (.int .i8 z3)) 4 (.int .i8 z4)
  all_goals have HS6 := Lib.hid (R.trans (show some (Obj.cells _ 27 (0, 0)) = some (Obj.cells #[.int .i16 z0, .int .i16 z1, .int .i8 z2, .int .i8 z3, .int .i8 z4] 27 (0, 0)) from by simp))
  all_goals refine bodyPost_ret (v := .tuple #[v, .agg #[.int .i16 z0, .int .i16 z1, .int .i8 z2, .int .i8 z3, .int .i8 z4], .int .i64 kc]) (results_tct (v0 := v) (v2 := .int .i64 kc) rfl _ _ (w.heap.size + 1) 27 #[.int .i16 z0, .int .i16 z1, .int .i8 z2, .int .i8 z3, .int .i8 z4] (0, 0) _ rfl rfl (ti_drewB HS6.out) Try.underlying27 rfl HIC.out rfl) rfl ⟨_, rfl, own_mono (own_drew (own_set5 HO2.out hnb)) hbs, below_drew (Below.setCell (Below.setCell (Below.setCell (Below.setCell (Below.setCell HB2.out (by simp) _) (by simp) _) (by simp) _) (by simp) _) (by simp) _)⟩
end Go.Proofs.Ytdmcemhckalhkaa
