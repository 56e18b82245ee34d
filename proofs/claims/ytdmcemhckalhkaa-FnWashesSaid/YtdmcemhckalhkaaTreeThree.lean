/- The best list of washes: the program's three functions. -/
import Derived.Test.YtdmcemhckalhkaaTreeBest
import Derived.Test.YtdmcemhckalhkaaTreeLarge
import Derived.Test.YtdmcemhckalhkaaTreeFelt
import Derived.Shelf.Abstract
namespace Go.Proofs.Ytdmcemhckalhkaa
open Go.RowKit
set_option linter.unusedVariables false
set_option linter.unusedSimpArgs false
set_option maxRecDepth 100000

theorem c_len64 (A : Option Addr) (n c : Nat) (w : World) : Calls Try.prog 42 #[.slice A n c] w fun u w' => u = .returned (.int .i64 (n : Int)) ∧ w = w' := by
  go_enter Try.func42, Try.ntmps42
  go_wp2
  go_ret
  exact ⟨rfl, rfl⟩
theorem c_few1 (x : Nd) (v : Value) (base : Nat) (w : World) (hx : x.c.Ok) (hl : x.o.length ≤ 4) (h : w.ownsRow base 2 1 v x.o.length (nums .i64 x.o)) :
    Calls Try.prog 41 #[.agg #[v, .int .i16 x.c.a, .int .i16 x.c.b, .int .i8 x.c.c, .int .i8 x.c.d, .int .i8 x.c.e]] w fun e w' => e = .returned (.int .i64 (lenF x)) ∧ Below w.heap.size w w' := by
  obtain ⟨A, c, rfl, _⟩ := own_form h
  clear h
  go_enter Try.func41, Try.ntmps41
  go_wp2_with (go_at_call 42; ((with_reducible refine (c_len64 _ _ _ _).mono ?_); rintro e w1 ⟨rfl, rfl⟩))
  go_ret
  exact ⟨rfl, by (repeat (first | with_reducible exact Below.refl _ _ | with_reducible refine below_alloc ?_ _ | with_reducible refine below_drew ?_ | with_reducible refine below_drewN ?_ _ | with_reducible refine below_then ?_ (by assumption)))⟩
theorem c_felt1 (x : Nd) (v : Value) (base : Nat) (w : World) (hx : x.c.Ok) (hl : x.o.length ≤ 4) (h : w.ownsRow base 2 1 v x.o.length (nums .i64 x.o)) :
    Calls Try.prog 45 #[.agg #[v, .int .i16 x.c.a, .int .i16 x.c.b, .int .i8 x.c.c, .int .i8 x.c.d, .int .i8 x.c.e]] w fun e w' => e = .returned (.int .i64 (feltF x)) ∧ Below w.heap.size w w' := by
  obtain ⟨A, c, rfl, _⟩ := own_form h
  obtain ⟨d0, d1⟩ := hx.d
  clear h
  go_enter Try.func45, Try.ntmps45
  go_wp2
  go_ret
  exact ⟨rfl, by (repeat (first | with_reducible exact Below.refl _ _ | with_reducible refine below_alloc ?_ _ | with_reducible refine below_drew ?_ | with_reducible refine below_drewN ?_ _ | with_reducible refine below_then ?_ (by assumption)))⟩
theorem c_area (x : Cl) (hx : x.Ok) (w : World) : Calls Try.prog 47 #[.agg #[.int .i16 x.a, .int .i16 x.b, .int .i8 x.c, .int .i8 x.d, .int .i8 x.e]] w fun e w' => e = .returned (.int .i64 (x.a * x.b)) ∧ Below w.heap.size w w' := by
  obtain ⟨a0, a1⟩ := hx.a
  obtain ⟨b0, b1⟩ := hx.b
  have m0 : 0 ≤ x.a * x.b := Int.mul_nonneg (by omega) (by omega)
  have m1 : x.a * x.b ≤ 1000000 := by
    have := Int.mul_le_mul a1 b1 (by omega) (by omega)
    omega
  have hw : IntKind.i64.wrap (x.a * x.b) = x.a * x.b := IntWalk.i64_in _ (by omega)
  go_enter Try.func47, Try.ntmps47
  go_wp2
  go_ret
  exact ⟨rfl, by (repeat (first | with_reducible exact Below.refl _ _ | with_reducible refine below_alloc ?_ _ | with_reducible refine below_drew ?_ | with_reducible refine below_drewN ?_ _ | with_reducible refine below_then ?_ (by assumption)))⟩
theorem c_area0 (w : World) : Calls Try.prog 47 #[.agg #[.int .i16 0, .int .i16 0, .int .i8 0, .int .i8 0, .int .i8 0]] w fun e w' => e = .returned (.int .i64 0) ∧ Below w.heap.size w w' := by
  go_enter Try.func47, Try.ntmps47
  go_wp2
  go_ret
  exact ⟨rfl, by (repeat (first | with_reducible exact Below.refl _ _ | with_reducible refine below_alloc ?_ _ | with_reducible refine below_drew ?_ | with_reducible refine below_drewN ?_ _ | with_reducible refine below_then ?_ (by assumption)))⟩
theorem c_area1 (x : Nd) (v : Value) (base : Nat) (w : World) (hx : x.c.Ok) (hl : x.o.length ≤ 4) (h : w.ownsRow base 2 1 v x.o.length (nums .i64 x.o)) :
    Calls Try.prog 46 #[.agg #[v, .int .i16 x.c.a, .int .i16 x.c.b, .int .i8 x.c.c, .int .i8 x.c.d, .int .i8 x.c.e]] w fun e w' => e = .returned (.int .i64 (areaF x)) ∧ Below w.heap.size w w' := by
  obtain ⟨A, c, rfl, _⟩ := own_form h
  obtain ⟨a0, a1⟩ := hx.a
  obtain ⟨b0, b1⟩ := hx.b
  have m0 : 0 ≤ x.c.a * x.c.b := Int.mul_nonneg (by omega) (by omega)
  have m1 : x.c.a * x.c.b ≤ 1000000 := by
    have := Int.mul_le_mul a1 b1 (by omega) (by omega)
    omega
  have hw : IntKind.i64.wrap (-(x.c.a * x.c.b)) = -(x.c.a * x.c.b) := IntWalk.i64_in _ (by omega)
  have CA := Lib.hid (c_area x.c hx)
  clear h hx
  go_enter Try.func46, Try.ntmps46
  go_wp2_with (go_at_call 47; ((with_reducible refine (CA.out _).mono ?_); rintro e w1 ⟨rfl, hb⟩))
  go_ret
  exact ⟨by first | rfl | rw [hw]; rfl, by (repeat (first | with_reducible exact Below.refl _ _ | with_reducible refine below_alloc ?_ _ | with_reducible refine below_drew ?_ | with_reducible refine below_drewN ?_ _ | with_reducible refine below_then ?_ (by assumption)))⟩
theorem bestR_ok {f : Nd → Int} {a b c d e : Int} {n : Nat} {p q r : Nat → Int} {M : Int} : (bestR f a b c d e n p q r M).1.c.Ok ∨ (bestR f a b c d e n p q r M).1.c = zeroC := by
  by_cases h : mostF a b c d e n p q r M = 0
  · cases hx : minO f ((nodesF a b c d e n p q r M).filter isCl) with
    | none => rw [bestR_none h hx]; exact .inr rfl
    | some x => rw [bestR_some h hx]; exact .inl (nodes_ok (mostF_ok h) (List.mem_filter.1 (minO_mem hx)).1).1
  · rw [bestR_no h]; exact .inr rfl
theorem own_set5 {w : World} {base n g : Nat} {e : TypeId} {size : Nat} {v : Value} {xs : List Value} {u0 u1 u2 u3 u4 : Value} (h : w.ownsRow base e size v n xs) (hv : v.ownBlock = none ∨ v.ownBlock ≠ some g) :
    (((((w.setCell ⟨g, 0, none⟩ u0).setCell ⟨g, 1, none⟩ u1).setCell ⟨g, 2, none⟩ u2).setCell ⟨g, 3, none⟩ u3).setCell ⟨g, 4, none⟩ u4).ownsRow base e size v n xs :=
  own_touN (own_touN (own_touN (own_touN (own_touN h (Tou.setCell _ _ _ _) hv) (Tou.setCell _ _ _ _) hv) (Tou.setCell _ _ _ _) hv) (Tou.setCell _ _ _ _) hv) (Tou.setCell _ _ _ _) hv
theorem held_below {w w1 : World} {bq : Nat} {v0 v1 v2 v3 v4 v5 : Value} (hb : Below w.heap.size w w1) (h : w.cell? ⟨bq, 0, none⟩ = some v0 ∧ w.cell? ⟨bq, 1, none⟩ = some v1 ∧ w.cell? ⟨bq, 2, none⟩ = some v2 ∧ w.cell? ⟨bq, 3, none⟩ = some v3 ∧ w.cell? ⟨bq, 4, none⟩ = some v4 ∧ w.cell? ⟨bq, 5, none⟩ = some v5) :
    w1.cell? ⟨bq, 0, none⟩ = some v0 ∧ w1.cell? ⟨bq, 1, none⟩ = some v1 ∧ w1.cell? ⟨bq, 2, none⟩ = some v2 ∧ w1.cell? ⟨bq, 3, none⟩ = some v3 ∧ w1.cell? ⟨bq, 4, none⟩ = some v4 ∧ w1.cell? ⟨bq, 5, none⟩ = some v5 := by
  obtain ⟨h0, h1, h2, h3, h4, h5⟩ := h
  have f : ∀ {o : Nat} {u : Value}, w.cell? ⟨bq, o, none⟩ = some u → w1.cell? ⟨bq, o, none⟩ = some u := fun hh => (hb.cell (World.block_lt_of_cell? w _ hh)).trans hh
  exact ⟨f h0, f h1, f h2, f h3, f h4, f h5⟩
set_option maxHeartbeats 4000000 in
theorem c_iFewestWashes (A : Option Addr) (a b c d e : Int) (n cap : Nat) (p q r : Nat → Int) (M : Int) (w : World) (ha : -32768 ≤ a ∧ a ≤ 32767) (hb : -32768 ≤ b ∧ b ≤ 32767) (h : ProgsAt w A n p q r) (hn : n ≤ 1048576) (hg : ∀ j, j < n → (-128 ≤ r j ∧ r j ≤ 127) ∧ (-128 ≤ p j ∧ p j ≤ 127) ∧ (-128 ≤ q j ∧ q j ≤ 127)) :
    Calls Try.prog 10 #[.agg #[.int .i16 a, .int .i16 b, .int .i8 c, .int .i8 d, .int .i8 e], .slice A n cap, .int .i64 M] w fun u w' => ∃ v, u = .returned (.tuple #[v, .int .i64 (bestR lenF a b c d e n p q r M).2]) ∧ w'.ownsRow w.heap.size 2 1 v (bestR lenF a b c d e n p q r M).1.o.length (nums .i64 (bestR lenF a b c d e n p q r M).1.o) ∧ Below w.heap.size w w' := by
  have HB0 : Hid (Below w.heap.size w (w.alloc (.cells #[.int .i16 a, .int .i16 b, .int .i8 c, .int .i8 d, .int .i8 e] 27 (0, 0)))) := below_alloc (Below.refl _ _) _
  have HC := Lib.hid (heap_alloc_new w (.cells #[.int .i16 a, .int .i16 b, .int .i8 c, .int .i8 d, .int .i8 e] 27 (0, 0)))
  have HIC : Hid ((Try.prog.info? 27).map (·.size) = some 5) := by show (Try.prog.info? 27).map (·.size) = some 5; kernel_rfl
  have HIW : Hid ((Try.prog.info? 69).map (·.size) = some 6) := by show (Try.prog.info? 69).map (·.size) = some 6; kernel_rfl
  have he : ∀ args w, (callFunc 41 args).run Try.prog w = .ok (.enter 41 args) w := enters_of Try.func41 (by kernel_rfl) rfl
  have cb := c_bestWashing 41 he lenF c_few1 A a b c d e n cap p q r M _ ha hb (h.below HB0.out) hn hg
  have hok := bestR_ok (f := lenF) (a := a) (b := b) (c := c) (d := d) (e := e) (n := n) (p := p) (q := q) (r := r) (M := M)
  generalize (bestR lenF a b c d e n p q r M) = R at cb hok ⊢
  obtain ⟨⟨⟨z0, z1, z2, z3, z4⟩, zo⟩, kc⟩ := R
  simp only [wcells, Cl.cells] at cb hok ⊢
  have CB := Lib.hid cb
  clear cb h hg ha hb he hok
  go_enter Try.func10, Try.ntmps10
  go_wp2_with (first
    | (refine wpList_load_row rfl 27 (.tmp 3) rfl (w.heap.size) rfl 27 #[.int .i16 a, .int .i16 b, .int .i8 c, .int .i8 d, .int .i8 e] (0, 0) _ ?_ Try.underlying27 rfl HIC.out ?_; (with_reducible exact HC.out))
    | (go_at_call 40; ((with_reducible refine CB.out.mono ?_); rintro u w1 ⟨v, rfl, hO, hb1⟩; have HO := Lib.hid hO; have HV := Lib.hid (own_slice hO); have HB1 := Lib.hid (below_then HB0.out hb1); clear hO hb1))
    | (refine ev_store_row rfl 69 (.tmp 8) (.tmp 15) rfl (w1.heap.size) #[v, .int .i16 z0, .int .i16 z1, .int .i8 z2, .int .i8 z3, .int .i8 z4] rfl rfl 69 _ (heap_alloc_new w1 _) HIW.out (Eq.refl (6 : Nat)) (wc_one HV.out _ _ _ _ _) ?_; intro w2 hblk ht; have hb := below_alloc_tou2 ht; clear ht; have HO2 := Lib.hid (own_below HO.out hb); have HB2 := Lib.hid (below_then HB1.out hb); have HX2 := Lib.hid hblk; have y0 := cell_of_row w2 w1.heap.size 0 _ _ _ hblk; have y1 := cell_of_row w2 w1.heap.size 1 _ _ _ hblk; have y2 := cell_of_row w2 w1.heap.size 2 _ _ _ hblk; have y3 := cell_of_row w2 w1.heap.size 3 _ _ _ hblk; have y4 := cell_of_row w2 w1.heap.size 4 _ _ _ hblk; have y5 := cell_of_row w2 w1.heap.size 5 _ _ _ hblk; clear hblk hb))
  have hbs := HB0.out.size
  exact bodyPost_ret (v := .tuple #[v, .int .i64 kc]) (by simp [results, Try.results10, go_sem]) rfl ⟨_, rfl, own_mono HO2.out hbs, HB2.out⟩
set_option maxHeartbeats 4000000 in
theorem c_iLargestClean (A : Option Addr) (a b c d e : Int) (n cap : Nat) (p q r : Nat → Int) (M : Int) (w : World) (ha : -32768 ≤ a ∧ a ≤ 32767) (hb : -32768 ≤ b ∧ b ≤ 32767) (h : ProgsAt w A n p q r) (hn : n ≤ 1048576) (hg : ∀ j, j < n → (-128 ≤ r j ∧ r j ≤ 127) ∧ (-128 ≤ p j ∧ p j ≤ 127) ∧ (-128 ≤ q j ∧ q j ≤ 127)) :
    Calls Try.prog 14 #[.agg #[.int .i16 a, .int .i16 b, .int .i8 c, .int .i8 d, .int .i8 e], .slice A n cap, .int .i64 M] w fun u w' => ∃ v, u = .returned (.tuple #[v, .int .i64 ((bestR areaF a b c d e n p q r M).1.c.a * (bestR areaF a b c d e n p q r M).1.c.b), .int .i64 (bestR areaF a b c d e n p q r M).2]) ∧ w'.ownsRow w.heap.size 2 1 v (bestR areaF a b c d e n p q r M).1.o.length (nums .i64 (bestR areaF a b c d e n p q r M).1.o) ∧ Below w.heap.size w w' := by
  have HB0 : Hid (Below w.heap.size w (w.alloc (.cells #[.int .i16 a, .int .i16 b, .int .i8 c, .int .i8 d, .int .i8 e] 27 (0, 0)))) := below_alloc (Below.refl _ _) _
  have HC := Lib.hid (heap_alloc_new w (.cells #[.int .i16 a, .int .i16 b, .int .i8 c, .int .i8 d, .int .i8 e] 27 (0, 0)))
  have HIC : Hid ((Try.prog.info? 27).map (·.size) = some 5) := by show (Try.prog.info? 27).map (·.size) = some 5; kernel_rfl
  have HIW : Hid ((Try.prog.info? 69).map (·.size) = some 6) := by show (Try.prog.info? 69).map (·.size) = some 6; kernel_rfl
  have he : ∀ args w, (callFunc 46 args).run Try.prog w = .ok (.enter 46 args) w := enters_of Try.func46 (by kernel_rfl) rfl
  have cb := c_bestWashing 46 he areaF c_area1 A a b c d e n cap p q r M _ ha hb (h.below HB0.out) hn hg
  have hok := bestR_ok (f := areaF) (a := a) (b := b) (c := c) (d := d) (e := e) (n := n) (p := p) (q := q) (r := r) (M := M)
  generalize (bestR areaF a b c d e n p q r M) = R at cb hok ⊢
  obtain ⟨⟨⟨z0, z1, z2, z3, z4⟩, zo⟩, kc⟩ := R
  simp only [wcells, Cl.cells] at cb hok ⊢
  have CB := Lib.hid cb
  have CA : Hid (∀ wq, Calls Try.prog 47 #[.agg #[.int .i16 z0, .int .i16 z1, .int .i8 z2, .int .i8 z3, .int .i8 z4]] wq fun e w' => e = .returned (.int .i64 (z0 * z1)) ∧ Below wq.heap.size wq w') := by
    intro wq
    rcases hok with hok | hok
    · exact c_area _ hok wq
    · cases hok; exact c_area0 wq
  clear cb h hg ha hb he hok
  go_enter Try.func14, Try.ntmps14
  go_wp2_with (first
    | (refine wpList_load_row rfl 27 (.tmp 3) rfl (w.heap.size) rfl 27 #[.int .i16 a, .int .i16 b, .int .i8 c, .int .i8 d, .int .i8 e] (0, 0) _ ?_ Try.underlying27 rfl HIC.out ?_; (with_reducible exact HC.out))
    | (go_at_call 40; ((with_reducible refine CB.out.mono ?_); rintro u w1 ⟨v, rfl, hO, hb1⟩; have HO := Lib.hid hO; have HV := Lib.hid (own_slice hO); have HB1 := Lib.hid (below_then HB0.out hb1); clear hO hb1))
    | (refine ev_store_row rfl 69 (.tmp 9) (.tmp 16) rfl (w1.heap.size) #[v, .int .i16 z0, .int .i16 z1, .int .i8 z2, .int .i8 z3, .int .i8 z4] rfl rfl 69 _ (heap_alloc_new w1 _) HIW.out (Eq.refl (6 : Nat)) (wc_one HV.out _ _ _ _ _) ?_; intro w2 hblk ht; have hb := below_alloc_tou2 ht; clear ht; have HO2 := Lib.hid (own_below HO.out hb); have HB2 := Lib.hid (below_then HB1.out hb); have HX2 := Lib.hid hblk; have y0 := cell_of_row w2 w1.heap.size 0 _ _ _ hblk; have y1 := cell_of_row w2 w1.heap.size 1 _ _ _ hblk; have y2 := cell_of_row w2 w1.heap.size 2 _ _ _ hblk; have y3 := cell_of_row w2 w1.heap.size 3 _ _ _ hblk; have y4 := cell_of_row w2 w1.heap.size 4 _ _ _ hblk; have y5 := cell_of_row w2 w1.heap.size 5 _ _ _ hblk; clear hblk hb))
  have hbs := HB0.out.size
  generalize w1.heap.size = bq at *
  go_region_held3 (fun w' => (w'.cell? ⟨bq, 0, none⟩ = some v ∧ w'.cell? ⟨bq, 1, none⟩ = some (.int .i16 z0) ∧ w'.cell? ⟨bq, 2, none⟩ = some (.int .i16 z1) ∧ w'.cell? ⟨bq, 3, none⟩ = some (.int .i8 z2) ∧ w'.cell? ⟨bq, 4, none⟩ = some (.int .i8 z3) ∧ w'.cell? ⟨bq, 5, none⟩ = some (.int .i8 z4)))
    (first
      | exact ⟨y0, y1, y2, y3, y4, y5⟩
      | exact held_below hb (by assumption))
    ((go_at_call 47; ((with_reducible refine (CA.out _).mono ?_); rintro e w3 ⟨rfl, hb⟩)))
  go_wp2
  exact bodyPost_ret (v := .tuple #[v, .int .i64 (z0 * z1), .int .i64 kc]) (by simp [results, Try.results14, go_sem]) rfl ⟨_, rfl, own_mono (own_below (show w2.drew.ownsRow _ _ _ _ _ _ from HO2.out) hb) hbs, below_then (below_drew HB2.out) hb⟩
end Go.Proofs.Ytdmcemhckalhkaa
