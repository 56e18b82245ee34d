/- By how much a cloth felts; a cloth behind a wash. -/
import Derived.Test.YtdmcemhckalhkaaWashBase
import Derived.Test.YtdmcemhckalhkaaMem2
import Derived.Deep.RegionHeld3
import Derived.Deep.RegionWith
namespace Go.Proofs.Ytdmcemhckalhkaa
open Go.RowKit
set_option linter.unusedVariables false
set_option linter.unusedSimpArgs false
set_option maxRecDepth 100000

theorem c_l00Min (a b : Int) (w : World) : Calls Try.prog 64 #[.int .i64 a, .int .i64 b] w fun e w' => e = .returned (.int .i64 (min a b)) ∧ w = w' := by
  by_cases h : a < b
  · have E : Hid (min a b = a) := by rw [Hid]; omega
    go_enter Try.func64, Try.ntmps64
    go_wp2
    go_ret
    exact ⟨by rw [E.out]; rfl, rfl⟩
  · have E : Hid (min a b = b) := by rw [Hid]; omega
    go_enter Try.func64, Try.ntmps64
    go_wp2
    go_ret
    exact ⟨by rw [E.out]; rfl, rfl⟩
theorem c_l00Max (a b : Int) (w : World) : Calls Try.prog 61 #[.int .i64 a, .int .i64 b] w fun e w' => e = .returned (.int .i64 (max a b)) ∧ w = w' := by
  by_cases h : b < a
  · have E : Hid (max a b = a) := by rw [Hid]; omega
    go_enter Try.func61, Try.ntmps61
    go_wp2
    go_ret
    exact ⟨by rw [E.out]; rfl, rfl⟩
  · have E : Hid (max a b = b) := by rw [Hid]; omega
    go_enter Try.func61, Try.ntmps61
    go_wp2
    go_ret
    exact ⟨by rw [E.out]; rfl, rfl⟩

/-- By how much: the felt d, what is borne e, the heat p, the rubbing q. -/
def feltsV (d e p q : Int) : Int := min (if e < p then p - e + q else q / 3) (9 - d)
theorem nine_bd {n : Int} (h : nine n = true) : 0 ≤ n ∧ n ≤ 9 := by simpa [nine] using h
theorem feltsV_bd {d e p q : Int} (hd : 0 ≤ d ∧ d ≤ 9) (he : 0 ≤ e ∧ e ≤ 9) (hp : 0 ≤ p ∧ p ≤ 9) (hq : 0 ≤ q ∧ q ≤ 9) : 0 ≤ feltsV d e p q ∧ feltsV d e p q ≤ 9 ∧ d + feltsV d e p q ≤ 9 := by
  unfold feltsV; split <;> omega
/-- Where a cloth and a program lie. -/
def ClothAt (w : World) (g o : Nat) (a b c d e : Int) : Prop := w.cell? ⟨g, o, none⟩ = some (.int .i16 a) ∧ w.cell? ⟨g, o + 1, none⟩ = some (.int .i16 b) ∧ w.cell? ⟨g, o + 2, none⟩ = some (.int .i8 c) ∧ w.cell? ⟨g, o + 3, none⟩ = some (.int .i8 d) ∧ w.cell? ⟨g, o + 4, none⟩ = some (.int .i8 e)
def ProgAt (w : World) (g o : Nat) (p q r : Int) : Prop := w.cell? ⟨g, o, none⟩ = some (.int .i8 p) ∧ w.cell? ⟨g, o + 1, none⟩ = some (.int .i8 q) ∧ w.cell? ⟨g, o + 2, none⟩ = some (.int .i8 r)

theorem c_l06Felts (g o g' o' : Nat) (a b c d e p q r : Int) (w : World) (hc : ClothAt w g o a b c d e) (hp : ProgAt w g' o' p q r)
    (hd : 0 ≤ d ∧ d ≤ 9) (he : 0 ≤ e ∧ e ≤ 9) (hp' : 0 ≤ p ∧ p ≤ 9) (hq : 0 ≤ q ∧ q ≤ 9) :
    Calls Try.prog 50 #[.pointer (some ⟨g, o, none⟩), .pointer (some ⟨g', o', none⟩)] w fun u w' => u = .returned (.int .i64 (feltsV d e p q)) ∧ ∃ n, w' = w.drewN n := by
  obtain ⟨c0, c1, c2, c3, c4⟩ := hc
  obtain ⟨p0, p1, p2⟩ := hp
  obtain ⟨d0, d1⟩ := hd
  obtain ⟨e0, e1⟩ := he
  obtain ⟨p0', p1'⟩ := hp'
  obtain ⟨q0, q1⟩ := hq
  have q3 : q.tdiv 3 = q / 3 := Int.tdiv_eq_ediv_of_nonneg q0
  by_cases h : e < p
  · have E : Hid (feltsV d e p q = min (p - e + q) (9 - d)) := by rw [Hid, feltsV, if_pos h]
    go_enter Try.func50, Try.ntmps50
    go_wp2
    go_quiet (fail)
    go_wp2
    go_quiet (fail)
    go_wp2_with (go_at_call 64; ((with_reducible refine (c_l00Min _ _ _).mono ?_); rintro e w1 ⟨rfl, rfl⟩))
    go_ret
    exact ⟨by rw [E.out]; rfl, _, rfl⟩
  · have E : Hid (feltsV d e p q = min (q / 3) (9 - d)) := by rw [Hid, feltsV, if_neg h]
    go_enter Try.func50, Try.ntmps50
    go_wp2
    go_quiet (fail)
    go_wp2_with (go_at_call 64; ((with_reducible refine (c_l00Min _ _ _).mono ?_); rintro e w1 ⟨rfl, rfl⟩))
    go_ret
    exact ⟨by rw [E.out]; rfl, _, rfl⟩
theorem c_felts (a b c d e p q r : Int) (w : World) (hd : 0 ≤ d ∧ d ≤ 9) (he : 0 ≤ e ∧ e ≤ 9) (hp' : 0 ≤ p ∧ p ≤ 9) (hq : 0 ≤ q ∧ q ≤ 9) :
    Calls Try.prog 49 #[.agg #[.int .i16 a, .int .i16 b, .int .i8 c, .int .i8 d, .int .i8 e], .agg #[.int .i8 p, .int .i8 q, .int .i8 r]] w fun u w' => u = .returned (.int .i8 (feltsV d e p q)) ∧ Below w.heap.size w w' := by
  obtain ⟨d0, d1⟩ := hd
  obtain ⟨e0, e1⟩ := he
  obtain ⟨p0', p1'⟩ := hp'
  obtain ⟨q0, q1⟩ := hq
  have q3 : q.tdiv 3 = q / 3 := Int.tdiv_eq_ediv_of_nonneg q0
  by_cases h : e < p
  · have E : Hid (feltsV d e p q = min (p - e + q) (9 - d)) := by rw [Hid, feltsV, if_pos h]
    go_enter Try.func49, Try.ntmps49
    go_wp2
    all_goals go_ret
    all_goals refine ⟨?_, by (repeat (first | with_reducible exact Below.refl _ _ | with_reducible refine below_alloc ?_ _ | with_reducible refine below_drew ?_ | with_reducible refine below_drewN ?_ _ | with_reducible refine below_then ?_ (by assumption)))⟩
    all_goals rw [E.out]
    all_goals first
      | (rw [Int.min_eq_right (by omega)]; rfl)
      | (rw [Int.min_eq_left (by omega)]; rfl)
  · have E : Hid (feltsV d e p q = min (q / 3) (9 - d)) := by rw [Hid, feltsV, if_neg h]
    go_enter Try.func49, Try.ntmps49
    go_wp2
    all_goals go_ret
    all_goals refine ⟨?_, by (repeat (first | with_reducible exact Below.refl _ _ | with_reducible refine below_alloc ?_ _ | with_reducible refine below_drew ?_ | with_reducible refine below_drewN ?_ _ | with_reducible refine below_then ?_ (by assumption)))⟩
    all_goals rw [E.out]
    all_goals first
      | (rw [Int.min_eq_right (by omega)]; rfl)
      | (rw [Int.min_eq_left (by omega)]; rfl)
def sideV (a by' : Int) : Int := max 1 (a * (100 - 2 * by') / 100)
theorem sideV_bd {a b : Int} (h0 : 1 ≤ a) (h1 : a ≤ 1000) (k0 : 0 ≤ b) (k1 : b ≤ 9) : 0 ≤ a * (100 - 2 * b) ∧ a * (100 - 2 * b) ≤ 100000 ∧ 1 ≤ sideV a b ∧ sideV a b ≤ 1000 := by
  have e1 : 0 ≤ a * (100 - 2 * b) := Int.mul_nonneg (by omega) (by omega)
  have e2 : a * (100 - 2 * b) ≤ 1000 * 100 := Int.mul_le_mul h1 (by omega) (by omega) (by omega)
  refine ⟨e1, by omega, ?_, ?_⟩ <;> unfold sideV <;> omega
theorem c_shrunk (a b : Int) (w : World) (h0 : 1 ≤ a) (h1 : a ≤ 1000) (k0 : 0 ≤ b) (k1 : b ≤ 9) :
    Calls Try.prog 60 #[.int .i16 a, .int .i8 b] w fun u w' => u = .returned (.int .i16 (sideV a b)) ∧ w = w' := by
  obtain ⟨e0, e1, e2, e3⟩ := sideV_bd h0 h1 k0 k1
  have E := Lib.hid (show sideV a b = max 1 (a * (100 - 2 * b) / 100) from rfl)
  have q3 : (a * (100 - 2 * b)).tdiv 100 = a * (100 - 2 * b) / 100 := Int.tdiv_eq_ediv_of_nonneg e0
  generalize sideV a b = s at *
  go_enter Try.func60, Try.ntmps60
  go_wp2
  all_goals go_ret
  all_goals refine ⟨?_, rfl⟩
  all_goals rw [E.out]
  all_goals first
    | (rw [Int.max_eq_right (by omega)]; rfl)
    | (rw [Int.max_eq_left (by omega)]; rfl)

theorem one5 {k0 k1 k2 k3 k4 : IntKind} {x0 x1 x2 x3 x4 : Int} : (#[Value.int k0 x0, .int k1 x1, .int k2 x2, .int k3 x3, .int k4 x4].all (·.oneCell')) = true := by simp [Value.oneCell']
theorem row301 {w : World} {g : Nat} {t : TypeId} {x0 x1 x2 x3 x4 : Value} (h : w.heap[g]? = some (.cells #[x0, x1, x2, x3, x4] t (0, 0))) (y3 y0 y1 : Value) :
    (((w.setCell ⟨g, 3, none⟩ y3).setCell ⟨g, 0, none⟩ y0).setCell ⟨g, 1, none⟩ y1).heap[g]? = some (.cells #[y0, y1, x2, y3, x4] t (0, 0)) := by
  have := blk_set (blk_set (blk_set h 3 y3) 0 y0) 1 y1
  simpa using this
theorem row2 {w : World} {g : Nat} {t : TypeId} {x0 x1 x2 x3 x4 : Value} (h : w.heap[g]? = some (.cells #[x0, x1, x2, x3, x4] t (0, 0))) (y2 : Value) :
    (w.setCell ⟨g, 2, none⟩ y2).drew.heap[g]? = some (.cells #[x0, x1, y2, x3, x4] t (0, 0)) := by
  have := blk_set h 2 y2
  show (w.setCell ⟨g, 2, none⟩ y2).heap[g]? = _
  simpa using this
set_option maxHeartbeats 400000 in
theorem c_l06Washed (g' o' : Nat) (a b c d e p q r : Int) (w : World) (hp : ProgAt w g' o' p q r) (hg : g' < w.heap.size)
    (ha0 : 1 ≤ a) (ha1 : a ≤ 1000) (hb0 : 1 ≤ b) (hb1 : b ≤ 1000) (hc : 0 ≤ c ∧ c ≤ 9) (hd : 0 ≤ d ∧ d ≤ 9) (he : 0 ≤ e ∧ e ≤ 9) (hp' : 0 ≤ p ∧ p ≤ 9) (hq : 0 ≤ q ∧ q ≤ 9) (hr : 0 ≤ r ∧ r ≤ 9) :
    Calls Try.prog 39 #[.agg #[.int .i16 a, .int .i16 b, .int .i8 c, .int .i8 d, .int .i8 e], .pointer (some ⟨g', o', none⟩)] w fun u w' => u = .returned (.agg #[.int .i16 (sideV a (feltsV d e p q)), .int .i16 (sideV b (feltsV d e p q)), .int .i8 (max 0 (c - r)), .int .i8 (d + feltsV d e p q), .int .i8 e]) ∧ Below w.heap.size w w' := by
  obtain ⟨y0, y1, y2⟩ := feltsV_bd hd he hp' hq
  obtain ⟨e0, e1, e2, e3⟩ := sideV_bd ha0 ha1 y0 y1
  obtain ⟨i0, i1, i2, i3⟩ := sideV_bd hb0 hb1 y0 y1
  have CF := fun (w1 : World) (x1 : ClothAt w1 w.heap.size 0 a b c d e) (x2 : ProgAt w1 g' o' p q r) => Lib.hid (c_l06Felts w.heap.size 0 g' o' a b c d e p q r w1 x1 x2 hd he hp' hq)
  obtain ⟨c0, c1⟩ := hc
  obtain ⟨d0, d1⟩ := hd
  obtain ⟨r0, r1⟩ := hr
  have HPk : ∀ w1 : World, Below w.heap.size w w1 → ProgAt w1 g' o' p q r := fun w1 hb => ⟨by rw [hb.cell (p := ⟨g', o', none⟩) hg]; exact hp.1, by rw [hb.cell (p := ⟨g', o' + 1, none⟩) hg]; exact hp.2.1, by rw [hb.cell (p := ⟨g', o' + 2, none⟩) hg]; exact hp.2.2⟩
  clear hp
  have EA := Lib.hid (show sideV a (feltsV d e p q) = max 1 (a * (100 - 2 * feltsV d e p q) / 100) from rfl)
  have EB := Lib.hid (show sideV b (feltsV d e p q) = max 1 (b * (100 - 2 * feltsV d e p q) / 100) from rfl)
  generalize sideV a (feltsV d e p q) = sa at *
  generalize sideV b (feltsV d e p q) = sb at *
  generalize feltsV d e p q = y at *
  have q3 : (a * (100 - 2 * y)).tdiv 100 = a * (100 - 2 * y) / 100 := Int.tdiv_eq_ediv_of_nonneg e0
  have q4 : (b * (100 - 2 * y)).tdiv 100 = b * (100 - 2 * y) / 100 := Int.tdiv_eq_ediv_of_nonneg i0
  go_enter Try.func39, Try.ntmps39
  go_wp2_with (go_at_call 50; refine (CF _ (by simp [ClothAt]) (HPk _ (by (repeat (first | with_reducible exact Below.refl _ _ | with_reducible refine below_alloc ?_ _ | with_reducible refine below_drew ?_ | with_reducible refine below_drewN ?_ _ | with_reducible refine below_then ?_ (by assumption)))))).out.mono ?_; rintro u w1 ⟨rfl, n, rfl⟩)
  have hA : (((w.alloc (.cells #[.int .i16 a, .int .i16 b, .int .i8 c, .int .i8 d, .int .i8 e] 27 (0, 0))).alloc (.cells #[.int .i16 0, .int .i16 0, .int .i8 0, .int .i8 0, .int .i8 0] 27 (0, 0))).drewN n).heap[w.heap.size]? = some (.cells #[.int .i16 a, .int .i16 b, .int .i8 c, .int .i8 d, .int .i8 e] 27 (0, 0)) := blk_alloc (heap_alloc_new w _) _
  have hR : (((w.alloc (.cells #[.int .i16 a, .int .i16 b, .int .i8 c, .int .i8 d, .int .i8 e] 27 (0, 0))).alloc (.cells #[.int .i16 0, .int .i16 0, .int .i8 0, .int .i8 0, .int .i8 0] 27 (0, 0))).drewN n).heap[w.heap.size + 1]? = some (.cells #[.int .i16 0, .int .i16 0, .int .i8 0, .int .i8 0, .int .i8 0] 27 (0, 0)) := by
    have := heap_alloc_new (w.alloc (.cells #[.int .i16 a, .int .i16 b, .int .i8 c, .int .i8 d, .int .i8 e] 27 (0, 0))) (.cells #[.int .i16 0, .int .i16 0, .int .i8 0, .int .i8 0, .int .i8 0] 27 (0, 0))
    rw [World.size_alloc] at this
    exact this
  have hB : Below w.heap.size w (((w.alloc (.cells #[.int .i16 a, .int .i16 b, .int .i8 c, .int .i8 d, .int .i8 e] 27 (0, 0))).alloc (.cells #[.int .i16 0, .int .i16 0, .int .i8 0, .int .i8 0, .int .i8 0] 27 (0, 0))).drewN n) := by (repeat (first | with_reducible exact Below.refl _ _ | with_reducible refine below_alloc ?_ _ | with_reducible refine below_drew ?_ | with_reducible refine below_drewN ?_ _ | with_reducible refine below_then ?_ (by assumption)))
  generalize ((w.alloc (.cells #[.int .i16 a, .int .i16 b, .int .i8 c, .int .i8 d, .int .i8 e] 27 (0, 0))).alloc (.cells #[.int .i16 0, .int .i16 0, .int .i8 0, .int .i8 0, .int .i8 0] 27 (0, 0))).drewN n = wa at *
  obtain ⟨p0, p1, p2⟩ := HPk _ hB
  have c0' := cell_of_row wa w.heap.size 0 _ _ _ hA
  have c1' := cell_of_row wa w.heap.size 1 _ _ _ hA
  have c2' := cell_of_row wa w.heap.size 2 _ _ _ hA
  have c3' := cell_of_row wa w.heap.size 3 _ _ _ hA
  have c4' := cell_of_row wa w.heap.size 4 _ _ _ hA
  have f2' := blk_frozen hA 2
  have HA := Lib.hid hA
  have HRk := Lib.hid hR
  have HB := Lib.hid hB
  clear hA hR hB
  have w1' : IntKind.i64.wrap c = c := IntWalk.i64_in _ (by omega)
  have w2' : IntKind.i64.wrap r = r := IntWalk.i64_in _ (by omega)
  have w3' : IntKind.i64.wrap (c - r) = c - r := IntWalk.i64_in _ (by omega)
  have w4' : IntKind.i8.wrap (max 0 (c - r)) = max 0 (c - r) := IntWalk.i8_in _ (by omega)
  go_region_with (first | (go_at_call 61; ((with_reducible refine (c_l00Max _ _ _).mono ?_); rintro e w1 ⟨rfl, rfl⟩)))
  all_goals clear p0 p1 p2 c0' c1' c2' c3' c4' f2' w1' w2' w3' w4'
  all_goals have hA : (wa.setCell ⟨w.heap.size, 2, none⟩ (.int .i8 (max 0 (c - r)))).drew.heap[w.heap.size]? = some (.cells #[.int .i16 a, .int .i16 b, .int .i8 (max 0 (c - r)), .int .i8 d, .int .i8 e] 27 (0, 0)) := row2 HA.out _
  all_goals have hR : (wa.setCell ⟨w.heap.size, 2, none⟩ (.int .i8 (max 0 (c - r)))).drew.heap[w.heap.size + 1]? = _ := blk_far HRk.out (by omega) 2 _
  all_goals have hB : Below w.heap.size w (wa.setCell ⟨w.heap.size, 2, none⟩ (.int .i8 (max 0 (c - r)))).drew := below_drew (HB.out.setCell (by simp) _)
  all_goals generalize (wa.setCell ⟨w.heap.size, 2, none⟩ (.int .i8 (max 0 (c - r)))).drew = wb at *
  all_goals have HL : Hid (((((wb.setCell ⟨w.heap.size, 3, none⟩ (.int .i8 (d + y))).setCell ⟨w.heap.size, 0, none⟩ (.int .i16 (max 1 (a * (100 - 2 * y) / 100)))).setCell ⟨w.heap.size, 1, none⟩ (.int .i16 (max 1 (b * (100 - 2 * y) / 100))))).heap[w.heap.size]? = some (.cells #[.int .i16 (max 1 (a * (100 - 2 * y) / 100)), .int .i16 (max 1 (b * (100 - 2 * y) / 100)), .int .i8 (max 0 (c - r)), .int .i8 (d + y), .int .i8 e] 27 (0, 0))) := row301 hA _ _ _
  all_goals have HRb := Lib.hid (blk_far (blk_far (blk_far hR (show w.heap.size + 1 ≠ w.heap.size by omega) 3 (.int .i8 (d + y))) (show w.heap.size + 1 ≠ w.heap.size by omega) 0 (.int .i16 (max 1 (a * (100 - 2 * y) / 100)))) (show w.heap.size + 1 ≠ w.heap.size by omega) 1 (.int .i16 (max 1 (b * (100 - 2 * y) / 100))))
  all_goals have HBb : Hid (Below w.heap.size w (((wb.setCell ⟨w.heap.size, 3, none⟩ (.int .i8 (d + y))).setCell ⟨w.heap.size, 0, none⟩ (.int .i16 (max 1 (a * (100 - 2 * y) / 100)))).setCell ⟨w.heap.size, 1, none⟩ (.int .i16 (max 1 (b * (100 - 2 * y) / 100))))) := ((hB.setCell (by simp) _).setCell (by simp) _).setCell (by simp) _
  all_goals have c0' : wb.cell? ⟨w.heap.size, 0, none⟩ = some (.int .i16 a) := by simpa using cell_of_row wb w.heap.size 0 _ _ _ hA
  all_goals have c1' : wb.cell? ⟨w.heap.size, 1, none⟩ = some (.int .i16 b) := by simpa using cell_of_row wb w.heap.size 1 _ _ _ hA
  all_goals have c2' : wb.cell? ⟨w.heap.size, 2, none⟩ = some (.int .i8 (max 0 (c - r))) := by simpa using cell_of_row wb w.heap.size 2 _ _ _ hA
  all_goals have c3' : wb.cell? ⟨w.heap.size, 3, none⟩ = some (.int .i8 d) := by simpa using cell_of_row wb w.heap.size 3 _ _ _ hA
  all_goals have c4' : wb.cell? ⟨w.heap.size, 4, none⟩ = some (.int .i8 e) := by simpa using cell_of_row wb w.heap.size 4 _ _ _ hA
  all_goals have f0' := blk_frozen hA 0
  all_goals have f1' := blk_frozen hA 1
  all_goals have f3' := blk_frozen hA 3
  all_goals have HI : Hid ((Try.prog.info? 27).map (·.size) = some 5) := by show (Try.prog.info? 27).map (·.size) = some 5; kernel_rfl
  all_goals clear hA hR hB
  all_goals clear CF HPk HA HRk HB
  all_goals go_wp2_with (first
    | (go_at_call 61; ((with_reducible refine (c_l00Max _ _ _).mono ?_); rintro e w1 ⟨rfl, rfl⟩))
    | (refine wpList_load_row rfl 27 (.tmp 2) rfl (w.heap.size) rfl 27 #[.int .i16 (max 1 (a * (100 - 2 * y) / 100)), .int .i16 (max 1 (b * (100 - 2 * y) / 100)), .int .i8 (max 0 (c - r)), .int .i8 (d + y), .int .i8 e] (0, 0) _ ?_ Try.underlying27 rfl HI.out ?_; (with_reducible exact HL.out))
    | (refine ev_store_row rfl 27 (.tmp 4) (.tmp 48) rfl (w.heap.size + 1) #[.int .i16 (max 1 (a * (100 - 2 * y) / 100)), .int .i16 (max 1 (b * (100 - 2 * y) / 100)), .int .i8 (max 0 (c - r)), .int .i8 (d + y), .int .i8 e] rfl rfl 27 #[.int .i16 0, .int .i16 0, .int .i8 0, .int .i8 0, .int .i8 0] ?_ HI.out (Eq.refl (5 : Nat)) one5 ?_; (with_reducible exact HRb.out); intro w1 hblk ht; have HR3 := Lib.hid hblk; have HB3 : Hid (Below w.heap.size w w1) := HBb.out.trans (ht.below (Nat.le_succ _)); clear hblk))
  all_goals refine bodyPost_ret (v := .agg #[.int .i16 (max 1 (a * (100 - 2 * y) / 100)), .int .i16 (max 1 (b * (100 - 2 * y) / 100)), .int .i8 (max 0 (c - r)), .int .i8 (d + y), .int .i8 e]) (results_cell_row rfl _ _ (w.heap.size + 1) 27 #[.int .i16 (max 1 (a * (100 - 2 * y) / 100)), .int .i16 (max 1 (b * (100 - 2 * y) / 100)), .int .i8 (max 0 (c - r)), .int .i8 (d + y), .int .i8 e] (0, 0) _ rfl (by with_reducible exact HR3.out) Try.underlying27 rfl HI.out) rfl ⟨by rw [EA.out, EB.out], HB3.out⟩
end Go.Proofs.Ytdmcemhckalhkaa
