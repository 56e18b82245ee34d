/- The places behind each move, up to the first wrong one: the plain part; one move from larger places. -/
import Derived.Test.YtakbgfgbaegaeaaPlacesOk
namespace Go.Proofs.Ytakbgfgbaegaeaa
open Go.RowKit
set_option linter.unusedVariables false
set_option linter.unusedSimpArgs false
set_option maxRecDepth 100000

def atN (p0 : List Int) (s t g : Nat → Int) : Nat → List Int
  | 0 => p0
  | k + 1 => stepP (atN p0 s t g k) (s k) (t k) (g k)
def okFive (p : List Int) : Bool := allB 5 fun j => okP1 (gi p j)
/-- How many moves go well before the first wrong one, of the first n. -/
def goodN (p0 : List Int) (s t g : Nat → Int) : Nat → Nat
  | 0 => 0
  | n + 1 => if goodN p0 s t g n = n ∧ okFive (atN p0 s t g (n + 1)) = true then n + 1 else goodN p0 s t g n
theorem goodN_le (p0 : List Int) (s t g : Nat → Int) : ∀ n, goodN p0 s t g n ≤ n
  | 0 => Nat.le_refl _
  | n + 1 => by
    have := goodN_le p0 s t g n
    unfold goodN
    split <;> omega
theorem goodN_stop {p0 : List Int} {s t g : Nat → Int} {k : Nat} (h : goodN p0 s t g k = k) (h2 : okFive (atN p0 s t g (k + 1)) = false) : ∀ m, k ≤ m → goodN p0 s t g m = k
  | 0, hm => by
    obtain rfl : k = 0 := by omega
    exact h
  | m + 1, hm => by
    by_cases e : k = m + 1
    · subst e; exact h
    · have ih := goodN_stop h h2 m (by omega)
      unfold goodN
      by_cases e2 : k = m
      · subst e2
        rw [if_neg (by rw [h2]; simp), ih]
      · rw [if_neg (by rw [ih]; exact fun c => e2 c.1), ih]
theorem goodN_next {p0 : List Int} {s t g : Nat → Int} {k : Nat} (h : goodN p0 s t g k = k) (h2 : okFive (atN p0 s t g (k + 1)) = true) : goodN p0 s t g (k + 1) = k + 1 := by
  unfold goodN
  rw [if_pos ⟨h, h2⟩]
theorem okFive_bd {p : List Int} (hl : p.length = 5) (h : okFive p = true) : Five p 1000000 := by
  refine ⟨hl, fun i => ?_⟩
  by_cases hi : i < 5
  · have := allB_get h i hi
    simp [okP1, inB] at this
    omega
  · have : gi p i = 0 := by unfold gi; simp [List.getElem?_eq_none (show p.length ≤ i by omega)]
    omega
set_option maxHeartbeats 1000000 in
theorem c_movedW (p : List Int) (a b : Nat) (g : Int) (w : World) (hp : Five p 2000000) (ha : a < 5) (hb : b < 5) (hg : 1 ≤ g ∧ g ≤ 5000) :
    Calls Try.prog 38 #[.agg (nums .i32 p).toArray, .agg #[.int .i8 (a : Int), .int .i8 (b : Int), .int .i16 g]] w fun e w' => e = .returned (.agg (nums .i32 (stepP p a b g)).toArray) ∧ Below w.heap.size w w' := by
  obtain ⟨g0, g1⟩ := hg
  have hp1 := hp.addAt a (v := -g) (V := 5000) ha (by omega) (by omega)
  have hp2 := hp1.addAt b (v := g) (V := 5000) hb (by omega) (by omega)
  obtain ⟨v0, v1⟩ := hp.bd a
  obtain ⟨v2, v3⟩ := hp1.bd b
  have HE : Hid (stepP p a b g = (addAtP p a (-g)).set b (gi (addAtP p a (-g)) b + g)) := rfl
  have HE1 : Hid (addAtP p a (-g) = p.set a (gi p a + -g)) := rfl
  have L0 := Lib.hid hp.len
  have L1 := Lib.hid hp1.len
  have L2 := Lib.hid (show (stepP p a b g).length = 5 from hp2.len)
  have HI := Lib.hid (places_info L2.out)
  have a0 : (0 : Int) ≤ (a : Int) := by omega
  have a1 : (a : Int) < 5 := by omega
  have b0 : (0 : Int) ≤ (b : Int) := by omega
  have b1 : (b : Int) < 5 := by omega
  have hA := blk_alloc (blk_alloc (heap_alloc_new w (.cells (nums .i32 p).toArray 32 (0, 0))) (.cells #[.int .i8 (a : Int), .int .i8 (b : Int), .int .i16 g] 42 (0, 0))) (.cells #[.int .i32 0, .int .i32 0, .int .i32 0, .int .i32 0, .int .i32 0] 32 (0, 0))
  have hM := blk_alloc (heap_alloc_new (w.alloc (.cells (nums .i32 p).toArray 32 (0, 0))) (.cells #[.int .i8 (a : Int), .int .i8 (b : Int), .int .i16 g] 42 (0, 0))) (.cells #[.int .i32 0, .int .i32 0, .int .i32 0, .int .i32 0, .int .i32 0] 32 (0, 0))
  have hR := heap_alloc_new ((w.alloc (.cells (nums .i32 p).toArray 32 (0, 0))).alloc (.cells #[.int .i8 (a : Int), .int .i8 (b : Int), .int .i16 g] 42 (0, 0))) (.cells #[.int .i32 0, .int .i32 0, .int .i32 0, .int .i32 0, .int .i32 0] 32 (0, 0))
  rw [World.size_alloc] at hM
  rw [World.size_alloc, World.size_alloc] at hR
  clear hp hp1 hp2
  go_enter Try.func38, Try.ntmps38
  go_wp2
  have hB : Below w.heap.size w (((w.alloc (.cells (nums .i32 p).toArray 32 (0, 0))).alloc (.cells #[.int .i8 (a : Int), .int .i8 (b : Int), .int .i16 g] 42 (0, 0))).alloc (.cells #[.int .i32 0, .int .i32 0, .int .i32 0, .int .i32 0, .int .i32 0] 32 (0, 0))) := by (repeat (first | with_reducible exact Below.refl _ _ | with_reducible refine below_alloc ?_ _ | with_reducible refine below_drew ?_ | with_reducible refine below_drewN ?_ _ | with_reducible refine below_then ?_ (by assumption)))
  generalize ((w.alloc (.cells (nums .i32 p).toArray 32 (0, 0))).alloc (.cells #[.int .i8 (a : Int), .int .i8 (b : Int), .int .i16 g] 42 (0, 0))).alloc (.cells #[.int .i32 0, .int .i32 0, .int .i32 0, .int .i32 0, .int .i32 0] 32 (0, 0)) = wa at *
  have m0 : wa.cell? ⟨w.heap.size + 1, 0, none⟩ = some (.int .i8 (a : Int)) := cell_of_row wa _ 0 _ _ _ hM
  have m1 : wa.cell? ⟨w.heap.size + 1, 1, none⟩ = some (.int .i8 (b : Int)) := cell_of_row wa _ 1 _ _ _ hM
  have m2 : wa.cell? ⟨w.heap.size + 1, 2, none⟩ = some (.int .i16 g) := cell_of_row wa _ 2 _ _ _ hM
  have ca := nums_cell hA a (by rw [L0.out]; exact ha)
  have fa := blk_frozen hA a
  have HA := Lib.hid hA
  have HM := Lib.hid hM
  have HR := Lib.hid hR
  have HB := Lib.hid hB
  clear hA hM hR hB
  go_still_tail 9, (by kernel_rfl)
  change wpList _ _ _ _ _ wa.drew
  have HAd : Hid (wa.drew.heap[w.heap.size]? = some (.cells (nums .i32 p).toArray 32 (0, 0))) := HA.out
  have HMd : Hid (wa.drew.heap[w.heap.size + 1]? = some (.cells #[.int .i8 (a : Int), .int .i8 (b : Int), .int .i16 g] 42 (0, 0))) := HM.out
  have HRd : Hid (wa.drew.heap[w.heap.size + 1 + 1]? = some (.cells #[.int .i32 0, .int .i32 0, .int .i32 0, .int .i32 0, .int .i32 0] 32 (0, 0))) := HR.out
  have HBd : Hid (Below w.heap.size w wa.drew) := below_drew HB.out
  have ca' : wa.drew.cell? ⟨w.heap.size, a, none⟩ = some (.int .i32 (gi p a)) := ca
  have fa' : wa.drew.frozen? ⟨w.heap.size, a, none⟩ = false := fa
  clear m0 m1 m2 ca fa HA HM HR HB
  generalize wa.drew = wd at *
  go_wp2
  have hA : (wd.setCell ⟨w.heap.size, a, none⟩ (.int .i32 (gi p a - g))).heap[w.heap.size]? = some (.cells (nums .i32 (addAtP p a (-g))).toArray 32 (0, 0)) := by
    have := blk_set HAd.out a (.int .i32 (gi p a - g))
    rw [nums_set, Int.sub_eq_add_neg] at this
    rw [Int.sub_eq_add_neg]
    exact this
  have hM := blk_far HMd.out (show w.heap.size + 1 ≠ w.heap.size by omega) a (.int .i32 (gi p a - g))
  have hR := blk_far HRd.out (show w.heap.size + 1 + 1 ≠ w.heap.size by omega) a (.int .i32 (gi p a - g))
  have hB : Below w.heap.size w (wd.setCell ⟨w.heap.size, a, none⟩ (.int .i32 (gi p a - g))) := HBd.out.setCell (by simp) _
  clear ca' fa'
  generalize wd.setCell ⟨w.heap.size, a, none⟩ (.int .i32 (gi p a - g)) = wb at *
  have m0 : wb.cell? ⟨w.heap.size + 1, 0, none⟩ = some (.int .i8 (a : Int)) := cell_of_row wb _ 0 _ _ _ hM
  have m1 : wb.cell? ⟨w.heap.size + 1, 1, none⟩ = some (.int .i8 (b : Int)) := cell_of_row wb _ 1 _ _ _ hM
  have m2 : wb.cell? ⟨w.heap.size + 1, 2, none⟩ = some (.int .i16 g) := cell_of_row wb _ 2 _ _ _ hM
  have cb := nums_cell hA b (by rw [L1.out]; exact hb)
  have fb := blk_frozen hA b
  have HA := Lib.hid hA
  have HM := Lib.hid hM
  have HR := Lib.hid hR
  have HB := Lib.hid hB
  clear hA hM hR hB HAd HMd HRd HBd
  generalize hq : addAtP p a (-g) = p1 at *
  go_still_tail 9, (by kernel_rfl)
  change wpList _ _ _ _ _ wb.drew
  have HA' : Hid (wb.drew.heap[w.heap.size]? = some (.cells (nums .i32 p1).toArray 32 (0, 0))) := HA.out
  have HR' : Hid (wb.drew.heap[w.heap.size + 1 + 1]? = some (.cells #[.int .i32 0, .int .i32 0, .int .i32 0, .int .i32 0, .int .i32 0] 32 (0, 0))) := HR.out
  have HB' : Hid (Below w.heap.size w wb.drew) := below_drew HB.out
  have cb' : wb.drew.cell? ⟨w.heap.size, b, none⟩ = some (.int .i32 (gi p1 b)) := cb
  have fb' : wb.drew.frozen? ⟨w.heap.size, b, none⟩ = false := fb
  clear m0 m1 m2 cb fb HA HM HR HB
  generalize wb.drew = we at *
  have hA2 : (we.setCell ⟨w.heap.size, b, none⟩ (.int .i32 (gi p1 b + g))).heap[w.heap.size]? = some (.cells (nums .i32 (stepP p a b g)).toArray 32 (0, 0)) := by
    have := blk_set HA'.out b (.int .i32 (gi p1 b + g))
    rw [nums_set] at this
    rw [HE.out]
    exact this
  have HRd : Hid ((we.setCell ⟨w.heap.size, b, none⟩ (.int .i32 (gi p1 b + g))).heap[w.heap.size + 1 + 1]? = some (.cells #[.int .i32 0, .int .i32 0, .int .i32 0, .int .i32 0, .int .i32 0] 32 (0, 0))) := blk_far HR'.out (by omega) b _
  have HBd : Hid (Below w.heap.size w (we.setCell ⟨w.heap.size, b, none⟩ (.int .i32 (gi p1 b + g)))) := HB'.out.setCell (by simp) _
  have HA2 := Lib.hid hA2
  clear hA2 HA' HR' HB'
  go_wp2_with (first
    | (refine wpList_load_row rfl 32 (.tmp 2) rfl (w.heap.size) rfl 32 (nums .i32 (stepP p a b g)).toArray (0, 0) _ ?_ Try.underlying32 rfl HI.out ?_; (with_reducible exact HA2.out))
    | (refine ev_store_row rfl 32 (.tmp 4) (.tmp 23) rfl (w.heap.size + 1 + 1) (nums .i32 (stepP p a b g)).toArray rfl rfl 32 #[.int .i32 0, .int .i32 0, .int .i32 0, .int .i32 0, .int .i32 0] ?_ HI.out (by simp [nums, L2.out]) (nums_one _ _) ?_; (with_reducible exact HRd.out); intro w1 hblk ht; have HR3 := Lib.hid hblk; have HB3 : Hid (Below w.heap.size w w1) := HBd.out.trans (ht.below (by omega)); clear hblk))
  refine bodyPost_ret (v := .agg (nums .i32 (stepP p a b g)).toArray) (results_cell_row rfl _ _ (w.heap.size + 1 + 1) 32 (nums .i32 (stepP p a b g)).toArray (0, 0) _ rfl (by with_reducible exact HR3.out) Try.underlying32 rfl HI.out) rfl ⟨rfl, HB3.out⟩
end Go.Proofs.Ytakbgfgbaegaeaa
