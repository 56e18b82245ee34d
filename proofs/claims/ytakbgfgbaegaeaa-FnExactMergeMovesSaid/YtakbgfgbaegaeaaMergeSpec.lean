/- Moves taken together: the plain part, and the reference's walk. -/
import Derived.Test.YtakbgfgbaegaeaaMoveRows
import Derived.Test.YtakbgfgbaegaeaaMem3
namespace Go.Proofs.Ytakbgfgbaegaeaa
open Go.RowKit
set_option linter.unusedVariables false
set_option linter.unusedSimpArgs false
set_option maxRecDepth 100000

/-- The cells of moves, side by side. -/
def mvRow (L : List (Int × Int × Int)) : List Value := (L.map fun z => [Value.int .i8 z.1, Value.int .i8 z.2.1, Value.int .i16 z.2.2]).flatten
theorem mvRow_snoc (L : List (Int × Int × Int)) (a b x : Int) : mvRow (L ++ [(a, b, x)]) = mvRow L ++ [.int .i8 a, .int .i8 b, .int .i16 x] := by
  simp [mvRow]
theorem mvRow_len (L : List (Int × Int × Int)) : (mvRow L).length = L.length * 3 := by
  induction L with
  | nil => rfl
  | cons z L ih => simp only [mvRow, List.map_cons, List.flatten_cons, List.length_append, List.length_cons, List.length_nil] at ih ⊢; omega
/-- Two rows with the same moves. -/
theorem c_eqOwnMove (v v' : Value) (base base' : Nat) (L : List (Int × Int × Int)) (w : World) (h : w.ownsRow base 42 3 v L.length (mvRow L)) (h' : w.ownsRow base' 42 3 v' L.length (mvRow L)) (hn : L.length ≤ 1048576) :
    Calls Try.prog 9 #[v, v'] w fun e w' => e = .returned (.bool true) ∧ Below w.heap.size w w' := by
  obtain ⟨A, c, rfl, _⟩ := own_form h
  obtain ⟨B, c', rfl, _⟩ := own_form h'
  exact c_eqMoveS A B L.length c c' _ _ _ w (movesAt_of (own_rd h)) (movesAt_of (own_rd h')) hn
def sumAB (s t g : Nat → Int) (a b : Int) : Nat → Int
  | 0 => 0
  | k + 1 => if s k = a ∧ t k = b then sumAB s t g a b k + g k else sumAB s t g a b k
theorem sumAB_bd {s t g : Nat → Int} {n : Nat} (h : ∀ j, j < n → 1 ≤ g j ∧ g j ≤ 5000) (a b : Int) : ∀ k, k ≤ n → 0 ≤ sumAB s t g a b k ∧ sumAB s t g a b k ≤ 5000 * k
  | 0, _ => by simp [sumAB]
  | k + 1, hk => by
    have ih := sumAB_bd (s := s) (t := t) h a b k (by omega)
    have := h k (by omega)
    unfold sumAB
    split <;> constructor <;> omega
/-- The moves of the first p pairs of places. -/
def mrgL (s t g : Nat → Int) (n : Nat) : Nat → List (Int × Int × Int)
  | 0 => []
  | p + 1 => if 0 < sumAB s t g ((p / 5 : Nat) : Int) ((p % 5 : Nat) : Int) n then mrgL s t g n p ++ [(((p / 5 : Nat) : Int), ((p % 5 : Nat) : Int), sumAB s t g ((p / 5 : Nat) : Int) ((p % 5 : Nat) : Int) n)] else mrgL s t g n p
theorem mrgL_len (s t g : Nat → Int) (n : Nat) : ∀ p, (mrgL s t g n p).length ≤ p
  | 0 => Nat.le_refl _
  | p + 1 => by
    have := mrgL_len s t g n p
    unfold mrgL
    split
    · rw [List.length_append, List.length_singleton]; omega
    · omega
def mrgOk (s t g : Nat → Int) (n p : Nat) : Bool := allB p fun q => decide (sumAB s t g ((q / 5 : Nat) : Int) ((q % 5 : Nat) : Int) n ≤ 5000)
def mergeF (n : Nat) (s t g : Nat → Int) : List (Int × Int × Int) × Int :=
  if (allB n (fun j => okMove (s j) (t j) (g j)) && decide (n ≤ 60)) = true then (if mrgOk s t g n 25 = true then (mrgL s t g n 25, 0) else ([], 3)) else ([], 1)
theorem mergeF_le (n : Nat) (s t g : Nat → Int) : (mergeF n s t g).1.length ≤ 1048576 := by
  unfold mergeF
  split
  · split
    · have := mrgL_len s t g n 25; show (mrgL s t g n 25).length ≤ _; omega
    · simp
  · simp
theorem okMove_all' {s t g : Int} (h : okMove s t g = true) : (0 ≤ s ∧ s < 5) ∧ (0 ≤ t ∧ t < 5) ∧ 1 ≤ g ∧ g ≤ 5000 := by
  simp [okMove, mayMove, inB] at h
  omega

set_option maxHeartbeats 4000000 in
theorem c_sMergeMoves (A : Option Addr) (n c : Nat) (s t g : Nat → Int) (w : World) (h : MovesAt w A n s t g) (hn : n ≤ 1048576) (hg : ∀ j, j < n → (-32768 ≤ g j ∧ g j ≤ 32767) ∧ (-128 ≤ s j ∧ s j ≤ 127) ∧ (-128 ≤ t j ∧ t j ≤ 127)) :
    Calls Try.prog 6 #[.slice A n c] w fun e w' => ∃ v, e = .returned (.tuple #[v, .int .i64 (mergeF n s t g).2]) ∧ w'.ownsRow w.heap.size 42 3 v (mergeF n s t g).1.length (mvRow (mergeF n s t g).1) ∧ Below w.heap.size w w' := by
  have HB0 : Hid (Below w.heap.size w (w.alloc (.cells #[] 42 (0, 0)))) := below_alloc (Below.refl _ _) _
  have HE := Lib.hid (own_empty (base := w.heap.size) (e := 42) (size := 3) (heap_alloc_new w (.cells #[] 42 (0, 0))) (Nat.le_refl _))
  have H0 := Lib.hid h
  have H := Lib.hid (h.below HB0.out)
  have cv := c_l07Moves A n c s t g _ H.out hn hg
  cases hm : (allB n (fun j => okMove (s j) (t j) (g j)) && decide (n ≤ 60))
  · have E : Hid (mergeF n s t g = ([], 1)) := by rw [Hid, mergeF, hm]; rfl
    rw [hm] at cv
    have CV := Lib.hid cv
    clear cv h hg hm
    go_enter Try.func6, Try.ntmps6
    go_wp2_with (go_at_call 16; ((with_reducible refine CV.out.mono ?_); rintro e w1 ⟨rfl, hb⟩))
    exact bodyPost_ret (v := .tuple #[.slice (some ⟨w.heap.size, 0, none⟩) 0 0, .int .i64 1]) (by simp [results, Try.results6, go_sem]) rfl ⟨_, by rw [E.out], by rw [E.out]; exact own_below HE.out hb, below_then HB0.out hb⟩
  · have hok2 : allB n (fun j => okMove (s j) (t j) (g j)) = true ∧ decide (n ≤ 60) = true := by simpa only [Bool.and_eq_true] using hm
    have HOK : Hid (∀ j, j < n → 1 ≤ g j ∧ g j ≤ 5000) := fun j hj => (okMove_all' (allB_get hok2.1 j hj)).2.2
    have hn60 : n ≤ 60 := of_decide_eq_true hok2.2
    have E : Hid (mergeF n s t g = if mrgOk s t g n 25 = true then (mrgL s t g n 25, 0) else ([], 3)) := by rw [Hid, mergeF, hm]; rfl
    rw [hm] at cv
    have CV := Lib.hid cv
    clear cv h hg hm hok2
    go_enter Try.func6, Try.ntmps6
    go_wp2_with (go_at_call 16; ((with_reducible refine CV.out.mono ?_); rintro e w1 ⟨rfl, hb⟩; have HE := Lib.hid (own_below HE.out hb); have H := Lib.hid (H.out.below hb); have HB1 := Lib.hid (below_then HB0.out hb)))
    clear hb CV
    go_loopw [5, 4] (fun i v wr => ∃ a : Nat, a ≤ 5 ∧ i = .int .i8 a ∧ Hid (mrgOk s t g n (a * 5) = true) ∧ Hid (wr.ownsRow w.heap.size 42 3 v (mrgL s t g n (a * 5)).length (mvRow (mrgL s t g n (a * 5)))) ∧ Hid (MovesAt wr A n s t g) ∧ Hid (Below w.heap.size w wr)) (fun i _ _ => 5 - (intOf i).toNat)
    case atStart => exact ⟨0, by omega, rfl, rfl, HE, H, HB1⟩
    case round =>
      obtain ⟨a, ha, rfl, hK, hO, hM, hB⟩ := hrel
      by_cases hlt : a < 5
      · have d1 : decide ((a : Int) < 5) = true := by simp; omega
        have a0 : (0 : Int) ≤ (a : Int) := by omega
        have a1 : (a : Int) < 5 := by omega
        go_wp2
        go_loopw [6, 4] (fun i v wr => ∃ b : Nat, b ≤ 5 ∧ i = .int .i8 b ∧ Hid (mrgOk s t g n (a * 5 + b) = true) ∧ Hid (wr.ownsRow w.heap.size 42 3 v (mrgL s t g n (a * 5 + b)).length (mvRow (mrgL s t g n (a * 5 + b)))) ∧ Hid (MovesAt wr A n s t g) ∧ Hid (Below w.heap.size w wr)) (fun i _ _ => 5 - (intOf i).toNat)
        case atStart => exact ⟨0, by omega, rfl, hK, hO, hM, hB⟩
        case round =>
          obtain ⟨b, hb, rfl, hK, hO, hM, hB⟩ := hrel
          by_cases hlt2 : b < 5
          · have d2 : decide ((b : Int) < 5) = true := by simp; omega
            have b0 : (0 : Int) ≤ (b : Int) := by omega
            have b1 : (b : Int) < 5 := by omega
            go_wp2
            go_loop [8, 7] (fun i x => ∃ j : Nat, j ≤ n ∧ i = .int .i64 j ∧ x = .int .i64 (sumAB s t g a b j)) (fun i _ => n - (intOf i).toNat)
            case atStart => exact ⟨0, by omega, rfl, rfl⟩
            case round =>
              obtain ⟨j, hj, rfl, rfl⟩ := hrel
              obtain ⟨z0, z1⟩ := sumAB_bd HOK.out (s := s) (t := t) a b j hj
              have z2 : sumAB s t g a b j ≤ 300000 := by omega
              clear z1
              by_cases hlt3 : j < n
              · have d3 : decide ((j : Int) < (n : Int)) = true := by simp; omega
                have j0 : (0 : Int) ≤ (j : Int) := by omega
                have j1 : (j : Int) < (n : Int) := by omega
                obtain ⟨ad, rfl, c0, c1, c2⟩ := hM.out.at_ j hlt3
                obtain ⟨g0, g1⟩ := HOK.out j hlt3
                by_cases hs : s j = (a : Int)
                · rw [hs] at c0
                  by_cases ht : t j = (b : Int)
                  · rw [ht] at c1
                    have HS : Hid (sumAB s t g a b (j + 1) = sumAB s t g a b j + g j) := by rw [Hid, sumAB, if_pos ⟨hs, ht⟩]
                    go_wp2
                    go_round
                    case rel => exact ⟨j + 1, by omega, by go_num, by rw [HS.out]⟩
                    case measure => simp [intOf]; omega
                  · have de : (t j == (b : Int)) = false := by simp [ht]
                    have HS : Hid (sumAB s t g a b (j + 1) = sumAB s t g a b j) := by rw [Hid, sumAB, if_neg (fun h => ht h.2)]
                    go_wp2
                    go_round
                    case rel => exact ⟨j + 1, by omega, by go_num, by rw [HS.out]⟩
                    case measure => simp [intOf]; omega
                · have de : (s j == (a : Int)) = false := by simp [hs]
                  have HS : Hid (sumAB s t g a b (j + 1) = sumAB s t g a b j) := by rw [Hid, sumAB, if_neg (fun h => hs h.1)]
                  go_wp2
                  go_round
                  case rel => exact ⟨j + 1, by omega, by go_num, by rw [HS.out]⟩
                  case measure => simp [intOf]; omega
              · obtain rfl : j = n := by omega
                have d3 : decide ((j : Int) < (j : Int)) = false := by simp
                have ep : (a * 5 + b) / 5 = a := by omega
                have eq : (a * 5 + b) % 5 = b := by omega
                have HOKn : Hid (mrgOk s t g j (a * 5 + b + 1) = decide (sumAB s t g a b j ≤ 5000)) := by
                  have := hK.out
                  unfold mrgOk at this
                  rw [Hid, mrgOk, allB, this, ep, eq]; rfl
                have HL : Hid (mrgL s t g j (a * 5 + b + 1) = if 0 < sumAB s t g a b j then mrgL s t g j (a * 5 + b) ++ [((a : Int), (b : Int), sumAB s t g a b j)] else mrgL s t g j (a * 5 + b)) := by
                  rw [Hid, mrgL, ep, eq]
                have hlen := mrgL_len s t g j (a * 5 + b)
                have hz := hB.out.size
                generalize hx : sumAB s t g a b j = x at *
                by_cases hbig : 5000 < x
                · have dg : decide (5000 < x) = true := by simpa using hbig
                  have hno : mrgOk s t g j 25 = false := allB_stop (k := a * 5 + b) (by simp only [ep, eq, hx]; simp; omega) (by omega)
                  have E3 : Hid (mergeF j s t g = ([], 3)) := by rw [Hid, E.out, hno]; rfl
                  clear hno
                  go_wp2
                  exact bodyPost_ret (v := .tuple #[.slice (some ⟨wr.heap.size, 0, none⟩) 0 0, .int .i64 3]) (by simp [results, Try.results6, go_sem]) rfl ⟨_, by rw [E3.out], by rw [E3.out]; exact own_empty (heap_alloc_new wr _) hz, hB.out.alloc hz _⟩
                · have dg : decide (5000 < x) = false := by simpa using hbig
                  have HK2 : Hid (mrgOk s t g j (a * 5 + b + 1) = true) := by rw [Hid, HOKn.out]; simp; omega
                  by_cases hpos : 0 < x
                  · have dp : decide (0 < x) = true := by simpa using hpos
                    have HL2 : Hid (mrgL s t g j (a * 5 + b + 1) = mrgL s t g j (a * 5 + b) ++ [((a : Int), (b : Int), x)]) := by rw [Hid, HL.out, if_pos hpos]
                    go_wp2_with (at_builtin; refine ap1 rfl (.tmp 57) (.tmp 63) 24 42 rfl ((.agg #[.int .i8 0, .int .i8 0, .int .i16 0])) 3 4 w.heap.size Try.underlying24 (by kernel_rfl) rfl (by decide) u4 (mrgL s t g j (a * 5 + b)).length (mvRow (mrgL s t g j (a * 5 + b))) [.int .i8 (a : Int), .int .i8 (b : Int), .int .i16 x] rfl rfl (by simp) rfl rfl hO.out hz (by omega) (by omega) ?_; intro g3 d3 w5 hown hg3 hat; have hB5 := Lib.hid (below_grown hB.out hg3 hO.out (Nat.le_refl _) hz); have hO5 := Lib.hid hown; clear hown hat)
                    go_roundw
                    case rel => exact ⟨b + 1, by omega, by go_num, HK2, by rw [show a * 5 + (b + 1) = a * 5 + b + 1 by omega, HL2.out, List.length_append, mvRow_snoc]; exact hO5.out, H0.out.below hB5.out, hB5⟩
                    case measure => simp [intOf]; omega
                  · have dp : decide (0 < x) = false := by simpa using hpos
                    have HL2 : Hid (mrgL s t g j (a * 5 + b + 1) = mrgL s t g j (a * 5 + b)) := by rw [Hid, HL.out, if_neg hpos]
                    go_wp2
                    go_roundw
                    case rel => exact ⟨b + 1, by omega, by go_num, HK2, by rw [show a * 5 + (b + 1) = a * 5 + b + 1 by omega, HL2.out]; exact hO, hM, hB⟩
                    case measure => simp [intOf]; omega
          · obtain rfl : b = 5 := by omega
            have d2 : decide ((5 : Int) < 5) = false := by simp
            go_wp2
            go_roundw
            case rel => exact ⟨a + 1, by omega, by go_num, by rw [show (a + 1) * 5 = a * 5 + 5 by omega]; exact hK, by rw [show (a + 1) * 5 = a * 5 + 5 by omega]; exact hO, hM, hB⟩
            case measure => simp [intOf]; omega
      · obtain rfl : a = 5 := by omega
        have d1 : decide ((5 : Int) < 5) = false := by simp
        have E0 : Hid (mergeF n s t g = (mrgL s t g n 25, 0)) := by rw [Hid, E.out, if_pos hK.out]
        go_wp2
        exact bodyPost_ret (v := .tuple #[u4, .int .i64 0]) (by simp [results, Try.results6, go_sem]) rfl ⟨_, by rw [E0.out], by rw [E0.out]; exact hO.out, hB.out⟩
end Go.Proofs.Ytakbgfgbaegaeaa
