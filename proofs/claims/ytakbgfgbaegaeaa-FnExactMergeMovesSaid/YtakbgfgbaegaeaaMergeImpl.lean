/- Moves taken together: the implementation's walk. -/
import Derived.Test.YtakbgfgbaegaeaaMergeSpec
namespace Go.Proofs.Ytakbgfgbaegaeaa
open Go.RowKit
set_option linter.unusedVariables false
set_option linter.unusedSimpArgs false
set_option maxRecDepth 100000

set_option maxHeartbeats 4000000 in
theorem c_iMergeMoves (A : Option Addr) (n c : Nat) (s t g : Nat → Int) (w : World) (h : MovesAt w A n s t g) (hn : n ≤ 1048576) (hg : ∀ j, j < n → (-32768 ≤ g j ∧ g j ≤ 32767) ∧ (-128 ≤ s j ∧ s j ≤ 127) ∧ (-128 ≤ t j ∧ t j ≤ 127)) :
    Calls Try.prog 8 #[.slice A n c] w fun e w' => ∃ v, e = .returned (.tuple #[v, .int .i64 (mergeF n s t g).2]) ∧ w'.ownsRow w.heap.size 42 3 v (mergeF n s t g).1.length (mvRow (mergeF n s t g).1) ∧ Below w.heap.size w w' := by
  have H0 := Lib.hid h
  have cv := c_iValidMoves A n c s t g w h hn hg
  cases hm : (allB n (fun j => okMove (s j) (t j) (g j)) && decide (n ≤ 60))
  · have E : Hid (mergeF n s t g = ([], 1)) := by rw [Hid, mergeF, hm]; rfl
    rw [hm] at cv
    have CV := Lib.hid cv
    clear cv h hg hm
    go_enter Try.func8, Try.ntmps8
    go_wp2_with (go_at_call 18; ((with_reducible refine CV.out.mono ?_); rintro e w1 ⟨rfl, hb⟩))
    exact bodyPost_ret (v := .tuple #[.slice none 0 0, .int .i64 1]) (by simp [results, Try.results8, go_sem]) rfl ⟨_, by rw [E.out], by rw [E.out]; exact own_nil _ _ _ _, hb⟩
  · have hok2 : allB n (fun j => okMove (s j) (t j) (g j)) = true ∧ decide (n ≤ 60) = true := by simpa only [Bool.and_eq_true] using hm
    have HOK : Hid (∀ j, j < n → 1 ≤ g j ∧ g j ≤ 5000) := fun j hj => (okMove_all' (allB_get hok2.1 j hj)).2.2
    have hn60 : n ≤ 60 := of_decide_eq_true hok2.2
    have E : Hid (mergeF n s t g = if mrgOk s t g n 25 = true then (mrgL s t g n 25, 0) else ([], 3)) := by rw [Hid, mergeF, hm]; rfl
    rw [hm] at cv
    have CV := Lib.hid cv
    clear cv h hg hm hok2
    go_enter Try.func8, Try.ntmps8
    go_wp2_with (go_at_call 18; ((with_reducible refine CV.out.mono ?_); rintro e w1 ⟨rfl, hb⟩; have H := Lib.hid (H0.out.below hb); have HB1 := Lib.hid hb))
    clear hb CV
    go_loopw [13, 4] (fun i v wr => ∃ a : Nat, a ≤ 5 ∧ i = .int .i8 a ∧ Hid (mrgOk s t g n (a * 5) = true) ∧ Hid (wr.ownsRow w.heap.size 42 3 v (mrgL s t g n (a * 5)).length (mvRow (mrgL s t g n (a * 5)))) ∧ Hid (MovesAt wr A n s t g) ∧ Hid (Below w.heap.size w wr)) (fun i _ _ => 5 - (intOf i).toNat)
    case atStart => exact ⟨0, by omega, rfl, rfl, own_nil _ _ _ _, H, HB1⟩
    case round =>
      obtain ⟨a, ha, rfl, hK, hO, hM, hB⟩ := hrel
      by_cases hlt : a < 5
      · have d1 : decide ((a : Int) < 5) = true := by simp; omega
        have a0 : (0 : Int) ≤ (a : Int) := by omega
        have a1 : (a : Int) < 5 := by omega
        go_wp2
        go_loopw [16, 4] (fun i v wr => ∃ b : Nat, b ≤ 5 ∧ i = .int .i8 b ∧ Hid (mrgOk s t g n (a * 5 + b) = true) ∧ Hid (wr.ownsRow w.heap.size 42 3 v (mrgL s t g n (a * 5 + b)).length (mvRow (mrgL s t g n (a * 5 + b)))) ∧ Hid (MovesAt wr A n s t g) ∧ Hid (Below w.heap.size w wr)) (fun i _ _ => 5 - (intOf i).toNat)
        case atStart => exact ⟨0, by omega, rfl, hK, hO, hM, hB⟩
        case round =>
          obtain ⟨b, hb, rfl, hK, hO, hM, hB⟩ := hrel
          by_cases hlt2 : b < 5
          · have d2 : decide ((b : Int) < 5) = true := by simp; omega
            have b0 : (0 : Int) ≤ (b : Int) := by omega
            have b1 : (b : Int) < 5 := by omega
            go_wp2
            go_loopw [21, 7] (fun i x wr => ∃ j : Nat, j ≤ n ∧ i = .int .i64 j ∧ x = .int .i64 (sumAB s t g a b j) ∧ Hid (wr.ownsRow w.heap.size 42 3 u4 (mrgL s t g n (a * 5 + b)).length (mvRow (mrgL s t g n (a * 5 + b)))) ∧ Hid (MovesAt wr A n s t g) ∧ Hid (Below w.heap.size w wr)) (fun i _ _ => n - (intOf i).toNat)
            case atStart => exact ⟨0, by omega, rfl, rfl, hO, hM, hB⟩
            case round =>
              obtain ⟨j, hj, rfl, rfl, hO, hM, hB⟩ := hrel
              have hz := hB.out.size
              obtain ⟨z0, z1⟩ := sumAB_bd HOK.out (s := s) (t := t) a b j hj
              have z2 : sumAB s t g a b j ≤ 300000 := by omega
              clear z1
              by_cases hlt3 : j < n
              · have d3 : decide ((j : Int) < (n : Int)) = true := by simp; omega
                have j0 : (0 : Int) ≤ (j : Int) := by omega
                have j1 : (j : Int) < (n : Int) := by omega
                obtain ⟨ad, hAd, c0, c1, c2⟩ := hM.out.at_ j hlt3
                subst hAd
                obtain ⟨g0, g1⟩ := HOK.out j hlt3
                by_cases hs : s j = (a : Int)
                · rw [hs] at c0
                  by_cases ht : t j = (b : Int)
                  · rw [ht] at c1
                    have HS : Hid (sumAB s t g a b (j + 1) = sumAB s t g a b j + g j) := by rw [Hid, sumAB, if_pos ⟨hs, ht⟩]
                    go_wp2
                    go_roundw
                    case rel => exact ⟨j + 1, by omega, by go_num, by rw [HS.out], hO.out.alloc _, hM.out.below (below_alloc (Below.refl _ _) _), hB.out.alloc hz _⟩
                    case measure => simp [intOf]; omega
                  · have de : (t j == (b : Int)) = false := by simp [ht]
                    have HS : Hid (sumAB s t g a b (j + 1) = sumAB s t g a b j) := by rw [Hid, sumAB, if_neg (fun h => ht h.2)]
                    go_wp2
                    go_roundw
                    case rel => exact ⟨j + 1, by omega, by go_num, by rw [HS.out], hO.out.alloc _, hM.out.below (below_alloc (Below.refl _ _) _), hB.out.alloc hz _⟩
                    case measure => simp [intOf]; omega
                · have de : (s j == (a : Int)) = false := by simp [hs]
                  have HS : Hid (sumAB s t g a b (j + 1) = sumAB s t g a b j) := by rw [Hid, sumAB, if_neg (fun h => hs h.1)]
                  go_wp2
                  go_roundw
                  case rel => exact ⟨j + 1, by omega, by go_num, by rw [HS.out], hO.out.alloc _, hM.out.below (below_alloc (Below.refl _ _) _), hB.out.alloc hz _⟩
                  case measure => simp [intOf]; omega
              · obtain rfl : j = n := by omega
                have d3 : decide ((j : Int) < (j : Int)) = false := by simp
                have ep : (a * 5 + b) / 5 = a := by omega
                have eq : (a * 5 + b) % 5 = b := by omega
                have HOKn : Hid (mrgOk s t g j (a * 5 + b + 1) = decide (sumAB s t g a b j ≤ 5000)) := by
                  have := hK.out
                  unfold mrgOk at this
                  rw [Hid, mrgOk, allB, this, ep, eq]; rfl
                have HL : Hid (mrgL s t g j (a * 5 + b + 1) = if 0 < sumAB s t g a b j then mrgL s t g j (a * 5 + b) ++ [((a : Int), (b : Int), sumAB s t g a b j)] else mrgL s t g j (a * 5 + b)) := by
                  rw [Hid, mrgL, ep, eq]
                have hlen := mrgL_len s t g j (a * 5 + b)
                generalize hx : sumAB s t g a b j = x at *
                by_cases hbig : 5000 < x
                · have dg : decide (5000 < x) = true := by simpa using hbig
                  have hno : mrgOk s t g j 25 = false := allB_stop (k := a * 5 + b) (by simp only [ep, eq, hx]; simp; omega) (by omega)
                  have E3 : Hid (mergeF j s t g = ([], 3)) := by rw [Hid, E.out, hno]; rfl
                  clear hno
                  go_wp2
                  exact bodyPost_ret (v := .tuple #[.slice none 0 0, .int .i64 3]) (by simp [results, Try.results8, go_sem]) rfl ⟨_, by rw [E3.out], by rw [E3.out]; exact own_nil _ _ _ _, hB.out⟩
                · have dg : decide (5000 < x) = false := by simpa using hbig
                  have HK2 : Hid (mrgOk s t g j (a * 5 + b + 1) = true) := by rw [Hid, HOKn.out]; simp; omega
                  by_cases hpos : 0 < x
                  · have dp : decide (0 < x) = true := by simpa using hpos
                    have HL2 : Hid (mrgL s t g j (a * 5 + b + 1) = mrgL s t g j (a * 5 + b) ++ [((a : Int), (b : Int), x)]) := by rw [Hid, HL.out, if_pos hpos]
                    go_wp2_with (at_builtin; refine ap1 rfl (.tmp 47) (.tmp 53) 24 42 rfl ((.agg #[.int .i8 0, .int .i8 0, .int .i16 0])) 3 4 w.heap.size Try.underlying24 (by kernel_rfl) rfl (by decide) u4 (mrgL s t g j (a * 5 + b)).length (mvRow (mrgL s t g j (a * 5 + b))) [.int .i8 (a : Int), .int .i8 (b : Int), .int .i16 x] rfl rfl (by simp) rfl rfl hO.out hz (by omega) (by omega) ?_; intro g3 d3 w5 hown hg3 hat; have hB5 := Lib.hid (below_grown hB.out hg3 hO.out (Nat.le_refl _) hz); have hO5 := Lib.hid hown; clear hown hat)
                    go_roundw
                    case rel => exact ⟨b + 1, by omega, by go_num, HK2, by rw [show a * 5 + (b + 1) = a * 5 + b + 1 by omega, HL2.out, List.length_append, mvRow_snoc]; exact hO5.out, H0.out.below hB5.out, hB5⟩
                    case measure => simp [intOf]; omega
                  · have dp : decide (0 < x) = false := by simpa using hpos
                    have HL2 : Hid (mrgL s t g j (a * 5 + b + 1) = mrgL s t g j (a * 5 + b)) := by rw [Hid, HL.out, if_neg hpos]
                    go_wp2
                    go_roundw
                    case rel => exact ⟨b + 1, by omega, by go_num, HK2, by rw [show a * 5 + (b + 1) = a * 5 + b + 1 by omega, HL2.out]; exact hO, hM, hB⟩
                    case measure => simp [intOf]; omega
          · obtain rfl : b = 5 := by omega
            have d2 : decide ((5 : Int) < 5) = false := by simp
            go_wp2
            go_roundw
            case rel => exact ⟨a + 1, by omega, by go_num, by rw [show (a + 1) * 5 = a * 5 + 5 by omega]; exact hK, by rw [show (a + 1) * 5 = a * 5 + 5 by omega]; exact hO, hM, hB⟩
            case measure => simp [intOf]; omega
      · obtain rfl : a = 5 := by omega
        have d1 : decide ((5 : Int) < 5) = false := by simp
        have E0 : Hid (mergeF n s t g = (mrgL s t g n 25, 0)) := by rw [Hid, E.out, if_pos hK.out]
        go_wp2
        exact bodyPost_ret (v := .tuple #[u4, .int .i64 0]) (by simp [results, Try.results8, go_sem]) rfl ⟨_, by rw [E0.out], by rw [E0.out]; exact hO.out, hB.out⟩
end Go.Proofs.Ytakbgfgbaegaeaa
