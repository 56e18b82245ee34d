/- Orders served one by one: the plain part, and the reference's walk. -/
import Derived.Test.YtfdljhepfoppaaaLeftIn
namespace Go.Proofs.Ytfdljhepfoppaaa
open Go.RowKit
set_option linter.unusedVariables false
set_option linter.unusedSimpArgs false
set_option maxRecDepth 100000

/-- The lot taken out of the first k, or -1. -/
def pickN (q : Int → Int → Bool) (s : Nat → Int) (l : List Int) (so go : Int) : Nat → Int
  | 0 => -1
  | k + 1 => if s k = so ∧ go ≤ gi l k ∧ (pickN q s l so go k < 0 ∨ q (gi l k) (gi l (pickN q s l so go k).toNat) = true) then (k : Int) else pickN q s l so go k
theorem pickN_bd (q : Int → Int → Bool) (s : Nat → Int) (l : List Int) (so go : Int) : ∀ k, -1 ≤ pickN q s l so go k ∧ pickN q s l so go k < k
  | 0 => by simp [pickN]
  | k + 1 => by
    have := pickN_bd q s l so go k
    unfold pickN
    split <;> constructor <;> omega
theorem pickN_ge (q : Int → Int → Bool) (s : Nat → Int) (l : List Int) (so go : Int) : ∀ k, 0 ≤ pickN q s l so go k → go ≤ gi l (pickN q s l so go k).toNat
  | 0, h => by simp [pickN] at h
  | k + 1, h => by
    have ih := pickN_ge q s l so go k
    unfold pickN at h ⊢
    split
    · rename_i hc; simpa using hc.2.1
    · rename_i hc; rw [if_neg hc] at h; exact ih h
def fitL (q : Int → Int → Bool) (nl : Nat) (s g so go : Nat → Int) : Nat → List Int
  | 0 => (List.range nl).map g
  | i + 1 => if 0 ≤ pickN q s (fitL q nl s g so go i) (so i) (go i) nl then (fitL q nl s g so go i).set (pickN q s (fitL q nl s g so go i) (so i) (go i) nl).toNat (gi (fitL q nl s g so go i) (pickN q s (fitL q nl s g so go i) (so i) (go i) nl).toNat - go i) else fitL q nl s g so go i
/-- The lot of order i. -/
def fitA (q : Int → Int → Bool) (nl : Nat) (s g so go : Nat → Int) (i : Nat) : Int := pickN q s (fitL q nl s g so go i) (so i) (go i) nl
theorem fitL_ok {q : Int → Int → Bool} {nl no : Nat} {s g so go : Nat → Int} (hg : ∀ j, j < nl → 0 ≤ g j ∧ g j ≤ 5000) (hgo : ∀ j, j < no → 1 ≤ go j ∧ go j ≤ 5000) : ∀ i, i ≤ no → LeftOk nl (fitL q nl s g so go i)
  | 0, _ => LeftOk.first (fun j hj => by have := hg j hj; omega)
  | i + 1, hi => by
    have ih := fitL_ok (q := q) (s := s) (so := so) hg hgo i (by omega)
    have h1 := hgo i (by omega)
    have hb := pickN_bd q s (fitL q nl s g so go i) (so i) (go i) nl
    unfold fitL
    split
    · rename_i hc
      have h2 := pickN_ge q s (fitL q nl s g so go i) (so i) (go i) nl hc
      have h3 := ih.bd (pickN q s (fitL q nl s g so go i) (so i) (go i) nl).toNat
      exact ih.set (by omega) (by omega) (by omega)
    · exact ih
/-- How an order asks: the first lot, or the one with the least left. -/
def leastB (b : Bool) (x y : Int) : Bool := b && decide (x < y)

theorem own_heap {w w1 : World} {base : Nat} {e : TypeId} {size : Nat} {v : Value} {n : Nat} {xs : List Value} (h : w.ownsRow base e size v n xs) (he : w1.heap = w.heap) : w1.ownsRow base e size v n xs := by
  unfold World.ownsRow at *; rw [he]; exact h
theorem pick_yes {q : Int → Int → Bool} {s : Nat → Int} {l : List Int} {so go a : Int} {k : Nat} (ha : pickN q s l so go k = a) (h1 : s k = so) (h2 : go ≤ gi l k) (h3 : a < 0 ∨ q (gi l k) (gi l a.toNat) = true) : pickN q s l so go (k + 1) = (k : Int) := by
  rw [pickN, ha, if_pos ⟨h1, h2, h3⟩]
theorem pick_no {q : Int → Int → Bool} {s : Nat → Int} {l : List Int} {so go a : Int} {k : Nat} (ha : pickN q s l so go k = a) (h : ¬ (s k = so ∧ go ≤ gi l k ∧ (a < 0 ∨ q (gi l k) (gi l a.toNat) = true))) : pickN q s l so go (k + 1) = a := by
  rw [pickN, ha, if_neg h]
set_option maxHeartbeats 4000000 in
theorem c_l07Fit (A B : Option Addr) (nl no c c1 : Nat) (s g so go : Nat → Int) (b : Bool) (w : World) (hL : LotsAt w A nl s g) (hO : LotsAt w B no so go)
    (hnl : nl ≤ 6) (hno : no ≤ 7) (hg : ∀ j, j < nl → 0 ≤ g j ∧ g j ≤ 5000) (hgo : ∀ j, j < no → 1 ≤ go j ∧ go j ≤ 5000) :
    Calls Try.prog 33 #[.slice A nl c, .slice B no c1, .bool b] w fun e w' => ∃ v, e = .returned v ∧ w'.ownsRow w.heap.size 2 1 v no (nums .i64 ((List.range no).map (fitA (leastB b) nl s g so go))) ∧ Below w.heap.size w w' := by
  have HL := Lib.hid hL
  have HO := Lib.hid hO
  have HG := Lib.hid hg
  have HGO := Lib.hid hgo
  have HK := Lib.hid (fitL_ok (q := leastB b) (s := s) (so := so) hg hgo)
  have ho := World.ownsRow_made (base := w.heap.size) (e := 2) (size := 1) w #[] 0 (by simp) (by decide) rfl
  have HE := Lib.hid ho
  have HB0 : Hid (Below w.heap.size w (w.alloc (.cells #[] 2 (0, 0)))) := below_alloc (Below.refl _ _) _
  clear hL hO hg hgo ho
  go_enter Try.func33, Try.ntmps33
  go_wp2
  go_loopw [8, 7] (fun i v wr => ∃ k : Nat, k ≤ nl ∧ i = .int .i64 k ∧ Hid (wr.ownsRow w.heap.size 2 1 v k (nums .i64 ((List.range k).map g))) ∧ Hid (Below w.heap.size w wr)) (fun i _ _ => nl - (intOf i).toNat)
  case atStart => exact ⟨0, by omega, rfl, HE, HB0⟩
  case round =>
    obtain ⟨k, hk, rfl, hI, hB⟩ := hrel
    by_cases hlt : k < nl
    · have d1 : decide ((k : Int) < (nl : Int)) = true := by simp; omega
      obtain ⟨ad, rfl, c0, c1⟩ := (HL.out.below hB.out).at_ k hlt
      have k0 : (0 : Int) ≤ (k : Int) := by omega
      have k1 : (k : Int) < (nl : Int) := by omega
      have hz := hB.out.size
      obtain ⟨g0, g1⟩ := HG.out k hlt
      go_wp2_with (at_builtin; refine ap1 rfl (.tmp 20) (.tmp 27) 29 2 rfl (.int .i64 0) 1 8 w.heap.size Try.underlying29 (by kernel_rfl) rfl (by decide) u7 k (nums .i64 ((List.range k).map g)) [.int .i64 (g k)] rfl rfl (by simp) rfl rfl hI.out hz (by omega) (by omega) ?_; intro g3 d3 w5 hown hg3 hat; have hB5 := Lib.hid (below_grown hB.out hg3 hI.out (Nat.le_refl _) hz); have hO5 := Lib.hid hown; clear hown hat hg3)
      go_roundw
      case rel => exact ⟨k + 1, by omega, by go_num, by rw [Hid, nums_range]; exact hO5.out, hB5⟩
      case measure => simp [intOf]; omega
    · obtain rfl : k = nl := by omega
      have d1 : decide ((k : Int) < (k : Int)) = false := by simp
      obtain ⟨A1, c', rfl, hA'⟩ := own_form hI.out
      have HI := Lib.hid hI.out
      have hz0 := hB.out.size
      clear hI
      go_wp2
      generalize hS1 : wr.heap.size = N1 at *
      have hrow := own_lo HI.out (Nat.le_of_eq hS1)
      have HOut : Hid ((wr.alloc (.cells #[] 2 (0, 0))).ownsRow N1 2 1 (.slice (some ⟨N1, 0, none⟩) 0 0) 0 []) := by
        have := World.ownsRow_made (base := N1) (e := 2) (size := 1) wr #[] 0 (by omega) (by decide) rfl
        rw [hS1] at this
        exact this
      have HIn := Lib.hid (HI.out.alloc (.cells #[] 2 (0, 0)))
      have HBn : Hid (Below w.heap.size w (wr.alloc (.cells #[] 2 (0, 0)))) := hB.out.alloc (by omega) _
      clear HI hB
      have hN1 : N1 ≤ (wr.alloc (.cells #[] 2 (0, 0))).heap.size := by simp; omega
      generalize wr.alloc (.cells #[] 2 (0, 0)) = w1 at *
      go_loopw [10, 9] (fun i v wr => ∃ q : Nat, q ≤ no ∧ i = .int .i64 q ∧ Hid (wr.ownsRow N1 2 1 v q (nums .i64 ((List.range q).map (fitA (leastB b) k s g so go)))) ∧ Hid (wr.ownsRow w.heap.size 2 1 (.slice A1 k c') k (nums .i64 (fitL (leastB b) k s g so go q))) ∧ Hid (Below w.heap.size w wr) ∧ N1 ≤ wr.heap.size) (fun i _ _ => no - (intOf i).toNat)
      case atStart => exact ⟨0, by omega, rfl, HOut, HIn, HBn, hN1⟩
      case round =>
        obtain ⟨q, hq, rfl, hOut, hIn, hB, hzn⟩ := hrel
        by_cases hlt2 : q < no
        · have d2 : decide ((q : Int) < (no : Int)) = true := by simp; omega
          obtain ⟨ao, hao, o0, o1⟩ := (HO.out.below hB.out).at_ q hlt2
          subst hao
          obtain ⟨go0, go1⟩ := HGO.out q hlt2
          have q0 : (0 : Int) ≤ (q : Int) := by omega
          have q1 : (q : Int) < (no : Int) := by omega
          have HKq := Lib.hid (HK.out q hq)
          have HF : Hid (fitA (leastB b) k s g so go q = pickN (leastB b) s (fitL (leastB b) k s g so go q) (so q) (go q) k) := rfl
          have HFL : Hid (fitL (leastB b) k s g so go (q + 1) = if 0 ≤ fitA (leastB b) k s g so go q then (fitL (leastB b) k s g so go q).set (fitA (leastB b) k s g so go q).toNat (gi (fitL (leastB b) k s g so go q) (fitA (leastB b) k s g so go q).toNat - go q) else fitL (leastB b) k s g so go q) := rfl
          generalize hl : fitL (leastB b) k s g so go q = l at *
          have hz := hB.out.size
          go_wp2
          generalize hwz : wr = wz at *
          clear o0 o1 hwz
          go_loopw [12, 11] (fun i a wr => ∃ j : Nat, j ≤ k ∧ i = .int .i64 j ∧ (∃ x : Int, a = .int .i64 x ∧ pickN (leastB b) s l (so q) (go q) j = x) ∧ wr.heap = wz.heap ∧ Hid (Below w.heap.size w wr)) (fun i _ _ => k - (intOf i).toNat)
          case atStart => exact ⟨0, by omega, rfl, ⟨-1, rfl, rfl⟩, rfl, hB⟩
          case round =>
            obtain ⟨j, hj, rfl, ⟨a, rfl, ha⟩, hW, hB⟩ := hrel
            have HW := Lib.hid hW
            obtain ⟨a0, a1⟩ := pickN_bd (leastB b) s l (so q) (go q) j
            rw [ha] at a0 a1
            have HPa := Lib.hid ha
            clear hW ha
            by_cases hlt3 : j < k
            · have d3 : decide ((j : Int) < (k : Int)) = true := by simp; omega
              have j0 : (0 : Int) ≤ (j : Int) := by omega
              have j1 : (j : Int) < (k : Int) := by omega
              obtain ⟨al, hal, s0, s1⟩ := (HL.out.below hB.out).at_ j hlt3
              subst hal
              obtain ⟨ao', eao, o0, o1⟩ := (HO.out.below hB.out).at_ q hlt2
              obtain rfl : ao' = ao := by simpa using eao.symm
              obtain ⟨ga, rfl, hga⟩ := hA' (by omega)
              have HR := Lib.hid (own_heap hIn.out HW.out)
              have x0 := (own_get HR.out (nums_get (k := .i64) (zs := l) (j := j) (by rw [HKq.out.len]; exact hlt3))).1
              by_cases hs : s j = so q
              · rw [hs] at s0
                by_cases hge : go q ≤ gi l j
                · have dg : decide (go q ≤ gi l j) = true := by simpa using hge
                  by_cases han : a < 0
                  · obtain rfl : a = -1 := by omega
                    have HN := Lib.hid (pick_yes HPa.out hs hge (.inl (by omega)))
                    go_wp2
                    go_quiet (fail)
                    go_wp2
                    go_roundw
                    case rel => exact ⟨j + 1, by omega, by go_num, ⟨_, rfl, HN.out⟩, HW.out, below_drewN hB.out _⟩
                    case measure => simp [intOf]; omega
                  · obtain ⟨m, rfl⟩ := Int.eq_ofNat_of_zero_le (show 0 ≤ a by omega)
                    have dm : decide ((m : Int) < 0) = false := by simp
                    have m0 : (0 : Int) ≤ (m : Int) := by omega
                    have m1 : (m : Int) < (k : Int) := by omega
                    have x1 := (own_get HR.out (nums_get (k := .i64) (zs := l) (j := m) (by rw [HKq.out.len]; omega))).1
                    cases b
                    · have HN := Lib.hid (pick_no HPa.out (fun h => h.2.2.elim (fun h => by omega) (fun h => by simp [leastB] at h)))
                      go_wp2
                      go_quiet (fail)
                      go_wp2
                      go_roundw
                      case rel => exact ⟨j + 1, by omega, by go_num, ⟨_, rfl, HN.out⟩, HW.out, below_drewN hB.out _⟩
                      case measure => simp [intOf]; omega
                    · by_cases hlt4 : gi l j < gi l m
                      · have d4 : decide (gi l j < gi l m) = true := by simpa using hlt4
                        have HN := Lib.hid (pick_yes HPa.out hs hge (.inr (by simp [leastB, hlt4])))
                        go_wp2
                        go_quiet (fail)
                        go_wp2
                        go_roundw
                        case rel => exact ⟨j + 1, by omega, by go_num, ⟨_, rfl, HN.out⟩, HW.out, below_drewN hB.out _⟩
                        case measure => simp [intOf]; omega
                      · have d4 : decide (gi l j < gi l m) = false := by simpa using hlt4
                        have HN := Lib.hid (pick_no HPa.out (fun h => h.2.2.elim (fun h => by omega) (fun h => by simp [leastB, hlt4] at h)))
                        go_wp2
                        go_quiet (fail)
                        go_wp2
                        go_roundw
                        case rel => exact ⟨j + 1, by omega, by go_num, ⟨_, rfl, HN.out⟩, HW.out, below_drewN hB.out _⟩
                        case measure => simp [intOf]; omega
                · have dg : decide (go q ≤ gi l j) = false := by simpa using hge
                  have HN := Lib.hid (pick_no HPa.out (fun h => hge h.2.1))
                  go_wp2
                  go_quiet (fail)
                  go_wp2
                  go_roundw
                  case rel => exact ⟨j + 1, by omega, by go_num, ⟨_, rfl, HN.out⟩, HW.out, below_drewN hB.out _⟩
                  case measure => simp [intOf]; omega
              · have de : (s j == so q) = false := by simp [hs]
                have HN := Lib.hid (pick_no HPa.out (fun h => hs h.1))
                go_wp2
                go_quiet (fail)
                go_wp2
                go_roundw
                case rel => exact ⟨j + 1, by omega, by go_num, ⟨_, rfl, HN.out⟩, HW.out, below_drewN hB.out _⟩
                case measure => simp [intOf]; omega
            · obtain rfl : j = k := by omega
              have d3 : decide ((j : Int) < (j : Int)) = false := by simp
              have HFa := Lib.hid (HF.out.trans HPa.out)
              have HR := Lib.hid (own_heap hIn.out HW.out)
              have HQ := Lib.hid (own_heap hOut.out HW.out)
              have hz1 := hB.out.size
              have hzN : N1 ≤ wr.heap.size := by rw [HW.out]; exact hzn
              by_cases han : a < 0
              · obtain rfl : a = -1 := by omega
                have HFL1 : Hid (fitL (leastB b) j s g so go (q + 1) = l) := by rw [Hid, HFL.out, HFa.out, if_neg (by omega)]
                go_wp2_with (at_builtin; refine ap1 rfl (.tmp 99) (.tmp 101) 29 2 rfl (.int .i64 0) 1 8 N1 Try.underlying29 (by kernel_rfl) rfl (by decide) u9 q (nums .i64 ((List.range q).map (fitA (leastB b) j s g so go))) [.int .i64 (-1)] rfl rfl (by simp) rfl rfl HQ.out hzN (by omega) (by omega) ?_; intro g3 d3 w5 hown hg3 hat; have hB5 := Lib.hid (below_grown hB.out hg3 HQ.out hz0 hz1); have hO5 := Lib.hid hown; have hR5 := Lib.hid (HR.out.kept hg3 (apart_of hrow (own_up HQ.out)).ne); have hz5 : N1 ≤ w5.heap.size := Nat.le_trans hzN hg3.size; clear hown hat hg3)
                go_roundw
                case rel => exact ⟨q + 1, by omega, by go_num, by rw [Hid, nums_range, HFa.out]; exact hO5.out, by rw [HFL1.out]; exact hR5, hB5, hz5⟩
                case measure => simp [intOf]; omega
              · obtain ⟨m, rfl⟩ := Int.eq_ofNat_of_zero_le (show 0 ≤ a by omega)
                have dm : decide (0 ≤ (m : Int)) = true := by simp
                have m0 : (0 : Int) ≤ (m : Int) := by omega
                have m1 : (m : Int) < (j : Int) := by omega
                have hge := pickN_ge (leastB b) s l (so q) (go q) j (by rw [HPa.out]; omega)
                rw [HPa.out, Int.toNat_natCast] at hge
                obtain ⟨l0, l1⟩ := HKq.out.bd m
                have HFL1 : Hid (fitL (leastB b) j s g so go (q + 1) = l.set m (gi l m - go q)) := by rw [Hid, HFL.out, HFa.out, if_pos (by omega), Int.toNat_natCast]
                obtain ⟨ao', eao, o0, o1⟩ := (HO.out.below hB.out).at_ q hlt2
                obtain rfl : ao' = ao := by simpa using eao.symm
                obtain ⟨ga, rfl, hga⟩ := hA' (by omega)
                obtain ⟨x0, f0⟩ := own_get HR.out (nums_get (k := .i64) (zs := l) (j := m) (by rw [HKq.out.len]; omega))
                go_wp2
                go_still_tail 12, (by kernel_rfl)
                change wpList _ _ _ _ _ wr.drew
                have hB1 : Hid (Below w.heap.size w wr.drew) := below_drew hB.out
                have hR1 : Hid (wr.drew.ownsRow w.heap.size 2 1 (.slice (some ⟨ga, 0, none⟩) j c') j (nums .i64 l)) := own_drew HR.out
                have hQ1 : Hid (wr.drew.ownsRow N1 2 1 u9 q (nums .i64 ((List.range q).map (fitA (leastB b) j s g so go)))) := own_drew HQ.out
                have x1 : wr.drew.cell? ⟨ga, m, none⟩ = some (.int .i64 (gi l m)) := x0
                have f1 : wr.drew.frozen? ⟨ga, m, none⟩ = false := f0
                have hzd : N1 ≤ wr.drew.heap.size := hzN
                clear o0 o1 x0 f0 HR HQ hB hzN hz1
                generalize wr.drew = wd at *
                have hR2 : Hid ((wd.setCell ⟨ga, m, none⟩ (.int .i64 (gi l m - go q))).ownsRow w.heap.size 2 1 (.slice (some ⟨ga, 0, none⟩) j c') j (nums .i64 (l.set m (gi l m - go q)))) := by
                  have := own_set hR1.out m (by omega) (.int .i64 (gi l m - go q))
                  rw [numsL_set] at this
                  exact this
                have hQ2 : Hid ((wd.setCell ⟨ga, m, none⟩ (.int .i64 (gi l m - go q))).ownsRow N1 2 1 u9 q (nums .i64 ((List.range q).map (fitA (leastB b) j s g so go)))) := own_tou hQ1.out (Tou.setCell _ _ _ _) (hrow ga rfl)
                have hB2 : Hid (Below w.heap.size w (wd.setCell ⟨ga, m, none⟩ (.int .i64 (gi l m - go q)))) := hB1.out.setCell hga _
                have hz2 : N1 ≤ (wd.setCell ⟨ga, m, none⟩ (.int .i64 (gi l m - go q))).heap.size := by simpa using hzd
                have hz1 := hB2.out.size
                go_wp2_with (at_builtin; refine ap1 rfl (.tmp 99) (.tmp 101) 29 2 rfl (.int .i64 0) 1 8 N1 Try.underlying29 (by kernel_rfl) rfl (by decide) u9 q (nums .i64 ((List.range q).map (fitA (leastB b) j s g so go))) [.int .i64 (m : Int)] rfl rfl (by simp) rfl rfl hQ2.out hz2 (by omega) (by omega) ?_; intro g3 d3 w5 hown hg3 hat; have hB5 := Lib.hid (below_grown hB2.out hg3 hQ2.out hz0 hz1); have hO5 := Lib.hid hown; have hR5 := Lib.hid (hR2.out.kept hg3 (apart_of hrow (own_up hQ2.out)).ne); have hz5 : N1 ≤ w5.heap.size := Nat.le_trans hz2 hg3.size; clear hown hat hg3)
                go_roundw
                case rel => exact ⟨q + 1, by omega, by go_num, by rw [Hid, nums_range, HFa.out]; exact hO5.out, by rw [HFL1.out]; exact hR5, hB5, hz5⟩
                case measure => simp [intOf]; omega
        · obtain rfl : q = no := by omega
          have d2 : decide ((q : Int) < (q : Int)) = false := by simp
          go_wp2
          exact bodyPost_ret (v := u9) (by simp [results, Try.results33, go_sem]) rfl ⟨_, rfl, own_mono hOut.out hz0, hB.out⟩
end Go.Proofs.Ytfdljhepfoppaaa
