/- Orders served one by one: the implementation's walk. -/
import Derived.Test.YtfdljhepfoppaaaFitSpec
import Derived.Shelf.Abstract
namespace Go.Proofs.Ytfdljhepfoppaaa
open Go.RowKit
set_option linter.unusedVariables false
set_option linter.unusedSimpArgs false
set_option maxRecDepth 100000

theorem c_first1 (x y : Int) (w : World) : Calls Try.prog 30 #[.int .i64 x, .int .i64 y] w fun e w' => e = .returned (.bool (leastB false x y)) ∧ w = w' := by
  go_enter Try.func30, Try.ntmps30
  go_wp2
  go_ret
  exact ⟨rfl, rfl⟩
theorem c_best1 (x y : Int) (w : World) : Calls Try.prog 34 #[.int .i64 x, .int .i64 y] w fun e w' => e = .returned (.bool (leastB true x y)) ∧ w = w' := by
  go_enter Try.func34, Try.ntmps34
  go_wp2
  go_ret
  exact ⟨by simp [leastB], rfl⟩
/-- What FirstFit (false) and BestFit (true) hand back. -/
def fitF (b : Bool) (nl no : Nat) (s g so go : Nat → Int) : List Int × Int :=
  if (lotsOk nl s g && ordersOk no so go) = true then ((List.range no).map (fitA (leastB b) nl s g so go), 0) else ([], 1)
theorem fitF_le (b : Bool) (nl no : Nat) (s g so go : Nat → Int) : (fitF b nl no s g so go).1.length ≤ no := by
  unfold fitF
  split <;> simp

set_option maxHeartbeats 4000000 in
theorem c_fit (F : Nat) (he : ∀ args w, (callFunc F args).run Try.prog w = .ok (.enter F args) w) (b : Bool) (hF : ∀ x y w, Calls Try.prog F #[.int .i64 x, .int .i64 y] w fun e w' => e = .returned (.bool (leastB b x y)) ∧ w = w')
    (A B : Option Addr) (nl no c c1 : Nat) (s g so go : Nat → Int) (w : World) (hL : LotsAt w A nl s g) (hO : LotsAt w B no so go) (hnl : nl ≤ 1048576) (hno : no ≤ 1048576)
    (hg : ∀ j, j < nl → -32768 ≤ g j ∧ g j ≤ 32767) (hgo : ∀ j, j < no → -32768 ≤ go j ∧ go j ≤ 32767) :
    Calls Try.prog 29 #[.slice A nl c, .slice B no c1, .func (.func F) #[] #[]] w fun e w' => ∃ v, e = .returned (.tuple #[v, .int .i64 (fitF b nl no s g so go).2]) ∧ w'.ownsRow w.heap.size 2 1 v (fitF b nl no s g so go).1.length (nums .i64 (fitF b nl no s g so go).1) ∧ Below w.heap.size w w' := by
  have c0 := c_areValid A B nl no c c1 s g so go w hL hO hnl hno hg hgo
  have HF := Lib.hid hF
  have HL := Lib.hid hL
  have HO := Lib.hid hO
  cases q1 : (lotsOk nl s g && ordersOk no so go)
  · have E : Hid (fitF b nl no s g so go = ([], 1)) := by rw [Hid, fitF, q1]; rfl
    rw [q1] at c0
    have C0 := Lib.hid c0
    clear c0 hL hO hg hgo q1 hF
    go_enter Try.func29, Try.ntmps29
    go_wp2_with (go_at_call 35; ((with_reducible refine C0.out.mono ?_); rintro e w1 ⟨rfl, hb⟩))
    exact bodyPost_ret (v := .tuple #[.slice none 0 0, .int .i64 1]) (by simp [results, Try.results29, go_sem]) rfl ⟨_, by rw [E.out], by rw [E.out]; exact own_nil _ _ _ _, hb⟩
  · rw [q1] at c0
    have C0 := Lib.hid c0
    have q12 : lotsOk nl s g = true ∧ ordersOk no so go = true := by simpa only [Bool.and_eq_true] using q1
    obtain ⟨h6, hg'⟩ := lotsOk_bd q12.1
    obtain ⟨h7, hgo'⟩ := ordersOk_bd q12.2
    have E : Hid (fitF b nl no s g so go = ((List.range no).map (fitA (leastB b) nl s g so go), 0)) := by rw [Hid, fitF, q1]; rfl
    have HG := Lib.hid hg'
    have HGO := Lib.hid hgo'
    have HK := Lib.hid (fitL_ok (q := leastB b) (s := s) (so := so) hg' hgo')
    have CG := fun w h => Lib.hid (c_grams A nl c s g w h h6 hg')
    clear c0 hL hO hg hgo q1 q12 hg' hgo' hF
    go_enter Try.func29, Try.ntmps29
    go_wp2_with (first
      | (go_at_call 35; ((with_reducible refine C0.out.mono ?_); rintro e w1 ⟨rfl, hb⟩; have HBa := Lib.hid hb; clear hb))
      | (go_at_call 55; ((with_reducible refine (CG _ (HL.out.below HBa.out)).out.mono ?_); rintro e w2 ⟨v, rfl, hO, hb⟩; obtain ⟨A1, c', rfl, hA'⟩ := own_form hO; have HI := Lib.hid hO; clear hO; have HBn := Lib.hid (below_then HBa.out hb); have hw12 := HBa.out.size; clear hb)))
    generalize hS1 : w2.heap.size = N1 at *
    have hrow := own_lo HI.out (Nat.le_of_eq hS1)
    have hbase : w.heap.size ≤ w1.heap.size := hw12
    have HI := Lib.hid (own_mono HI.out hbase)
    have hz0 : w.heap.size ≤ N1 := by rw [← hS1]; exact HBn.out.size
    go_loopw [23, 9] (fun i v wr => ∃ q : Nat, q ≤ no ∧ i = .int .i64 q ∧ Hid (wr.ownsRow N1 2 1 v q (nums .i64 ((List.range q).map (fitA (leastB b) nl s g so go)))) ∧ Hid (wr.ownsRow w.heap.size 2 1 (.slice A1 nl c') nl (nums .i64 (fitL (leastB b) nl s g so go q))) ∧ Hid (Below w.heap.size w wr) ∧ N1 ≤ wr.heap.size) (fun i _ _ => no - (intOf i).toNat)
    case atStart => exact ⟨0, by omega, rfl, own_nil _ _ _ _, HI, HBn, Nat.le_of_eq hS1.symm⟩
    case round =>
      obtain ⟨q, hq, rfl, hOut, hIn, hB, hzn⟩ := hrel
      by_cases hlt2 : q < no
      · have d2 : decide ((q : Int) < (no : Int)) = true := by simp; omega
        obtain ⟨ao, hao, o0, o1⟩ := (HO.out.below hB.out).at_ q hlt2
        subst hao
        obtain ⟨go0, go1⟩ := HGO.out q hlt2
        have q0 : (0 : Int) ≤ (q : Int) := by omega
        have q1 : (q : Int) < (no : Int) := by omega
        have HKq := Lib.hid (HK.out q hq)
        have HF2 : Hid (fitA (leastB b) nl s g so go q = pickN (leastB b) s (fitL (leastB b) nl s g so go q) (so q) (go q) nl) := rfl
        have HFL : Hid (fitL (leastB b) nl s g so go (q + 1) = if 0 ≤ fitA (leastB b) nl s g so go q then (fitL (leastB b) nl s g so go q).set (fitA (leastB b) nl s g so go q).toNat (gi (fitL (leastB b) nl s g so go q) (fitA (leastB b) nl s g so go q).toNat - go q) else fitL (leastB b) nl s g so go q) := rfl
        generalize hl : fitL (leastB b) nl s g so go q = l at *
        have hz := hB.out.size
        go_wp2
        have hOb := heap_alloc_new wr (.cells #[.int .i8 (so q), .int .i16 (go q)] 45 (0, 0))
        have hIn := Lib.hid (hIn.out.alloc (.cells #[.int .i8 (so q), .int .i16 (go q)] 45 (0, 0)))
        have hOut := Lib.hid (hOut.out.alloc (.cells #[.int .i8 (so q), .int .i16 (go q)] 45 (0, 0)))
        have hB : Hid (Below w.heap.size w (wr.alloc (.cells #[.int .i8 (so q), .int .i16 (go q)] 45 (0, 0)))) := hB.out.alloc hz _
        have hzn : N1 ≤ (wr.alloc (.cells #[.int .i8 (so q), .int .i16 (go q)] 45 (0, 0))).heap.size := by simp; omega
        generalize hT : wr.heap.size = bo at *
        have hbo : N1 ≤ bo := by omega
        generalize wr.alloc (.cells #[.int .i8 (so q), .int .i16 (go q)] 45 (0, 0)) = wz at *
        have HOb := Lib.hid hOb
        clear o0 o1 hOb hT hz
        go_loopw [29, 12] (fun i a wr => ∃ j : Nat, j ≤ nl ∧ i = .int .i64 j ∧ (∃ x : Int, a = .int .i64 x ∧ pickN (leastB b) s l (so q) (go q) j = x) ∧ Hid (wr.ownsRow N1 2 1 u9 q (nums .i64 ((List.range q).map (fitA (leastB b) nl s g so go)))) ∧ Hid (wr.ownsRow w.heap.size 2 1 (.slice A1 nl c') nl (nums .i64 l)) ∧ Hid (Below w.heap.size w wr) ∧ N1 ≤ wr.heap.size ∧ Hid (wr.heap[bo]? = some (.cells #[.int .i8 (so q), .int .i16 (go q)] 45 (0, 0)))) (fun i _ _ => nl - (intOf i).toNat)
        case atStart => exact ⟨0, by omega, rfl, ⟨-1, rfl, rfl⟩, hOut, hIn, hB, hzn, HOb⟩
        case round =>
          obtain ⟨j, hj, rfl, ⟨a, rfl, ha⟩, hQ, hR, hB, hzN, hOb⟩ := hrel
          obtain ⟨a0, a1⟩ := pickN_bd (leastB b) s l (so q) (go q) j
          rw [ha] at a0 a1
          have HPa := Lib.hid ha
          clear ha
          have hz := hB.out.size
          by_cases hlt3 : j < nl
          · have d3 : decide ((j : Int) < (nl : Int)) = true := by simp; omega
            have j0 : (0 : Int) ≤ (j : Int) := by omega
            have j1 : (j : Int) < (nl : Int) := by omega
            obtain ⟨al, hal, s0, s1⟩ := (HL.out.below hB.out).at_ j hlt3
            subst hal
            obtain ⟨ga, rfl, hga⟩ := hA' (by omega)
            go_wp2
            have hLb := heap_alloc_new wr (.cells #[.int .i8 (s j), .int .i16 (g j)] 46 (0, 0))
            have hQ := Lib.hid (hQ.out.alloc (.cells #[.int .i8 (s j), .int .i16 (g j)] 46 (0, 0)))
            have hR := Lib.hid (hR.out.alloc (.cells #[.int .i8 (s j), .int .i16 (g j)] 46 (0, 0)))
            have hOb := Lib.hid (blk_alloc hOb.out (.cells #[.int .i8 (s j), .int .i16 (g j)] 46 (0, 0)))
            have hB : Hid (Below w.heap.size w (wr.alloc (.cells #[.int .i8 (s j), .int .i16 (g j)] 46 (0, 0)))) := hB.out.alloc hz _
            have hzN : N1 ≤ (wr.alloc (.cells #[.int .i8 (s j), .int .i16 (g j)] 46 (0, 0))).heap.size := by simp; omega
            generalize wr.heap.size = bl at *
            generalize wr.alloc (.cells #[.int .i8 (s j), .int .i16 (g j)] 46 (0, 0)) = wl at *
            clear s0 s1
            have s0 : wl.cell? ⟨bl, 0, none⟩ = some (.int .i8 (s j)) := cell_of_row wl bl 0 _ _ _ hLb
            have o0 : wl.cell? ⟨bo, 0, none⟩ = some (.int .i8 (so q)) := cell_of_row wl bo 0 _ _ _ hOb.out
            have o1 : wl.cell? ⟨bo, 1, none⟩ = some (.int .i16 (go q)) := cell_of_row wl bo 1 _ _ _ hOb.out
            have x0 := (own_get hR.out (nums_get (k := .i64) (zs := l) (j := j) (by rw [HKq.out.len]; exact hlt3))).1
            clear hLb
            by_cases hs : s j = so q
            · rw [hs] at s0
              by_cases hge : go q ≤ gi l j
              · have dg : decide (go q ≤ gi l j) = true := by simpa using hge
                by_cases han : a < 0
                · obtain rfl : a = -1 := by omega
                  have HN := Lib.hid (pick_yes HPa.out hs hge (.inl (by omega)))
                  go_quiet (refine Calls.quiet_of_same (flipw (HF.out _ _ _)))
                  go_wp2
                  go_roundw
                  case rel => exact ⟨j + 1, by omega, by go_num, ⟨_, rfl, HN.out⟩, hQ, hR, below_drewN hB.out _, hzN, hOb⟩
                  case measure => simp [intOf]; omega
                · obtain ⟨m, rfl⟩ := Int.eq_ofNat_of_zero_le (show 0 ≤ a by omega)
                  have dm : decide ((m : Int) < 0) = false := by simp
                  have m0 : (0 : Int) ≤ (m : Int) := by omega
                  have m1 : (m : Int) < (nl : Int) := by omega
                  have x1 := (own_get hR.out (nums_get (k := .i64) (zs := l) (j := m) (by rw [HKq.out.len]; omega))).1
                  cases hqb : leastB b (gi l j) (gi l m)
                  · have HN := Lib.hid (pick_no HPa.out (fun h => h.2.2.elim (fun h => by omega) (fun h => by rw [Int.toNat_natCast, hqb] at h; cases h)))
                    have HF3 := fun w => Lib.hid (hqb ▸ HF.out (gi l j) (gi l m) w)
                    go_quiet (refine Calls.quiet_of_same (flipw ((HF3 _).out)))
                    go_wp2
                    go_roundw
                    case rel => exact ⟨j + 1, by omega, by go_num, ⟨_, rfl, HN.out⟩, hQ, hR, below_drewN hB.out _, hzN, hOb⟩
                    case measure => simp [intOf]; omega
                  · have HN := Lib.hid (pick_yes HPa.out hs hge (.inr (by rw [Int.toNat_natCast, hqb])))
                    have HF3 := fun w => Lib.hid (hqb ▸ HF.out (gi l j) (gi l m) w)
                    go_quiet (refine Calls.quiet_of_same (flipw ((HF3 _).out)))
                    go_wp2
                    go_roundw
                    case rel => exact ⟨j + 1, by omega, by go_num, ⟨_, rfl, HN.out⟩, hQ, hR, below_drewN hB.out _, hzN, hOb⟩
                    case measure => simp [intOf]; omega
              · have dg : decide (go q ≤ gi l j) = false := by simpa using hge
                have HN := Lib.hid (pick_no HPa.out (fun h => hge h.2.1))
                go_quiet (refine Calls.quiet_of_same (flipw (HF.out _ _ _)))
                go_wp2
                go_roundw
                case rel => exact ⟨j + 1, by omega, by go_num, ⟨_, rfl, HN.out⟩, hQ, hR, below_drewN hB.out _, hzN, hOb⟩
                case measure => simp [intOf]; omega
            · have de : (s j == so q) = false := by simp [hs]
              have HN := Lib.hid (pick_no HPa.out (fun h => hs h.1))
              go_quiet (refine Calls.quiet_of_same (flipw (HF.out _ _ _)))
              go_wp2
              go_roundw
              case rel => exact ⟨j + 1, by omega, by go_num, ⟨_, rfl, HN.out⟩, hQ, hR, below_drewN hB.out _, hzN, hOb⟩
              case measure => simp [intOf]; omega
          · obtain rfl : j = nl := by omega
            have d3 : decide ((j : Int) < (j : Int)) = false := by simp
            have HFa := Lib.hid (HF2.out.trans HPa.out)
            by_cases han : a < 0
            · obtain rfl : a = -1 := by omega
              have HFL1 : Hid (fitL (leastB b) j s g so go (q + 1) = l) := by rw [Hid, HFL.out, HFa.out, if_neg (by omega)]
              go_wp2_with (at_builtin; refine ap1 rfl (.tmp 78) (.tmp 80) 29 2 rfl (.int .i64 0) 1 8 N1 Try.underlying29 (by kernel_rfl) rfl (by decide) u9 q (nums .i64 ((List.range q).map (fitA (leastB b) j s g so go))) [.int .i64 (-1)] rfl rfl (by simp) rfl rfl hQ.out hzN (by omega) (by omega) ?_; intro g3 d3 w5 hown hg3 hat; have hB5 := Lib.hid (below_grown hB.out hg3 hQ.out hz0 hz); have hO5 := Lib.hid hown; have hR5 := Lib.hid (hR.out.kept hg3 (apart_of hrow (own_up hQ.out)).ne); have hz5 : N1 ≤ w5.heap.size := Nat.le_trans hzN hg3.size; clear hown hat hg3)
              go_roundw
              case rel => exact ⟨q + 1, by omega, by go_num, by rw [Hid, nums_range, HFa.out]; exact hO5.out, by rw [HFL1.out]; exact hR5, hB5, hz5⟩
              case measure => simp [intOf]; omega
            · obtain ⟨m, rfl⟩ := Int.eq_ofNat_of_zero_le (show 0 ≤ a by omega)
              have dm : decide (0 ≤ (m : Int)) = true := by simp
              have m0 : (0 : Int) ≤ (m : Int) := by omega
              have m1 : (m : Int) < (j : Int) := by omega
              have hge := pickN_ge (leastB b) s l (so q) (go q) j (by rw [HPa.out]; omega)
              rw [HPa.out, Int.toNat_natCast] at hge
              obtain ⟨l0, l1⟩ := HKq.out.bd m
              have HFL1 : Hid (fitL (leastB b) j s g so go (q + 1) = l.set m (gi l m - go q)) := by rw [Hid, HFL.out, HFa.out, if_pos (by omega), Int.toNat_natCast]
              have o1 : wr.cell? ⟨bo, 1, none⟩ = some (.int .i16 (go q)) := cell_of_row wr bo 1 _ _ _ hOb.out
              obtain ⟨ga, rfl, hga⟩ := hA' (by omega)
              obtain ⟨x0, f0⟩ := own_get hR.out (nums_get (k := .i64) (zs := l) (j := m) (by rw [HKq.out.len]; omega))
              go_wp2
              go_still_tail 9, (by kernel_rfl)
              change wpList _ _ _ _ _ wr.drew
              have hB1 : Hid (Below w.heap.size w wr.drew) := below_drew hB.out
              have hR1 : Hid (wr.drew.ownsRow w.heap.size 2 1 (.slice (some ⟨ga, 0, none⟩) j c') j (nums .i64 l)) := own_drew hR.out
              have hQ1 : Hid (wr.drew.ownsRow N1 2 1 u9 q (nums .i64 ((List.range q).map (fitA (leastB b) j s g so go)))) := own_drew hQ.out
              have x1 : wr.drew.cell? ⟨ga, m, none⟩ = some (.int .i64 (gi l m)) := x0
              have f1 : wr.drew.frozen? ⟨ga, m, none⟩ = false := f0
              have hzd : N1 ≤ wr.drew.heap.size := hzN
              clear o1 x0 f0 hR hQ hB hzN hz hOb
              generalize wr.drew = wd at *
              have hR2 : Hid ((wd.setCell ⟨ga, m, none⟩ (.int .i64 (gi l m - go q))).ownsRow w.heap.size 2 1 (.slice (some ⟨ga, 0, none⟩) j c') j (nums .i64 (l.set m (gi l m - go q)))) := by
                have := own_set hR1.out m (by omega) (.int .i64 (gi l m - go q))
                rw [numsL_set] at this
                exact this
              have hQ2 : Hid ((wd.setCell ⟨ga, m, none⟩ (.int .i64 (gi l m - go q))).ownsRow N1 2 1 u9 q (nums .i64 ((List.range q).map (fitA (leastB b) j s g so go)))) := own_tou hQ1.out (Tou.setCell _ _ _ _) (hrow ga rfl)
              have hB2 : Hid (Below w.heap.size w (wd.setCell ⟨ga, m, none⟩ (.int .i64 (gi l m - go q)))) := hB1.out.setCell (Nat.le_trans hbase hga) _
              have hz2 : N1 ≤ (wd.setCell ⟨ga, m, none⟩ (.int .i64 (gi l m - go q))).heap.size := by simpa using hzd
              have hz1 := hB2.out.size
              go_wp2_with (at_builtin; refine ap1 rfl (.tmp 78) (.tmp 80) 29 2 rfl (.int .i64 0) 1 8 N1 Try.underlying29 (by kernel_rfl) rfl (by decide) u9 q (nums .i64 ((List.range q).map (fitA (leastB b) j s g so go))) [.int .i64 (m : Int)] rfl rfl (by simp) rfl rfl hQ2.out hz2 (by omega) (by omega) ?_; intro g3 d3 w5 hown hg3 hat; have hB5 := Lib.hid (below_grown hB2.out hg3 hQ2.out hz0 hz1); have hO5 := Lib.hid hown; have hR5 := Lib.hid (hR2.out.kept hg3 (apart_of hrow (own_up hQ2.out)).ne); have hz5 : N1 ≤ w5.heap.size := Nat.le_trans hz2 hg3.size; clear hown hat hg3)
              go_roundw
              case rel => exact ⟨q + 1, by omega, by go_num, by rw [Hid, nums_range, HFa.out]; exact hO5.out, by rw [HFL1.out]; exact hR5, hB5, hz5⟩
              case measure => simp [intOf]; omega
      · obtain rfl : q = no := by omega
        have d2 : decide ((q : Int) < (q : Int)) = false := by simp
        go_wp2
        exact bodyPost_ret (v := .tuple #[u9, .int .i64 0]) (by simp [results, Try.results29, go_sem]) rfl ⟨_, by rw [E.out], by rw [E.out]; simpa using own_mono hOut.out hz0, hB.out⟩
end Go.Proofs.Ytfdljhepfoppaaa
