/- A fabric read from its text: the reference's function. -/
import Derived.Test.YtdcemmhfbfogdaaDoorRdPure
import Derived.Test.YtdcemmhfbfogdaaDoorNumWalk
import Derived.Test.YtdcemmhfbfogdaaDoorAppOwn
namespace Go.Proofs.YtdcemmhfbfogdaaDoor
open Go.RowKit
set_option linter.unusedVariables false
set_option linter.unusedSimpArgs false
set_option maxRecDepth 100000

theorem rd_r {t : List UInt8} {d : List (List UInt8)} {r : List UInt8} (h : splitS 10 t = (d, r)) (hr : r ≠ []) : rdFab t = none := by
  unfold rdFab
  rw [h]
  cases d with
  | nil => rfl
  | cons p d =>
    cases r with
    | nil => exact (hr rfl).elim
    | cons _ _ => rfl
theorem rd_d {t : List UInt8} {r : List UInt8} (h : splitS 10 t = ([], r)) : rdFab t = none := by
  unfold rdFab
  rw [h]
theorem rd_long {t : List UInt8} {p : List UInt8} {d : List (List UInt8)} {r : List UInt8} (h : splitS 10 t = (p :: d, r)) (hl : 30 < d.length) : rdFab t = none := by
  unfold rdFab
  rw [h]
  cases r with
  | nil => simp only; rw [if_neg (by omega)]
  | cons _ _ => rfl
theorem rd_no {t : List UInt8} {p : List UInt8} {d : List (List UInt8)} (h : splitS 10 t = (p :: d, [])) (hl : ¬ (okNum p = true ∧ d.length ≤ 30 ∧ fabOk (valD p : Int) d = true)) : rdFab t = none := by
  unfold rdFab
  rw [h]
  simp only
  rw [if_neg hl]
theorem rd_yes {t : List UInt8} {p : List UInt8} {d : List (List UInt8)} (h : splitS 10 t = (p :: d, [])) (hl : okNum p = true ∧ d.length ≤ 30 ∧ fabOk (valD p : Int) d = true) : rdFab t = some ((valD p : Int), d) := by
  unfold rdFab
  rw [h]
  simp only
  rw [if_pos hl]
theorem fabOk_cast' {c : Int} {L : List (List UInt8)} (h : inB c 1 60 = false) : fabOk c L = false := by rw [fabOk, h]; rfl
/-- What a call ends with where there is no fabric. -/
abbrev RdEnd (t : List UInt8) (w : World) (e : Ending) (w' : World) : Prop := ∃ v, e = .returned (.tuple #[.agg #[.int .i16 (rdC t), v], .int .i64 (rdE t)]) ∧ w'.ownsRow w.heap.size 9 1 v (rdL t).length (strs (rdL t)) ∧ Below w.heap.size w w'
theorem rdEnd_none {t : List UInt8} {w w' : World} (h : rdFab t = none) (hb : Below w.heap.size w w') : RdEnd t w (.returned (.tuple #[.agg #[.int .i16 0, .slice none 0 0], .int .i64 5])) w' := by
  obtain ⟨h1, h2, h3⟩ := rd_none h
  unfold RdEnd
  rw [h1, h2, h3]
  exact ⟨_, rfl, own_nil _ _ _ _, hb⟩
theorem own_some {w : World} {base : Nat} {e : TypeId} {size n : Nat} {v : Value} {xs : List Value} (h : w.ownsRow base e size v (n + 1) xs) : ∃ g c, v = .slice (some ⟨g, 0, none⟩) (n + 1) c ∧ n + 1 ≤ c := by
  rcases h.2 with ⟨_, h0⟩ | ⟨g, c, cur, h1, _, _, h2, _⟩
  · omega
  · exact ⟨g, c, h1, h2⟩
theorem own_last {w : World} {base g c : Nat} {e : TypeId} {size : Nat} {d : List (List UInt8)} {r : List UInt8} (h : w.ownsRow base e size (.slice (some ⟨g, 0, none⟩) (d.length + 1) c) (d.length + 1) (strs (d ++ [r]))) : w.cell? ⟨g, d.length, none⟩ = some (.string (str r)) :=
  (own_get h (j := d.length) (by simp [strs])).1
theorem own_head {w : World} {base g c : Nat} {e : TypeId} {size n : Nat} {d : List (List UInt8)} {p : List UInt8} {r : List UInt8} (h : w.ownsRow base e size (.slice (some ⟨g, 0, none⟩) n c) n (strs (d ++ [r]))) (hd : d.head? = some p) : w.cell? ⟨g, 0, none⟩ = some (.string (str p)) := by
  refine (own_get h (j := 0) ?_).1
  cases d with
  | nil => cases hd
  | cons x d => cases hd; rfl
theorem own_tail {w : World} {base g c : Nat} {e : TypeId} {size n : Nat} {d : List (List UInt8)} {p r : List UInt8} (h : w.ownsRow base e size (.slice (some ⟨g, 0, none⟩) n c) n (strs (p :: d ++ [r]))) : ∀ j u, (strs d)[j]? = some u → w.cell? ((⟨g, 1, none⟩ : Addr).add j) = some u := fun j u hj => by
  rw [show (⟨g, 1, none⟩ : Addr).add j = ⟨g, 1 + j, none⟩ by unfold Addr.add; split <;> simp_all]
  refine (own_get h (j := 1 + j) ?_).1
  simp only [strs, List.getElem?_map, Option.map_eq_some_iff] at hj ⊢
  obtain ⟨l, hl, rfl⟩ := hj
  refine ⟨l, ?_, rfl⟩
  rw [Nat.add_comm, List.cons_append, List.getElem?_cons_succ, List.getElem?_append_left (List.getElem?_eq_some_iff.1 hl).1]
  exact hl
theorem strs_oneC (L : List (List UInt8)) : ∀ u ∈ strs L, u.oneCell' = true := fun u hu => by
  obtain ⟨l, _, rfl⟩ := List.mem_map.1 hu
  rfl
theorem fabAt_rd {t : List UInt8} {p : List UInt8} {d : List (List UInt8)} {r : List UInt8} (h : splitS 10 t = (p :: d, r)) (ht : t.length ≤ 1048576) {w : World} {A : Option Addr} {c : Nat} {x : Int} (hx : 1 ≤ x ∧ x ≤ 60) (hR : RdRow w A (strs d)) : FabAt w x A c d :=
  ⟨by have := splitS_num 10 t; rw [h] at this; simp at this; omega, fun l hl => Nat.le_trans ((splitS_lens h).1 l (by simp [hl])) ht, hR, by omega⟩
set_option maxHeartbeats 4000000 in
theorem c_sReadFabric (t : List UInt8) (ht : t.length ≤ 1048576) (w : World) : Calls Tryd.prog 12 #[.string (str t)] w (RdEnd t w) := by
  have CS := Lib.hid (c_l01Split t 10 (w.alloc (.cells #[.int .i16 0, .slice none 0 0] 28 (0, 0))) ht)
  rw [show ((10 : UInt8).toNat : Int) = 10 from rfl] at CS
  have hB0 : Below w.heap.size w (w.alloc (.cells #[.int .i16 0, .slice none 0 0] 28 (0, 0))) := below_alloc (Below.refl _ _) _
  have HB0 := Lib.hid hB0
  have HA0 : Hid ((w.alloc (.cells #[.int .i16 0, .slice none 0 0] 28 (0, 0))).heap[w.heap.size]? = some (.cells (fabCells 0 none 0 0) 28 (0, 0))) := (heap_alloc_new w (.cells #[.int .i16 0, .slice none 0 0] 28 (0, 0)))
  have HI : Hid ((Tryd.prog.info? 28).map (·.size) = some (fabCells 0 none 0 0).size) := (show (Tryd.prog.info? 28).map (·.size) = some (fabCells 0 none 0 0).size from by kernel_rfl)
  clear hB0
  obtain ⟨d, r, hs⟩ : ∃ d r, splitS 10 t = (d, r) := ⟨_, _, rfl⟩
  have hP : splitL 10 t = d ++ [r] := by rw [splitL, hs]
  rw [hP] at CS
  have hdl : (d ++ [r]).length = d.length + 1 := by simp
  rw [hdl] at CS
  have HN := Lib.hid (splitS_num 10 t)
  rw [hs] at HN
  have hdn : d.length ≤ 1048576 := Nat.le_trans HN.out ht
  have HS := Lib.hid hs
  clear hs hP hdl
  have ei : IntKind.i64.wrap ((d.length : Int) + 1 - 1) = (d.length : Int) := by rw [Int.add_sub_cancel]; exact IntWalk.i64_in _ (by omega)
  have n0 : (0 : Int) ≤ (d.length : Int) := by omega
  have n1 : (d.length : Int) < (d.length : Int) + 1 := by omega
  by_cases hr : r = []
  · have er : (str r).toList.isEmpty = true := by rw [str_toList, hr]; rfl
    have HR0 := Lib.hid hr
    clear hr
    cases hdc : d.head? with
    | none =>
      have HD : Hid (d = []) := List.head?_eq_none_iff.1 hdc
      clear hdc
      have EN : Hid (rdFab t = none) := rd_d (by rw [HS.out, HD.out])
      have dl : decide ((d.length : Int) < 1) = true := by rw [HD.out]; rfl
      go_enter Tryd.func12, Tryd.ntmps12
      go_wp2_with (first
        | (go_at_call 32; ((with_reducible refine CS.out.mono ?_); rintro e w1 ⟨v, rfl, hO, hb⟩; rw [World.size_alloc] at hO; have HO := Lib.hid hO; obtain ⟨g, c, rfl, hgc⟩ := own_some hO; have zc : (d.length : Int) ≤ (c : Int) := (by omega); have HRR := Lib.hid (own_rd HO.out); have hxl := own_last HO.out; have HA := Lib.hid (blk_below HA0.out hb); have HB := Lib.hid (below_then HB0.out hb); clear hb hO))
        | (refine ev_store_row rfl 28 (.tmp 2) (.tmp 27) rfl w.heap.size (fabCells 0 none 0 0) rfl rfl 28 (fabCells 0 none 0 0) ?_ HI.out rfl (fab_one _ _ _ _) ?_; (exact HA.out); intro w6 hblk ht; have HR := Lib.hid hblk; clear hblk))
      exact bodyPost_ret (v := .tuple #[.agg #[.int .i16 0, .slice none 0 0], .int .i64 5]) (results_ct rfl _ _ w.heap.size 28 (fabCells 0 none 0 0) (0, 0) _ rfl HR.out Tryd.underlying28 rfl HI.out rfl) rfl (rdEnd_none EN.out (HB.out.trans (ht.below (Nat.le_refl _))))
    | some p =>
      have HD := Lib.hid hdc
      obtain ⟨rows, hrows⟩ : ∃ rows, d = p :: rows := by
        cases d with
        | nil => cases hdc
        | cons x d => cases hdc; exact ⟨d, rfl⟩
      have HROW := Lib.hid hrows
      have hdr : d.length = rows.length + 1 := by rw [hrows]; rfl
      have dl : decide ((d.length : Int) < 1) = false := by simp; omega
      have HDR := Lib.hid hdr
      clear hdr
      have HSR : Hid (splitS 10 t = (p :: rows, [])) := by rw [Hid, HS.out, hrows, HR0.out]
      clear hdc hrows
      by_cases hl : 31 < d.length
      · have dl2 : decide ((31 : Int) < (d.length : Int)) = true := by simp; omega
        have EN := Lib.hid (rd_long HSR.out (by have := HDR.out; omega))
        go_enter Tryd.func12, Tryd.ntmps12
        go_wp2_with (first
          | (go_at_call 32; ((with_reducible refine CS.out.mono ?_); rintro e w1 ⟨v, rfl, hO, hb⟩; rw [World.size_alloc] at hO; have HO := Lib.hid hO; obtain ⟨g, c, rfl, hgc⟩ := own_some hO; have zc : (d.length : Int) ≤ (c : Int) := (by omega); have HRR := Lib.hid (own_rd HO.out); have hxl := own_last HO.out; have HA := Lib.hid (blk_below HA0.out hb); have HB := Lib.hid (below_then HB0.out hb); clear hb hO))
          | (refine ev_store_row rfl 28 (.tmp 2) (.tmp 27) rfl w.heap.size (fabCells 0 none 0 0) rfl rfl 28 (fabCells 0 none 0 0) ?_ HI.out rfl (fab_one _ _ _ _) ?_; (exact HA.out); intro w6 hblk ht; have HR := Lib.hid hblk; clear hblk))
        exact bodyPost_ret (v := .tuple #[.agg #[.int .i16 0, .slice none 0 0], .int .i64 5]) (results_ct rfl _ _ w.heap.size 28 (fabCells 0 none 0 0) (0, 0) _ rfl HR.out Tryd.underlying28 rfl HI.out rfl) rfl (rdEnd_none EN.out (HB.out.trans (ht.below (Nat.le_refl _))))
      · have dl2 : decide ((31 : Int) < (d.length : Int)) = false := by simp; omega
        have hpl : p.length ≤ 1048576 := Nat.le_trans ((splitS_lens HSR.out).1 p (by simp)) ht
        have CN := fun w => Lib.hid (c_l01Number p hpl w)
        cases qn : okNum p
        · have EN := Lib.hid (rd_no HSR.out (by rw [qn]; simp))
          rw [qn] at CN
          clear qn
          go_enter Tryd.func12, Tryd.ntmps12
          go_wp2_with (first
            | (go_at_call 32; ((with_reducible refine CS.out.mono ?_); rintro e w1 ⟨v, rfl, hO, hb⟩; rw [World.size_alloc] at hO; have HO := Lib.hid hO; obtain ⟨g, c, rfl, hgc⟩ := own_some hO; have zc : (d.length : Int) ≤ (c : Int) := (by omega); have HRR := Lib.hid (own_rd HO.out); have hxl := own_last HO.out; have x0 := own_head HO.out HD.out; have HA := Lib.hid (blk_below HA0.out hb); have HB := Lib.hid (below_then HB0.out hb); clear hb hO))
            | (go_at_call 33; ((with_reducible refine (CN _).out.mono ?_); rintro e w2 ⟨rfl, rfl⟩))
            | (refine ev_store_row rfl 28 (.tmp 2) (.tmp 42) rfl w.heap.size (fabCells 0 none 0 0) rfl rfl 28 (fabCells 0 none 0 0) ?_ HI.out rfl (fab_one _ _ _ _) ?_; (exact HA.out); intro w6 hblk ht; have HR := Lib.hid hblk; clear hblk))
          exact bodyPost_ret (v := .tuple #[.agg #[.int .i16 0, .slice none 0 0], .int .i64 5]) (results_ct rfl _ _ w.heap.size 28 (fabCells 0 none 0 0) (0, 0) _ rfl HR.out Tryd.underlying28 rfl HI.out rfl) rfl (rdEnd_none EN.out (HB.out.trans (ht.below (Nat.le_refl _))))
        · have hv := numV_yes qn
          have hvb := (okNum_dec qn).2
          rw [qn, hv] at CN
          have CC := fun w => Lib.hid (c_l05Cast (valD p : Int) w)
          cases qc : inB (valD p : Int) 1 60
          · have EN := Lib.hid (rd_no HSR.out (by rw [fabOk_cast' qc]; simp))
            rw [qc] at CC
            clear qc qn hv
            go_enter Tryd.func12, Tryd.ntmps12
            go_wp2_with (first
              | (go_at_call 32; ((with_reducible refine CS.out.mono ?_); rintro e w1 ⟨v, rfl, hO, hb⟩; rw [World.size_alloc] at hO; have HO := Lib.hid hO; obtain ⟨g, c, rfl, hgc⟩ := own_some hO; have zc : (d.length : Int) ≤ (c : Int) := (by omega); have HRR := Lib.hid (own_rd HO.out); have hxl := own_last HO.out; have x0 := own_head HO.out HD.out; have HA := Lib.hid (blk_below HA0.out hb); have HB := Lib.hid (below_then HB0.out hb); clear hb hO))
              | (go_at_call 33; ((with_reducible refine (CN _).out.mono ?_); rintro e w2 ⟨rfl, rfl⟩))
              | (go_at_call 34; ((with_reducible refine (CC _).out.mono ?_); rintro e w2 ⟨rfl, rfl⟩))
              | (refine ev_store_row rfl 28 (.tmp 2) (.tmp 42) rfl w.heap.size (fabCells 0 none 0 0) rfl rfl 28 (fabCells 0 none 0 0) ?_ HI.out rfl (fab_one _ _ _ _) ?_; (exact HA.out); intro w6 hblk ht; have HR := Lib.hid hblk; clear hblk))
            exact bodyPost_ret (v := .tuple #[.agg #[.int .i16 0, .slice none 0 0], .int .i64 5]) (results_ct rfl _ _ w.heap.size 28 (fabCells 0 none 0 0) (0, 0) _ rfl HR.out Tryd.underlying28 rfl HI.out rfl) rfl (rdEnd_none EN.out (HB.out.trans (ht.below (Nat.le_refl _))))
          · rw [qc] at CC
            have hc1 : 1 ≤ (valD p : Int) ∧ (valD p : Int) ≤ 60 := by simpa [inB] using qc
            have HC1 := Lib.hid hc1
            have QN := Lib.hid qn
            have w16 : IntKind.i16.wrap (valD p : Int) = (valD p : Int) := IntWalk.i16_in _ (by omega)
            clear qc qn hv
            generalize hvx : (valD p : Int) = x at *
            have HVX := Lib.hid hvx
            clear hvx
            have hdr := HDR.out
            have m1 : Hid (0 + rows.length ≤ maxLen) := by rw [Hid]; simp only [maxLen]; omega
            have m2 : Hid ((0 + rows.length) * 16 ≤ 140737488355328) := by rw [Hid]; omega
            have hrl : d.length - 1 = rows.length := by omega
            have z1 : (1 : Int) ≤ (d.length : Int) := by omega
            clear hdr
            have HTL : Hid (∀ (w : World) g c base n, w.ownsRow base 9 1 (.slice (some ⟨g, 0, none⟩) n c) n (strs (d ++ [r])) → ∀ j u, (strs rows)[j]? = some u → w.cell? ((⟨g, 1, none⟩ : Addr).add j) = some u) := fun w g c base n h => by
              rw [HROW.out] at h
              exact own_tail h
            have HSL : Hid ((strs rows).length = rows.length * 1) := (show (strs rows).length = rows.length * 1 from by simp [strs])
            cases qf : fabOk x rows
            · have EN := Lib.hid (rd_no HSR.out (by rw [HVX.out, qf]; simp))
              have COK : Hid (∀ (gg : Nat) (A : Option Addr) (cap : Nat) (w : World), FabAt w x A cap rows → w.heap[gg]? = some (.cells #[.int .i16 x, .slice A rows.length cap] 28 (0, 0)) → Calls Tryd.prog 26 #[.pointer (some ⟨gg, 0, none⟩)] w fun e w' => e = .returned (.bool false) ∧ Below w.heap.size w w') := fun gg A cap w hF hg => by
                have := c_l05Ok gg x A cap rows w hF hg
                rw [qf] at this
                exact this
              clear qf
              go_enter Tryd.func12, Tryd.ntmps12
              go_wp2_with (first
              | (go_at_call 32; ((with_reducible refine CS.out.mono ?_); rintro e w1 ⟨v, rfl, hO, hb⟩; rw [World.size_alloc] at hO; have HO := Lib.hid hO; obtain ⟨g, c, rfl, hgc⟩ := own_some hO; have zc : (d.length : Int) ≤ (c : Int) := (by omega); have HRR := Lib.hid (own_rd HO.out); have hxl := own_last HO.out; have x0 := own_head HO.out HD.out; have HA := Lib.hid (blk_below HA0.out hb); have HB := Lib.hid (below_then HB0.out hb); clear hb hO))
              | (go_at_call 33; ((with_reducible refine (CN _).out.mono ?_); rintro e w2 ⟨rfl, rfl⟩))
              | (go_at_call 34; ((with_reducible refine (CC _).out.mono ?_); rintro e w2 ⟨rfl, rfl⟩))
              | (at_builtin; go_loud (refine ev_append_row rfl (.tmp 45) (.tmp 48) 23 rfl 9 (.string (str [])) 1 16 Tryd.underlying23 (by kernel_rfl) rfl (by decide) w1.heap.size (.slice (some ⟨w1.heap.size, 0, none⟩) 0 0) 0 [] rfl (own_empty (heap_alloc_new w1 _) (Nat.le_refl _)) ⟨g, 1, none⟩ rows.length (c - 1) (strs rows) rfl HSL.out (HTL.out _ _ _ _ _ (HO.out.alloc _)) (strs_oneC rows) m1.out m2.out (below_alloc (Below.refl _ _) _).size ?_; intro v2 w2 hO2 hG2; have hbg := below_grown (below_alloc (Below.refl w1.heap.size w1) (.cells #[] 9 (0, 0))) hG2 (own_empty (e := 9) (size := 1) (heap_alloc_new w1 _) (Nat.le_refl _)) (Nat.le_refl _) (below_alloc (Below.refl _ _) _).size; rw [List.nil_append, Nat.zero_add] at hO2; have hOm := own_mono (base' := w.heap.size + 1) hO2 (blk_lt HA.out); have HA2 := Lib.hid (blk_below HA.out hbg); have HB2 := Lib.hid (below_then HB.out hbg); obtain ⟨A2, c2, rfl, _⟩ := own_form hO2; have HO2 := Lib.hid hOm; clear hO2 hG2 hbg hOm))
              | (go_at_call 26; refine (COK.out w2.heap.size A2 c2 _ (fabAt_rd HSR.out ht HC1.out (own_rd (HO2.out.alloc _))) (heap_alloc_new w2 _)).mono ?_; rintro e w3 ⟨rfl, hb⟩; have HA3 := Lib.hid (blk_below (blk_alloc HA2.out _) hb); have HF3 := Lib.hid (blk_below (heap_alloc_new w2 _) hb); have HO3 := Lib.hid (own_below (HO2.out.alloc _) hb); have HB3 := Lib.hid ((below_alloc HB2.out _).trans (hb.mono (below_alloc HB2.out _).size)); clear hb)
              | (refine ev_store_row rfl 28 (.tmp 2) (.tmp 53) rfl w.heap.size (fabCells 0 none 0 0) rfl rfl 28 (fabCells 0 none 0 0) ?_ HI.out rfl (fab_one _ _ _ _) ?_; (exact HA3.out); intro w6 hblk ht; have HR := Lib.hid hblk; clear hblk))
              exact bodyPost_ret (v := .tuple #[.agg #[.int .i16 0, .slice none 0 0], .int .i64 5]) (results_ct rfl _ _ w.heap.size 28 (fabCells 0 none 0 0) (0, 0) _ rfl HR.out Tryd.underlying28 rfl HI.out rfl) rfl (rdEnd_none EN.out (HB3.out.trans (ht.below (Nat.le_refl _))))
            · obtain ⟨e1, e2, e3⟩ := rd_some (rd_yes HSR.out ⟨QN.out, by omega, by rw [HVX.out]; exact qf⟩)
              have EY := Lib.hid (And.intro e1 (And.intro e2 e3))
              clear e1 e2 e3
              have COK : Hid (∀ (gg : Nat) (A : Option Addr) (cap : Nat) (w : World), FabAt w x A cap rows → w.heap[gg]? = some (.cells #[.int .i16 x, .slice A rows.length cap] 28 (0, 0)) → Calls Tryd.prog 26 #[.pointer (some ⟨gg, 0, none⟩)] w fun e w' => e = .returned (.bool true) ∧ Below w.heap.size w w') := fun gg A cap w hF hg => by
                have := c_l05Ok gg x A cap rows w hF hg
                rw [qf] at this
                exact this
              clear qf
              go_enter Tryd.func12, Tryd.ntmps12
              go_wp2_with (first
              | (go_at_call 32; ((with_reducible refine CS.out.mono ?_); rintro e w1 ⟨v, rfl, hO, hb⟩; rw [World.size_alloc] at hO; have HO := Lib.hid hO; obtain ⟨g, c, rfl, hgc⟩ := own_some hO; have zc : (d.length : Int) ≤ (c : Int) := (by omega); have HRR := Lib.hid (own_rd HO.out); have hxl := own_last HO.out; have x0 := own_head HO.out HD.out; have HA := Lib.hid (blk_below HA0.out hb); have HB := Lib.hid (below_then HB0.out hb); clear hb hO))
              | (go_at_call 33; ((with_reducible refine (CN _).out.mono ?_); rintro e w2 ⟨rfl, rfl⟩))
              | (go_at_call 34; ((with_reducible refine (CC _).out.mono ?_); rintro e w2 ⟨rfl, rfl⟩))
              | (at_builtin; go_loud (refine ev_append_row rfl (.tmp 45) (.tmp 48) 23 rfl 9 (.string (str [])) 1 16 Tryd.underlying23 (by kernel_rfl) rfl (by decide) w1.heap.size (.slice (some ⟨w1.heap.size, 0, none⟩) 0 0) 0 [] rfl (own_empty (heap_alloc_new w1 _) (Nat.le_refl _)) ⟨g, 1, none⟩ rows.length (c - 1) (strs rows) rfl HSL.out (HTL.out _ _ _ _ _ (HO.out.alloc _)) (strs_oneC rows) m1.out m2.out (below_alloc (Below.refl _ _) _).size ?_; intro v2 w2 hO2 hG2; have hbg := below_grown (below_alloc (Below.refl w1.heap.size w1) (.cells #[] 9 (0, 0))) hG2 (own_empty (e := 9) (size := 1) (heap_alloc_new w1 _) (Nat.le_refl _)) (Nat.le_refl _) (below_alloc (Below.refl _ _) _).size; rw [List.nil_append, Nat.zero_add] at hO2; have hOm := own_mono (base' := w.heap.size + 1) hO2 (blk_lt HA.out); have HA2 := Lib.hid (blk_below HA.out hbg); have HB2 := Lib.hid (below_then HB.out hbg); obtain ⟨A2, c2, rfl, _⟩ := own_form hO2; have HO2 := Lib.hid hOm; clear hO2 hG2 hbg hOm))
              | (go_at_call 26; refine (COK.out w2.heap.size A2 c2 _ (fabAt_rd HSR.out ht HC1.out (own_rd (HO2.out.alloc _))) (heap_alloc_new w2 _)).mono ?_; rintro e w3 ⟨rfl, hb⟩; have HA3 := Lib.hid (blk_below (blk_alloc HA2.out _) hb); have HF3 := Lib.hid (blk_below (heap_alloc_new w2 _) hb); have HO3 := Lib.hid (own_below (HO2.out.alloc _) hb); have HB3 := Lib.hid ((below_alloc HB2.out _).trans (hb.mono (below_alloc HB2.out _).size)); clear hb)
              | (refine wpList_load_row rfl 28 (.tmp 8) rfl (w2.heap.size) rfl 28 _ (0, 0) _ HF3.out Tryd.underlying28 rfl HI.out ?_)
              | (refine ev_store_row rfl 28 (.tmp 2) (.tmp 54) rfl w.heap.size (fabCells x A2 rows.length c2) rfl rfl 28 (fabCells 0 none 0 0) ?_ HI.out rfl (fab_one _ _ _ _) ?_; (exact HA3.out); intro w6 hblk ht; have HR := Lib.hid hblk; clear hblk))
              exact bodyPost_ret (v := .tuple #[.agg (fabCells x A2 rows.length c2), .int .i64 0]) (results_ct rfl _ _ w.heap.size 28 (fabCells x A2 rows.length c2) (0, 0) _ rfl HR.out Tryd.underlying28 rfl HI.out rfl) rfl ⟨.slice A2 rows.length c2, by rw [EY.out.1, EY.out.2.2, HVX.out]; rfl, by rw [EY.out.2.1]; exact own_mono (own_tou HO3.out ht (Nat.lt_succ_self _)) (Nat.le_succ _), HB3.out.trans (ht.below (Nat.le_refl _))⟩
  · have er : (str r).toList.isEmpty = false := by rw [str_toList]; simpa using hr
    have EN := Lib.hid (rd_r HS.out hr)
    clear hr
    go_enter Tryd.func12, Tryd.ntmps12
    go_wp2_with (first
      | (go_at_call 32; ((with_reducible refine CS.out.mono ?_); rintro e w1 ⟨v, rfl, hO, hb⟩; rw [World.size_alloc] at hO; have HO := Lib.hid hO; obtain ⟨g, c, rfl, hgc⟩ := own_some hO; have zc : (d.length : Int) ≤ (c : Int) := (by omega); have HRR := Lib.hid (own_rd HO.out); have hxl := own_last HO.out; have HA := Lib.hid (blk_below HA0.out hb); have HB := Lib.hid (below_then HB0.out hb); clear hb hO))
      | (refine ev_store_row rfl 28 (.tmp 2) (.tmp 27) rfl w.heap.size (fabCells 0 none 0 0) rfl rfl 28 (fabCells 0 none 0 0) ?_ HI.out rfl (fab_one _ _ _ _) ?_; (exact HA.out); intro w6 hblk ht; have HR := Lib.hid hblk; clear hblk))
    exact bodyPost_ret (v := .tuple #[.agg #[.int .i16 0, .slice none 0 0], .int .i64 5]) (results_ct rfl _ _ w.heap.size 28 (fabCells 0 none 0 0) (0, 0) _ rfl HR.out Tryd.underlying28 rfl HI.out rfl) rfl (rdEnd_none EN.out (HB.out.trans (ht.below (Nat.le_refl _))))
end Go.Proofs.YtdcemmhfbfogdaaDoor
