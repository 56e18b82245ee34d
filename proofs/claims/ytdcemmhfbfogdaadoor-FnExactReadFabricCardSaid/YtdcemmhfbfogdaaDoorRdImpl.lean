/- A fabric read from its text: the program's function. -/
import Derived.Test.YtdcemmhfbfogdaaDoorRdSpec
import Derived.Test.YtdcemmhfbfogdaaDoorFabJoin2
import Derived.Deep.RegionHeld3
import Derived.BigRegion
namespace Go.Proofs.YtdcemmhfbfogdaaDoor
open Go.RowKit
set_option linter.unusedVariables false
set_option linter.unusedSimpArgs false
set_option maxRecDepth 100000

theorem rd_know {t p : List UInt8} {rows : List (List UInt8)} {r : List UInt8} {v : Int} {ok : Bool} (hs : splitS 10 t = (p :: rows, r)) (hn : ∀ n, n < 32768 → p = Lib.decDigits n → ok = true ∧ v = (n : Int)) {c : Int} {L : List (List UInt8)} (h : rdFab t = some (c, L)) :
    ok = true ∧ v = c ∧ rows = L ∧ fabOk v rows = true ∧ t = fabTxt v rows := by
  obtain ⟨h1, h2, h3⟩ := rd_back h
  obtain ⟨⟨h4, h5⟩, _⟩ := fabOk_facts h1
  rw [hs] at h3
  injection h3 with e1 e2
  injection e1 with e1 e3
  obtain ⟨e4, e5⟩ := hn c.toNat (by omega) e1
  have e6 : v = c := by rw [e5]; omega
  rw [e6, e3]
  exact ⟨e4, rfl, rfl, h1, h2⟩
theorem rd_never {t : List UInt8} (h : ∀ c L, rdFab t = some (c, L) → False) : rdFab t = none := by
  cases e : rdFab t with
  | none => rfl
  | some x => exact (h x.1 x.2 e).elim
theorem row_get {w : World} {P : List (List UInt8)} {ty : TypeId} : ∀ j u, (strs P)[j]? = some u → (w.alloc (.cells (strs P).toArray ty (0, 0))).cell? ⟨w.heap.size, j, none⟩ = some u := fun j u hj => by
  rw [cell_of_row _ w.heap.size j _ _ _ (heap_alloc_new w _)]
  simpa using hj
theorem strs_rows {p r : List UInt8} {d : List (List UInt8)} : ∀ j u, (strs d)[j]? = some u → (strs (p :: d ++ [r]))[1 + j]? = some u := fun j u hj => by
  simp only [strs, List.getElem?_map, Option.map_eq_some_iff] at hj ⊢
  obtain ⟨l, hl, rfl⟩ := hj
  refine ⟨l, ?_, rfl⟩
  rw [Nat.add_comm, List.cons_append, List.getElem?_cons_succ, List.getElem?_append_left (List.getElem?_eq_some_iff.1 hl).1]
  exact hl
/-- What the last region keeps. -/
abbrev RS (g : Nat) (x y : Value) (w' : World) : Prop := w'.cell? ⟨g, 0, none⟩ = some x ∧ w'.cell? ⟨g, 1, none⟩ = some y
theorem rs_below {g : Nat} {x y : Value} {w' w1 : World} (hb : Below w'.heap.size w' w1) (h : RS g x y w') : RS g x y w1 :=
  ⟨(hb.cell (World.block_lt_of_cell? w' _ h.1)).trans h.1, (hb.cell (World.block_lt_of_cell? w' _ h.2)).trans h.2⟩
theorem rs_tou {g k : Nat} {x y : Value} {w' w1 : World} (ht : Tou k w' w1) (hk : g ≠ k) (h : RS g x y w') : RS g x y w1 :=
  ⟨(World.cell?_of_block (ht.block g hk)).trans h.1, (World.cell?_of_block (ht.block g hk)).trans h.2⟩
theorem add_one (g j : Nat) : (⟨g, 1, none⟩ : Addr).add j = ⟨g, 1 + j, none⟩ := by unfold Addr.add; split <;> simp_all
set_option maxHeartbeats 4000000 in
theorem c_iReadFabric (t : List UInt8) (ht : t.length ≤ 1048576) (w : World) (hL : Laid w) : Calls Tryd.prog 13 #[.string (str t)] w (RdEnd t w) := by
  have hB0 : Below w.heap.size w (w.alloc (.cells #[.int .i16 0, .slice none 0 0] 28 (0, 0))) := below_alloc (Below.refl _ _) _
  have hL0 := hL.below hB0
  obtain ⟨m, hm⟩ := hL0.top
  have hCS := c_Split t 10 m (w.alloc (.cells #[.int .i16 0, .slice none 0 0] 28 (0, 0))) ht hm
  clear hm
  have HB0 := Lib.hid hB0
  have HA0 : Hid ((w.alloc (.cells #[.int .i16 0, .slice none 0 0] 28 (0, 0))).heap[w.heap.size]? = some (.cells (fabCells 0 none 0 0) 28 (0, 0))) := (heap_alloc_new w (.cells #[.int .i16 0, .slice none 0 0] 28 (0, 0)))
  have HI : Hid ((Tryd.prog.info? 28).map (·.size) = some (fabCells 0 none 0 0).size) := (show (Tryd.prog.info? 28).map (·.size) = some (fabCells 0 none 0 0).size from by kernel_rfl)
  obtain ⟨d, r, hs⟩ : ∃ d r, splitS 10 t = (d, r) := ⟨_, _, rfl⟩
  have hP : splitL 10 t = d ++ [r] := by rw [splitL, hs]
  have hdl : (d ++ [r]).length = d.length + 1 := by simp
  rw [hP, hdl, World.size_alloc] at hCS
  have CS := Lib.hid hCS
  have HN := Lib.hid (splitS_num 10 t)
  rw [hs] at HN
  have hdn : d.length ≤ 1048576 := Nat.le_trans HN.out ht
  have HS := Lib.hid hs
  have hB1 : Below w.heap.size w ((w.alloc (.cells #[.int .i16 0, .slice none 0 0] 28 (0, 0))).alloc (.cells (strs (d ++ [r])).toArray 9 (0, 0))) := below_alloc (below_alloc (Below.refl _ _) _) _
  have HB1 := Lib.hid hB1
  have HL1 : Hid (Laid ((w.alloc (.cells #[.int .i16 0, .slice none 0 0] 28 (0, 0))).alloc (.cells (strs (d ++ [r])).toArray 9 (0, 0)))) := hL.below hB1
  have HA1 : Hid (((w.alloc (.cells #[.int .i16 0, .slice none 0 0] 28 (0, 0))).alloc (.cells (strs (d ++ [r])).toArray 9 (0, 0))).heap[w.heap.size]? = some (.cells (fabCells 0 none 0 0) 28 (0, 0))) := blk_alloc HA0.out _
  have hG := row_get (w := w.alloc (.cells #[.int .i16 0, .slice none 0 0] 28 (0, 0))) (P := d ++ [r]) (ty := 9)
  rw [World.size_alloc] at hG
  have HG := Lib.hid hG
  clear hs hP hdl hB0 hB1 hL0 hL hCS hG
  have n1 : (0 : Int) < (d.length : Int) + 1 := by omega
  cases hdc : d.head? with
  | none =>
    have HD : Hid (d = []) := List.head?_eq_none_iff.1 hdc
    have EN : Hid (rdFab t = none) := rd_d (by rw [HS.out, HD.out])
    have dl : decide ((d.length : Int) + 1 < 2) = true := by rw [HD.out]; rfl
    have x0 : ((w.alloc (.cells #[.int .i16 0, .slice none 0 0] 28 (0, 0))).alloc (.cells (strs (d ++ [r])).toArray 9 (0, 0))).cell? ⟨w.heap.size + 1, 0, none⟩ = some (.string (str r)) := HG.out 0 _ (by rw [HD.out]; rfl)
    obtain ⟨v, ok, hv, hn, hC⟩ := c_small16 r (Nat.le_trans (splitS_lens HS.out).2 ht)
    have CM := Lib.hid (hC _ HL1.out)
    clear hC hn hdc
    cases ok <;>
    · go_enter Tryd.func13, Tryd.ntmps13
      go_wp2_with (first
        | (go_at_call 35; ((with_reducible refine CS.out.mono ?_); rintro e w1 ⟨rfl, rfl⟩))
        | (go_at_call 36; ((with_reducible refine CM.out.mono ?_); rintro e w2 ⟨rfl, hb⟩; have HA := Lib.hid (blk_below HA1.out hb); have HB := Lib.hid (below_then HB1.out hb); clear hb))
        | (refine ev_store_row rfl 28 (.tmp 2) (.tmp 29) rfl w.heap.size (fabCells 0 none 0 0) rfl rfl 28 (fabCells 0 none 0 0) ?_ HI.out rfl (fab_one _ _ _ _) ?_; (exact HA.out); intro w6 hblk ht; have HR := Lib.hid hblk; clear hblk))
      exact bodyPost_ret (v := .tuple #[.agg #[.int .i16 0, .slice none 0 0], .int .i64 5]) (results_ct rfl _ _ w.heap.size 28 (fabCells 0 none 0 0) (0, 0) _ rfl HR.out Tryd.underlying28 rfl HI.out rfl) rfl (rdEnd_none EN.out (HB.out.trans (ht.below (Nat.le_refl _))))
  | some p =>
    have HD := Lib.hid hdc
    obtain ⟨rows, hrows⟩ : ∃ rows, d = p :: rows := by
      cases d with
      | nil => cases hdc
      | cons x d => cases hdc; exact ⟨d, rfl⟩
    have HROW := Lib.hid hrows
    have hdr : d.length = rows.length + 1 := by rw [hrows]; rfl
    have dl : decide ((d.length : Int) + 1 < 2) = false := by simp; omega
    have HSR : Hid (splitS 10 t = (p :: rows, r)) := by rw [Hid, HS.out, hrows]
    have x0 : ((w.alloc (.cells #[.int .i16 0, .slice none 0 0] 28 (0, 0))).alloc (.cells (strs (d ++ [r])).toArray 9 (0, 0))).cell? ⟨w.heap.size + 1, 0, none⟩ = some (.string (str p)) := HG.out 0 _ (by rw [hrows]; rfl)
    have HTL : Hid (∀ j u, (strs rows)[j]? = some u → ((w.alloc (.cells #[.int .i16 0, .slice none 0 0] 28 (0, 0))).alloc (.cells (strs (d ++ [r])).toArray 9 (0, 0))).cell? ((⟨w.heap.size + 1, 1, none⟩ : Addr).add j) = some u) := fun j u hj => by
      rw [add_one]
      exact HG.out _ _ (by rw [hrows]; exact strs_rows j u hj)
    have HRR : Hid (RdRow ((w.alloc (.cells #[.int .i16 0, .slice none 0 0] 28 (0, 0))).alloc (.cells (strs (d ++ [r])).toArray 9 (0, 0))) (some ⟨w.heap.size + 1, 1, none⟩) (strs rows)) := fun j u hj => ⟨_, rfl, HTL.out j u hj⟩
    obtain ⟨v, ok, hv, hn, hC⟩ := c_small16 p (Nat.le_trans ((splitS_lens HSR.out).1 p (by simp)) ht)
    have CM := Lib.hid (hC _ HL1.out)
    have HK := Lib.hid (fun c L h => rd_know HSR.out hn (c := c) (L := L) h)
    have HDR := Lib.hid hdr
    clear hC hn hdc hrows hdr
    cases ok
    · have EN := Lib.hid (rd_never fun c L h => by cases (HK.out c L h).1)
      go_enter Tryd.func13, Tryd.ntmps13
      go_wp2_with (first
        | (go_at_call 35; ((with_reducible refine CS.out.mono ?_); rintro e w1 ⟨rfl, rfl⟩))
        | (go_at_call 36; ((with_reducible refine CM.out.mono ?_); rintro e w2 ⟨rfl, hb⟩; have HA := Lib.hid (blk_below HA1.out hb); have HB := Lib.hid (below_then HB1.out hb); clear hb))
        | (refine ev_store_row rfl 28 (.tmp 2) (.tmp 29) rfl w.heap.size (fabCells 0 none 0 0) rfl rfl 28 (fabCells 0 none 0 0) ?_ HI.out rfl (fab_one _ _ _ _) ?_; (exact HA.out); intro w6 hblk ht; have HR := Lib.hid hblk; clear hblk))
      exact bodyPost_ret (v := .tuple #[.agg #[.int .i16 0, .slice none 0 0], .int .i64 5]) (results_ct rfl _ _ w.heap.size 28 (fabCells 0 none 0 0) (0, 0) _ rfl HR.out Tryd.underlying28 rfl HI.out rfl) rfl (rdEnd_none EN.out (HB.out.trans (ht.below (Nat.le_refl _))))
    · by_cases hl : 32 < d.length + 1
      · have EN := Lib.hid (rd_long HSR.out (by have := HDR.out; omega))
        have dl2 : decide ((32 : Int) < (d.length : Int) + 1) = true := by simp; omega
        go_enter Tryd.func13, Tryd.ntmps13
        go_wp2_with (first
          | (go_at_call 35; ((with_reducible refine CS.out.mono ?_); rintro e w1 ⟨rfl, rfl⟩))
          | (go_at_call 36; ((with_reducible refine CM.out.mono ?_); rintro e w2 ⟨rfl, hb⟩; have HA := Lib.hid (blk_below HA1.out hb); have HB := Lib.hid (below_then HB1.out hb); clear hb))
          | (refine ev_store_row rfl 28 (.tmp 2) (.tmp 29) rfl w.heap.size (fabCells 0 none 0 0) rfl rfl 28 (fabCells 0 none 0 0) ?_ HI.out rfl (fab_one _ _ _ _) ?_; (exact HA.out); intro w6 hblk ht; have HR := Lib.hid hblk; clear hblk))
        exact bodyPost_ret (v := .tuple #[.agg #[.int .i16 0, .slice none 0 0], .int .i64 5]) (results_ct rfl _ _ w.heap.size 28 (fabCells 0 none 0 0) (0, 0) _ rfl HR.out Tryd.underlying28 rfl HI.out rfl) rfl (rdEnd_none EN.out (HB.out.trans (ht.below (Nat.le_refl _))))
      · have dl2 : decide ((32 : Int) < (d.length : Int) + 1) = false := by simp; omega
        have w16 : IntKind.i16.wrap v = v := IntWalk.i16_in _ (by omega)
        have e1 : IntKind.i64.wrap ((d.length : Int) + 1 - 1) = (d.length : Int) := by rw [Int.add_sub_cancel]; exact IntWalk.i64_in _ (by omega)
        have n0 : (0 : Int) ≤ (d.length : Int) := by omega
        have z1 : (1 : Int) ≤ (d.length : Int) := by have := HDR.out; omega
        have z2 : (d.length : Int) ≤ (d.length : Int) + 1 := by omega
        have hrl : d.length - 1 = rows.length := by have := HDR.out; omega
        have HF0 : Hid (∀ w3, Below w.heap.size w w3 → RdRow w3 (some ⟨w.heap.size + 1, 1, none⟩) (strs rows) → FabAt w3 v (some ⟨w.heap.size + 1, 1, none⟩) d.length rows) := fun w3 _ hR =>
          ⟨by have := HDR.out; omega, fun l hl => Nat.le_trans ((splitS_lens HSR.out).1 l (by simp [hl])) ht, hR, hv⟩
        have HCV := Lib.hid (fun w3 h1 h2 => c_ValidFabric v (some ⟨w.heap.size + 1, 1, none⟩) d.length rows w3 (HF0.out w3 h1 h2))
        cases qf : fabOk v rows
        · have EN := Lib.hid (rd_never fun c L h => by have := (HK.out c L h).2.2.2.1; rw [qf] at this; cases this)
          rw [qf] at HCV
          go_enter Tryd.func13, Tryd.ntmps13
          go_wp2_with (first
            | (go_at_call 35; ((with_reducible refine CS.out.mono ?_); rintro e w1 ⟨rfl, rfl⟩))
            | (go_at_call 36; ((with_reducible refine CM.out.mono ?_); rintro e w2 ⟨rfl, hb⟩; have HA := Lib.hid (blk_below HA1.out hb); have HB := Lib.hid (below_then HB1.out hb); have HR2 := Lib.hid (HRR.out.below hb); clear hb))
            | (go_at_call 29; go_loud ((refine (HCV.out _ (below_alloc HB.out _) (HR2.out.below (below_alloc (Below.refl _ _) _))).mono ?_); rintro e w3 ⟨rfl, hb⟩; have HA := Lib.hid (blk_below (blk_alloc HA.out _) hb); have HB := Lib.hid ((below_alloc HB.out _).trans (hb.mono (below_alloc HB.out _).size)); clear hb))
            | (refine ev_store_row rfl 28 (.tmp 2) (.tmp 47) rfl w.heap.size (fabCells 0 none 0 0) rfl rfl 28 (fabCells 0 none 0 0) ?_ HI.out rfl (fab_one _ _ _ _) ?_; (exact HA.out); intro w6 hblk ht; have HR := Lib.hid hblk; clear hblk))
          exact bodyPost_ret (v := .tuple #[.agg #[.int .i16 0, .slice none 0 0], .int .i64 5]) (results_ct rfl _ _ w.heap.size 28 (fabCells 0 none 0 0) (0, 0) _ rfl HR.out Tryd.underlying28 rfl HI.out rfl) rfl (rdEnd_none EN.out (HB.out.trans (ht.below (Nat.le_refl _))))
        · rw [qf] at HCV
          have hlens : rows.length + lensN rows ≤ 1048576 := by
            have h1 := congrArg List.length (splitS_parts (by_ := 10) t).eq
            rw [HSR.out] at h1
            simp only [List.length_append, joinD_lens, lensN, List.map_cons, List.sum_cons, List.length_cons] at h1
            simp only [lensN]
            omega
          have HCT := Lib.hid (fun w3 h1 h2 => c_fabricTextO v (w.heap.size + 1) 1 d.length rows w3 (HF0.out w3 h1 h2) (by have := HDR.out; omega) hlens (fabOk_cast qf))
          clear hlens
          by_cases he : t = fabTxt v rows
          · obtain ⟨y1, y2, y3⟩ := rd_some (rd_of qf he)
            have EY := Lib.hid (And.intro y1 (And.intro y2 y3))
            rw [← he] at HCT
            clear y1 y2 y3 he qf
            go_enter Tryd.func13, Tryd.ntmps13
            go_wp2_with (first
              | (go_at_call 35; ((with_reducible refine CS.out.mono ?_); rintro e w1 ⟨rfl, rfl⟩))
              | (go_at_call 36; ((with_reducible refine CM.out.mono ?_); rintro e w2 ⟨rfl, hb⟩; have HA := Lib.hid (blk_below HA1.out hb); have HB := Lib.hid (below_then HB1.out hb); have HR2 := Lib.hid (HRR.out.below hb); clear hb))
              | (go_at_call 29; ((refine (HCV.out _ (below_alloc HB.out _) (HR2.out.below (below_alloc (Below.refl _ _) _))).mono ?_); rintro e w3 ⟨rfl, hb⟩; have HAx := HA; have HF := Lib.hid (blk_below (heap_alloc_new w2 _) hb); have hxf := (blk_cell HF.out 0); have hxg := (blk_cell HF.out 1); have HA := Lib.hid (blk_below (blk_alloc HA.out _) hb); have HR2 := Lib.hid ((HR2.out.below (below_alloc (Below.refl _ _) _)).below hb); have HB := Lib.hid ((below_alloc HB.out _).trans (hb.mono (below_alloc HB.out _).size)); clear hb))
              | (refine wpList_load_row rfl 28 (.tmp 7) rfl (w2.heap.size) rfl 28 _ (0, 0) _ HF.out Tryd.underlying28 rfl HI.out ?_)
              | (go_at_call 30; ((refine (HCT.out _ HB.out HR2.out).mono ?_); rintro e w4 ⟨rfl, hb⟩; have HA := Lib.hid (blk_below HA.out hb); have HF := Lib.hid (blk_below HF.out hb); have HR2 := Lib.hid (HR2.out.below hb); have hxf := (blk_cell HF.out 0); have hxg := (blk_cell HF.out 1); have HB := Lib.hid (below_then HB.out hb); clear hb)))
            have HCL : Hid (∀ w', RdRow w' (some ⟨w.heap.size + 1, 1, none⟩) (strs rows) → Calls Tryd.prog 37 #[.slice (some ⟨w.heap.size + 1, 1, none⟩) rows.length d.length] w' fun e w1 => ∃ v', e = .returned v' ∧ w1.ownsRow w'.heap.size 9 1 v' rows.length (strs rows) ∧ Below w'.heap.size w' w1) := fun w' hR => by
              refine (Tryd.slices_Clone_string (w.heap.size + 1) 1 rows.length d.length (rows.map str) w' (by simp) (by omega) (fun j hj => ?_)).mono fun e w1 h => ?_
              · rw [List.length_map] at hj
                obtain ⟨ad, e1, e2⟩ := hR j (.string (str rows[j])) (by simp [strs, hj])
                injection e1 with e1
                rw [← e1, add_one] at e2
                rw [e2]
                simp [hj]
              · obtain ⟨v', h1, h2, _, h3⟩ := h
                refine ⟨v', h1, ?_, h3⟩
                rw [List.take_of_length_le (by simp), List.map_map] at h2
                exact h2
            have HRS : Hid (RS w2.heap.size (.int .i16 v) (.slice (some ⟨w.heap.size + 1, 1, none⟩) rows.length d.length) w4.drew) := ⟨hxf, hxg⟩
            have hne : w2.heap.size ≠ w.heap.size := by have := blk_lt HAx.out; omega
            have HNE := Lib.hid hne
            clear hne
            go_region_held3 (fun w' => w'.cell? ⟨w2.heap.size, 0, none⟩ = some (.int .i16 v) ∧ w'.cell? ⟨w2.heap.size, 1, none⟩ = some (.slice (some ⟨w.heap.size + 1, 1, none⟩) rows.length d.length))
              (first
                | exact HRS.out
                | exact rs_tou (Tou.setCell _ _ _ _) HNE.out (rs_tou (Tou.setCell _ _ _ _) HNE.out (rs_below hb5 HRS.out))
                | exact rs_below hb5 HRS.out)
              (first
                | (go_at_call 37; (refine (HCL.out _ (HR2.out.below (below_drew (Below.refl _ _)))).mono ?_); rintro e w5 ⟨v5, rfl, hO5, hb5⟩; obtain ⟨A5, c5, rfl, _⟩ := own_form hO5; have HA5 := Lib.hid (blk_below (w := w4.drew) (by exact HA.out) hb5); have hxa0 : w5.cell? ⟨w.heap.size, 0, none⟩ = some (.int .i16 0) := (blk_cell HA5.out 0); have hxa1 : w5.cell? ⟨w.heap.size, 1, none⟩ = some (.slice none 0 0) := (blk_cell HA5.out 1); have hfa0 := blk_frozen HA5.out 0; have hfa1 := blk_frozen HA5.out 1; have HA6 := Lib.hid (blk_set HA5.out 0 (.int .i16 v)); have hxb1 : (w5.setCell ⟨w.heap.size, 0, none⟩ (.int .i16 v)).cell? ⟨w.heap.size, 1, none⟩ = some (.slice none 0 0) := (blk_cell HA6.out 1); have hfb1 := blk_frozen HA6.out 1; have HA7 := Lib.hid (blk_set HA6.out 1 (.slice A5 rows.length c5))))
            go_wp2
            have hblk : ((w5.setCell ⟨w.heap.size, 0, none⟩ (.int .i16 v)).setCell ⟨w.heap.size, 1, none⟩ (.slice A5 rows.length c5)).heap[w.heap.size]? = some (.cells (fabCells v A5 rows.length c5) 28 (0, 0)) := HA7.out
            have hlt : w.heap.size < w4.drew.heap.size := blk_lt (w := w4) HA.out
            have hown := own_mono (own_tou (own_tou hO5 (Tou.setCell w5 w.heap.size 0 (.int .i16 v)) hlt) (Tou.setCell _ w.heap.size 1 (.slice A5 rows.length c5)) hlt) (Nat.le_of_lt hlt)
            have hbel : Below w.heap.size w ((w5.setCell ⟨w.heap.size, 0, none⟩ (.int .i16 v)).setCell ⟨w.heap.size, 1, none⟩ (.slice A5 rows.length c5)) :=
              (((below_drew HB.out).trans (hb5.mono (Nat.le_of_lt hlt))).trans ((Tou.setCell w5 w.heap.size 0 (.int .i16 v)).below (Nat.le_refl _))).trans ((Tou.setCell _ w.heap.size 1 (.slice A5 rows.length c5)).below (Nat.le_refl _))
            exact bodyPost_ret (v := .tuple #[.agg (fabCells v A5 rows.length c5), .int .i64 0]) (results_ct rfl _ _ w.heap.size 28 (fabCells v A5 rows.length c5) (0, 0) _ rfl hblk Tryd.underlying28 rfl HI.out rfl) rfl ⟨.slice A5 rows.length c5, by rw [EY.out.1, EY.out.2.2]; rfl, by rw [EY.out.2.1]; exact hown, hbel⟩
          · have EN := Lib.hid (rd_never fun c L h => he (HK.out c L h).2.2.2.2)
            have dt : ((str (fabTxt v rows)).toList == (str t).toList) = false := by
              rw [str_toList, str_toList]
              simpa using fun h => he h.symm
            clear he qf
            go_enter Tryd.func13, Tryd.ntmps13
            go_wp2_with (first
              | (go_at_call 35; ((with_reducible refine CS.out.mono ?_); rintro e w1 ⟨rfl, rfl⟩))
              | (go_at_call 36; ((with_reducible refine CM.out.mono ?_); rintro e w2 ⟨rfl, hb⟩; have HA := Lib.hid (blk_below HA1.out hb); have HB := Lib.hid (below_then HB1.out hb); have HR2 := Lib.hid (HRR.out.below hb); clear hb))
              | (go_at_call 29; ((refine (HCV.out _ (below_alloc HB.out _) (HR2.out.below (below_alloc (Below.refl _ _) _))).mono ?_); rintro e w3 ⟨rfl, hb⟩; have HF := Lib.hid (blk_below (heap_alloc_new w2 _) hb); have hxf := (blk_cell HF.out 0); have hxg := (blk_cell HF.out 1); have HA := Lib.hid (blk_below (blk_alloc HA.out _) hb); have HR2 := Lib.hid ((HR2.out.below (below_alloc (Below.refl _ _) _)).below hb); have HB := Lib.hid ((below_alloc HB.out _).trans (hb.mono (below_alloc HB.out _).size)); clear hb))
              | (refine wpList_load_row rfl 28 (.tmp 7) rfl (w2.heap.size) rfl 28 _ (0, 0) _ HF.out Tryd.underlying28 rfl HI.out ?_)
              | (go_at_call 30; ((refine (HCT.out _ HB.out HR2.out).mono ?_); rintro e w4 ⟨rfl, hb⟩; have HA := Lib.hid (blk_below HA.out hb); have HB := Lib.hid (below_then HB.out hb); clear hb))
              | (refine ev_store_row rfl 28 (.tmp 2) (.tmp 47) rfl w.heap.size (fabCells 0 none 0 0) rfl rfl 28 (fabCells 0 none 0 0) ?_ HI.out rfl (fab_one _ _ _ _) ?_; (exact HA.out); intro w6 hblk ht; have HR := Lib.hid hblk; clear hblk))
            exact bodyPost_ret (v := .tuple #[.agg #[.int .i16 0, .slice none 0 0], .int .i64 5]) (results_ct rfl _ _ w.heap.size 28 (fabCells 0 none 0 0) (0, 0) _ rfl HR.out Tryd.underlying28 rfl HI.out rfl) rfl (rdEnd_none EN.out (HB.out.trans (ht.below (Nat.le_refl _))))
end Go.Proofs.YtdcemmhfbfogdaaDoor
