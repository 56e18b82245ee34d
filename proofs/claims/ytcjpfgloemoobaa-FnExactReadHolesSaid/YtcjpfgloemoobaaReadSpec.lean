/- Holes out of a text: the reference's function. -/
import Derived.Test.YtcjpfgloemoobaaReadImpl
namespace Go.Proofs.Ytcjpfgloemoobaa
open Go.RowKit
set_option linter.unusedVariables false
set_option linter.unusedSimpArgs false
set_option maxRecDepth 100000

theorem strs_get {L : List (List UInt8)} {j : Nat} (h : j < L.length) : (strs L)[j]? = some (.string (str (L.getD j []))) := by
  simp [strs, List.getD_eq_getElem?_getD, h]
theorem strs_len (L : List (List UInt8)) : (strs L).length = L.length := by simp [strs]
theorem rowB_no_len {l : List UInt8} (h : ¬ l.length = 8) : rowB l = false := by simp [rowB, h]
theorem readS_no {L : List (List UInt8)} {y : Nat} (hy : y < 8) (h : rowB (L.getD y []) = false) : readS L = (noHoles, 5) := by
  rw [readS, if_neg]
  rintro ⟨_, _, h3⟩
  have := List.all_eq_true.1 h3 y (List.mem_range.2 hy)
  rw [h] at this
  cases this
theorem rowB_no {l : List UInt8} {x : Nat} (hx : x < l.length) (h1 : ¬ l[x] = 111) (h2 : ¬ l[x] = 46) : rowB l = false := by
  cases h : rowB l
  · rfl
  · rcases (rowB_iff.1 h).2 _ (List.getElem_mem hx) with e | e
    · exact absurd e h1
    · exact absurd e h2
theorem rowB_yes {l : List UInt8} (hl : l.length = 8) (h : ∀ x (hx : x < 8), l[x]'(by omega) = 111 ∨ l[x]'(by omega) = 46) : rowB l = true := by
  refine rowB_iff.2 ⟨hl, fun c hc => ?_⟩
  obtain ⟨x, hx, rfl⟩ := List.getElem_of_mem hc
  exact h x (by omega)
set_option maxHeartbeats 4000000 in
theorem c_sReadHoles (t : List UInt8) (ht : t.length ≤ 1048576) (w : World) :
    Calls Try.prog 25 #[.string (str t)] w fun e w' => e = .returned (.tuple #[.agg (nums .u8 (readF t).1).toArray, .int .i64 (readF t).2]) ∧ Below w.heap.size w w' := by
  have HIZ := Lib.hid (holes_info noHoles8.len)
  have HR1 : Hid ((w.alloc (.cells (nums .u8 noHoles).toArray 38 (0, 0))).heap[w.heap.size]? = some (.cells (nums .u8 noHoles).toArray 38 (0, 0))) := heap_alloc_new _ _
  have CS : ∀ w, Hid (Calls Try.prog 69 #[.string (str t), .int .u8 10] w fun e w' => ∃ v, e = .returned v ∧ w'.ownsRow w.heap.size 9 1 v (splitL 10 t).length (strs (splitL 10 t)) ∧ Below w.heap.size w w') := fun w => c_l01Split t 10 w ht
  have HE := Lib.hid (readS_eq t)
  generalize readF t = R at *
  generalize splitL 10 t = L at *
  have HB1 : Hid (Below w.heap.size w (w.alloc (.cells (nums .u8 noHoles).toArray 38 (0, 0)))) := below_alloc (Below.refl _ _) _
  by_cases hlen : L.length = 9
  · have d1 : ((L.length : Int) != 9) = false := by simp [hlen]
    obtain ⟨l8, h8⟩ : ∃ l, L.getD 8 [] = l := ⟨_, rfl⟩
    by_cases hem : l8 = []
    · have de : (str l8).toList.isEmpty = true := by rw [str_toList, hem]; rfl
      have HF8 := fun n => Lib.hid (mkN8 (fL L) n)
      have HIN := fun n => Lib.hid (holes_info (mkN8 (fL L) n).len)
      have HM0 : Hid (mkN (fL L) 0 = noHoles) := mkN_zero _
      have HM64 : Hid (mkN (fL L) 64 = mk (fL L)) := mkN_all _
      have EY : Hid ((∀ y, y < 8 → rowB (L.getD y []) = true) → R = (mk (fL L), 0)) := fun h => by rw [← HE.out, readS, if_pos ⟨hlen, h8.trans hem, List.all_eq_true.2 fun y hy => h y (List.mem_range.1 hy)⟩]
      have EN : Hid (∀ y, y < 8 → rowB (L.getD y []) = false → R = (noHoles, 5)) := fun y hy h => by rw [← HE.out, readS_no hy h]
      have HF : Hid (∀ x y, fL L x y = decide ((L.getD y [])[x]? = some 111)) := fun _ _ => rfl
      have HEM := Lib.hid hem
      clear hem
      generalize fL L = f at *
      go_enter Try.func25, Try.ntmps25
      go_wp2_with (go_at_call 69; ((with_reducible refine (CS _).out.mono ?_); rintro e w1 ⟨v, rfl, hO, hb⟩; obtain ⟨A1, c', rfl, hA'⟩ := own_form hO; have HI := Lib.hid hO; have HR2 := Lib.hid (blk_below HR1.out hb); have HB := Lib.hid (below_then HB1.out hb); obtain ⟨g, rfl, hg⟩ := hA' (by omega); have x8 := (own_get HI.out (strs_get (L := L) (j := 8) (by omega))).1; rw [h8] at x8; clear hO hb))
      have hsz1 := HB.out.size
      have hlo := own_lo HI.out (Nat.le_refl _) g rfl
      have hx := fun j (hj : j < 9) => (own_get HI.out (strs_get (L := L) (j := j) (by omega))).1
      have hO1 := heap_alloc_new w1 (.cells (nums .u8 noHoles).toArray 38 (0, 0))
      obtain ⟨cur, hgb⟩ : ∃ cur, w1.heap[g]? = some (.cells cur 9 (0, 0)) := by
        rcases HI.out.2 with ⟨h1, h2⟩ | ⟨gb, cap', cur, h1, hbase, hgb, _⟩
        · omega
        · injection h1 with h1; injection h1 with h1; injection h1 with h1; subst h1; exact ⟨cur, hgb⟩
      have HC : Hid (∀ j, j < 9 → cur[j]? = some (.string (str (L.getD j [])))) := fun j hj => (blk_cell hgb j).symm.trans (hx j hj)
      have HG1 := Lib.hid (blk_alloc hgb (.cells (nums .u8 noHoles).toArray 38 (0, 0)))
      have HR1' := Lib.hid (blk_alloc HR2.out (.cells (nums .u8 noHoles).toArray 38 (0, 0)))
      have HB2 : Hid (Below w.heap.size w (w1.alloc (.cells (nums .u8 noHoles).toArray 38 (0, 0)))) := HB.out.alloc hsz1 _
      have hrz := blk_lt HR2.out
      have HO1 := Lib.hid hO1
      clear hx hO1 hgb hA' hg HI HR2 HB x8 HR1 HB1
      generalize hN1 : w1.heap.size = N1 at *
      have hdr : ¬ N1 = w.heap.size := by omega
      have hdr2 : w.heap.size ≠ N1 := by omega
      have hdg : g ≠ N1 := by omega
      go_loopw [6] (fun i wr => ∃ y : Nat, y ≤ 8 ∧ i = .int .i64 y ∧ Hid (wr.heap[N1]? = some (.cells (nums .u8 (mkN f (8 * y))).toArray 38 (0, 0))) ∧ Hid (∀ y', y' < y → rowB (L.getD y' []) = true) ∧ Hid (wr.heap[g]? = some (.cells cur 9 (0, 0))) ∧ Hid (wr.heap[w.heap.size]? = some (.cells (nums .u8 noHoles).toArray 38 (0, 0))) ∧ Hid (Below w.heap.size w wr)) (fun i _ => 8 - (intOf i).toNat)
      case atStart => exact ⟨0, by omega, rfl, by rw [HM0.out]; exact HO1.out, fun y' h => by omega, HG1, HR1', HB2⟩
      case round =>
        obtain ⟨y, hy, rfl, hH, hOk, hG, hR, hB⟩ := hrel
        by_cases hlt : y < 8
        · have d2 : decide ((y : Int) < 8) = true := by simp; omega
          have y0 : (0 : Int) ≤ (y : Int) := by omega
          have y1 : (y : Int) < 9 := by omega
          obtain ⟨l, hl⟩ : ∃ l, L.getD y [] = l := ⟨_, rfl⟩
          have x0 := cell_of_row wr g y _ _ _ hG.out
          rw [HC.out y (by omega), hl] at x0
          have hsz : (str l).size = l.length := str_size l
          have HL := Lib.hid hl
          clear hl
          by_cases h8l : l.length = 8
          · have d3 : ((l.length : Int) != 8) = false := by simp [h8l]
            go_wp2
            go_loopw [7] (fun i wr => ∃ x : Nat, x ≤ 8 ∧ i = .int .i64 x ∧ Hid (wr.heap[N1]? = some (.cells (nums .u8 (mkN f (8 * y + x))).toArray 38 (0, 0))) ∧ Hid (∀ x' (h : x' < l.length), x' < x → l[x'] = 111 ∨ l[x'] = 46) ∧ Hid (wr.heap[g]? = some (.cells cur 9 (0, 0))) ∧ Hid (wr.heap[w.heap.size]? = some (.cells (nums .u8 noHoles).toArray 38 (0, 0))) ∧ Hid (Below w.heap.size w wr)) (fun i _ => 8 - (intOf i).toNat)
            case atStart => exact ⟨0, by omega, rfl, hH, fun x' _ h => by omega, hG, hR, hB⟩
            case round =>
              obtain ⟨x, hx, rfl, hH, hLt, hG, hR, hB⟩ := hrel
              by_cases hlt2 : x < 8
              · have d4 : decide ((x : Int) < 8) = true := by simp; omega
                have xx0 : (0 : Int) ≤ (x : Int) := by omega
                have xx1 : (x : Int) < 8 := by omega
                have hxl : x < l.length := by omega
                have x0 := cell_of_row wr g y _ _ _ hG.out
                rw [HC.out y (by omega), HL.out] at x0
                have hgk : ∀ h, (str l)[x]'h = l[x] := fun h => str_get l x h hxl
                have c2 := nums_cell hH.out y (by rw [(HF8 _).out.len]; exact hlt)
                have f2 := blk_frozen hH.out y
                have yy1 : (y : Int) < 8 := by omega
                have hq : Hid (f x y = decide (l[x] = 111)) := by rw [Hid, HF.out, HL.out, List.getElem?_eq_getElem hxl]; simp
                by_cases hc : l[x] = 111
                · have dq : ((l[x].toNat : Int) == 111) = true := by rw [hc]; rfl
                  have HN := Lib.hid (mkN_yes hlt hlt2 (f := f) (by rw [hq.out]; simpa using hc))
                  have pw := Lib.hid (pow_mod hlt2)
                  have hbs := blk_set hH.out y (.int .u8 (bits .or .u8 (gi (mkN f (8 * y + x)) y) (2 ^ x)))
                  rw [nums_set] at hbs
                  have HBS := Lib.hid hbs
                  have HL1 : Hid (∀ x' (h : x' < l.length), x' < x + 1 → l[x'] = 111 ∨ l[x'] = 46) := fun x' h hx' => by
                    by_cases e : x' < x
                    · exact hLt.out x' h e
                    · obtain rfl : x' = x := by omega
                      exact .inl hc
                  clear hbs hq
                  go_wp2
                  go_roundw
                  case rel => exact ⟨x + 1, by omega, by go_num, by rw [pw.out, Hid, show 8 * y + (x + 1) = 8 * y + x + 1 by omega, HN.out]; exact HBS.out, HL1, blk_far hG.out hdg _ _, blk_far hR.out hdr2 _ _, hB.out.setCell (by simp; omega) _⟩
                  case measure => simp [intOf]; omega
                · have dq : ((l[x].toNat : Int) == 111) = false := by
                    simp only [beq_eq_false_iff_ne, ne_eq]
                    intro h; exact hc (UInt8.toNat_inj.1 (by show _ = 111; omega))
                  by_cases hc2 : l[x] = 46
                  · have dq2 : ((l[x].toNat : Int) == 46) = true := by rw [hc2]; rfl
                    have HN := Lib.hid (mkN_no (k := y) hlt2 (f := f) (by rw [hq.out]; simpa using hc))
                    have HL1 : Hid (∀ x' (h : x' < l.length), x' < x + 1 → l[x'] = 111 ∨ l[x'] = 46) := fun x' h hx' => by
                      by_cases e : x' < x
                      · exact hLt.out x' h e
                      · obtain rfl : x' = x := by omega
                        exact .inr hc2
                    clear hq
                    go_wp2
                    go_roundw
                    case rel => exact ⟨x + 1, by omega, by go_num, by rw [Hid, show 8 * y + (x + 1) = 8 * y + x + 1 by omega, HN.out]; exact hH.out, HL1, hG, hR, hB⟩
                    case measure => simp [intOf]; omega
                  · have dq2 : ((l[x].toNat : Int) == 46) = false := by
                      simp only [beq_eq_false_iff_ne, ne_eq]
                      intro h; exact hc2 (UInt8.toNat_inj.1 (by show _ = 46; omega))
                    have E : Hid (R = (noHoles, 5)) := EN.out y hlt (by rw [HL.out]; exact rowB_no hxl hc hc2)
                    clear hq
                    go_wp2_with (refine ev_store_row rfl 38 (.tmp 2) (.tmp 42) rfl w.heap.size (nums .u8 noHoles).toArray rfl rfl 38 (nums .u8 noHoles).toArray ?_ HIZ.out rfl (nums_one _ _) ?_; (with_reducible exact hR.out); intro w6 hblk ht; have hR3 := Lib.hid hblk; clear hblk)
                    refine bodyPost_ret (v := .tuple #[.agg (nums .u8 noHoles).toArray, .int .i64 5]) (results_ct rfl _ _ w.heap.size 38 (nums .u8 noHoles).toArray (0, 0) _ rfl (by with_reducible exact hR3.out) Try.underlying38 rfl HIZ.out rfl) rfl ⟨by rw [E.out], hB.out.trans (ht.below (by omega))⟩
              · obtain rfl : x = 8 := by omega
                have d4 : decide (((8 : Nat) : Int) < 8) = false := by simp
                have HK1 : Hid (∀ y', y' < y + 1 → rowB (L.getD y' []) = true) := fun y' h => by
                  by_cases e : y' < y
                  · exact hOk.out y' e
                  · obtain rfl : y' = y := by omega
                    rw [HL.out]
                    exact rowB_yes h8l fun x hx => hLt.out x (by omega) hx
                go_wp2
                go_roundw
                case rel => exact ⟨y + 1, by omega, by go_num, by rw [Hid, show 8 * (y + 1) = 8 * y + 8 by omega]; exact hH.out, HK1, hG, hR, hB⟩
                case measure => simp [intOf]; omega
          · have d3 : ((l.length : Int) != 8) = true := by simp; omega
            have E : Hid (R = (noHoles, 5)) := EN.out y hlt (by rw [HL.out]; exact rowB_no_len h8l)
            go_wp2_with (refine ev_store_row rfl 38 (.tmp 2) (.tmp 31) rfl w.heap.size (nums .u8 noHoles).toArray rfl rfl 38 (nums .u8 noHoles).toArray ?_ HIZ.out rfl (nums_one _ _) ?_; (with_reducible exact hR.out); intro w6 hblk ht; have hR3 := Lib.hid hblk; clear hblk)
            refine bodyPost_ret (v := .tuple #[.agg (nums .u8 noHoles).toArray, .int .i64 5]) (results_ct rfl _ _ w.heap.size 38 (nums .u8 noHoles).toArray (0, 0) _ rfl (by with_reducible exact hR3.out) Try.underlying38 rfl HIZ.out rfl) rfl ⟨by rw [E.out], hB.out.trans (ht.below (by omega))⟩
        · obtain rfl : y = 8 := by omega
          have d2 : decide (((8 : Nat) : Int) < 8) = false := by simp
          have E : Hid (R = (mk f, 0)) := EY.out hOk.out
          have HIM := HIN 64
          rw [HM64.out] at HIM
          have hlm : (mkN f 64).length = 8 := (HF8 64).out.len
          rw [HM64.out] at hlm
          rw [show 8 * 8 = 64 from rfl, HM64.out] at hH
          go_wp2_with (first
            | (refine wpList_load_row rfl 38 (.tmp 5) rfl (N1) rfl 38 _ (0, 0) _ hH.out Try.underlying38 rfl HIM.out ?_)
            | (refine ev_store_row rfl 38 (.tmp 2) (.tmp 56) rfl (w.heap.size) ((nums .u8 (mk f)).toArray) rfl rfl 38 _ hR.out HIM.out ((by simp [nums, noHoles, hlm])) (nums_one _ _) ?_; intro w1 hblk ht; have hR3 := Lib.hid hblk; clear hblk))
          refine bodyPost_ret (v := .tuple #[.agg (nums .u8 (mk f)).toArray, .int .i64 0]) (results_ct rfl _ _ w.heap.size 38 _ (0, 0) _ rfl hR3.out Try.underlying38 rfl HIM.out rfl) rfl ⟨by rw [E.out], hB.out.trans (ht.below (by omega))⟩
    · have E : Hid (R = (noHoles, 5)) := by rw [Hid, ← HE.out, readS, if_neg (fun h => hem (h8.symm.trans h.2.1))]
      have de : (str l8).toList.isEmpty = false := by
        rw [str_toList]
        cases l8 with
        | nil => exact absurd rfl hem
        | cons a l => rfl
      go_enter Try.func25, Try.ntmps25
      go_wp2_with (first
        | (go_at_call 69; ((with_reducible refine (CS _).out.mono ?_); rintro e w1 ⟨v, rfl, hO, hb⟩; obtain ⟨A1, c', rfl, hA'⟩ := own_form hO; have HI := Lib.hid hO; have HR2 := Lib.hid (blk_below HR1.out hb); have HB := Lib.hid (below_then HB1.out hb); obtain ⟨g, rfl, hg⟩ := hA' (by omega); have x8 := (own_get HI.out (strs_get (L := L) (j := 8) (by omega))).1; rw [h8] at x8; clear hO hb))
        | (refine ev_store_row rfl 38 (.tmp 2) (.tmp 19) rfl w.heap.size (nums .u8 noHoles).toArray rfl rfl 38 (nums .u8 noHoles).toArray ?_ HIZ.out rfl (nums_one _ _) ?_; (with_reducible exact HR2.out); intro w6 hblk ht; have hR3 := Lib.hid hblk; clear hblk))
      refine bodyPost_ret (v := .tuple #[.agg (nums .u8 noHoles).toArray, .int .i64 5]) (results_ct rfl _ _ w.heap.size 38 (nums .u8 noHoles).toArray (0, 0) _ rfl (by with_reducible exact hR3.out) Try.underlying38 rfl HIZ.out rfl) rfl ⟨by rw [E.out], HB.out.trans (ht.below (by omega))⟩
  · have d1 : ((L.length : Int) != 9) = true := by simp; omega
    have E : Hid (R = (noHoles, 5)) := by rw [Hid, ← HE.out, readS, if_neg (fun h => hlen h.1)]
    go_enter Try.func25, Try.ntmps25
    go_wp2_with (first
      | (go_at_call 69; ((with_reducible refine (CS _).out.mono ?_); rintro e w1 ⟨v, rfl, hO, hb⟩; obtain ⟨A1, c', rfl, hA'⟩ := own_form hO; have HI := Lib.hid hO; have HR2 := Lib.hid (blk_below HR1.out hb); have HB := Lib.hid (below_then HB1.out hb); clear hO hb))
      | (refine ev_store_row rfl 38 (.tmp 2) (.tmp 19) rfl w.heap.size (nums .u8 noHoles).toArray rfl rfl 38 (nums .u8 noHoles).toArray ?_ HIZ.out rfl (nums_one _ _) ?_; (with_reducible exact HR2.out); intro w6 hblk ht; have hR3 := Lib.hid hblk; clear hblk))
    refine bodyPost_ret (v := .tuple #[.agg (nums .u8 noHoles).toArray, .int .i64 5]) (results_ct rfl _ _ w.heap.size 38 (nums .u8 noHoles).toArray (0, 0) _ rfl (by with_reducible exact hR3.out) Try.underlying38 rfl HIZ.out rfl) rfl ⟨by rw [E.out], HB.out.trans (ht.below (by omega))⟩
end Go.Proofs.Ytcjpfgloemoobaa
