/- The reference's ladder. -/
import Derived.Test.YtepdgbgolopejaaLadMem
namespace Go.Proofs.Ytepdgbgolopejaa
open Go.RowKit
set_option linter.unusedVariables false
set_option linter.unusedSimpArgs false
set_option maxRecDepth 100000

theorem fits_zero (D : List Nat) (to m : Nat) : fits D to m = (decide (0 < m) && (List.range m).all fun k => D.contains (to + k)) := rfl
theorem all_succ (D : List Nat) (to k : Nat) (b : Bool) : (b && (List.range (k + 1)).all fun k => D.contains (to + k)) = ((b && (List.range k).all fun k => D.contains (to + k)) && D.contains (to + k)) := by
  rw [List.range_succ, List.all_append]; simp [Bool.and_assoc]
/-- The next loops, while a stitch's are being written. -/
def part (D : List Nat) (l : List UInt8) (j : Nat) (all : Bool) (k : Nat) : List Nat := nextP D l j ++ (if all = true then plcs (tkS (l.take j)) k else [])
theorem part_zero (D : List Nat) (l : List UInt8) (j : Nat) (all : Bool) : part D l j all 0 = nextP D l j := by cases all <;> simp [part, plcs]
theorem part_all {D : List Nat} {l : List UInt8} {j : Nat} (h : j < l.length) : part D l j (fits D (mkS (l.take j)) (mkN l[j])) (tkN l[j]) = nextP D l (j + 1) := by
  rw [nextP, getD_u8 h, part]
theorem part_set {D : List Nat} {l : List UInt8} {j : Nat} (hj : j ≤ l.length) (all : Bool) (k : Nat) : (bArr (part D l j all k)).setIfInBounds (tkS (l.take j) + k) (.bool all) = bArr (part D l j all (k + 1)) := by
  refine bArr_set fun i hi => ?_
  have hlt := nextP_lt D l j hj
  cases all
  · by_cases e : i = tkS (l.take j) + k
    · subst e
      have : ¬ (tkS (l.take j) + k) ∈ nextP D l j := fun h => by have := hlt _ h; omega
      simp [part, this]
    · simp [part, e]
  · by_cases e : i = tkS (l.take j) + k
    · subst e
      have : tkS (l.take j) + k ∈ plcs (tkS (l.take j)) (k + 1) := plcs_mem.2 (by omega)
      simp [part, this]
    · have : i ∈ plcs (tkS (l.take j)) (k + 1) ↔ i ∈ plcs (tkS (l.take j)) k := by rw [plcs_mem, plcs_mem]; omega
      rw [if_neg e]
      simp [part, this]
theorem filt_succ (D : List Nat) (r : Int) (k : Nat) : (((List.range (k + 1)).filter fun x => D.contains x).map fun (x : Nat) => (r, (x : Int))) = (((List.range k).filter fun x => D.contains x).map fun (x : Nat) => (r, (x : Int))) ++ (if D.contains k = true then [(r, (k : Int))] else []) := by
  rw [List.range_succ, List.filter_append, List.map_append]
  cases h : D.contains k
  · rw [if_neg (by simp), List.filter_cons_of_neg (by rw [h]; simp)]; rfl
  · rw [if_pos rfl, List.filter_cons_of_pos (by rw [h])]; rfl
theorem bArr_one1 (a : Nat) : (bArr []).setIfInBounds a (.bool true) = bArr [a] := bArr_set fun i _ => by by_cases e : i = a <;> simp [e]
set_option maxHeartbeats 4000000 in
theorem c_l05Ladder (g a N : Nat) (cast above : Int) (A : Option Addr) (cap : Nat) (L : List (List UInt8)) (w : World) (hF : FabAt w cast A cap L) (hV : FabV cast L) (hg : w.heap[g]? = some (.cells #[.int .i16 cast, .slice A L.length cap] 27 (0, 0)))
    (ha : a < widN cast L L.length) (hN : N ≤ L.length + 1) (hab : above = (L.length : Int) - (N : Int)) :
    Calls Try.prog 31 #[.pointer (some ⟨g, 0, none⟩), .int .i64 (a : Int), .int .i64 above] w fun e w' => ∃ v, e = .returned v ∧ w'.ownsRow w.heap.size 39 2 v (ladU L a N).length (lpRow (ladU L a N)) ∧ Below w.heap.size w w' := by
  have HF := Lib.hid hF
  have HV := Lib.hid hV
  have hn := hV.num
  have HG := Lib.hid hg
  have hw60 := hV.wid L.length (Nat.le_refl _)
  have a60 : (a : Int) < 60 := by omega
  have a0 : (0 : Int) ≤ (a : Int) := by omega
  have CW := Lib.hid (fun w' h h2 => c_l05Widths g cast A cap L w' h hV h2)
  have hal : ((w.alloc (.cells #[] 39 (0, 0))).alloc (.cells (bArr []) 97 (0, 0))).heap[w.heap.size + 1]? = some (.cells (bArr []) 97 (0, 0)) := by
    have := heap_alloc_new (w.alloc (.cells #[] 39 (0, 0))) (.cells (bArr []) 97 (0, 0))
    rwa [World.size_alloc] at this
  have HAL := Lib.hid hal
  have HAB := Lib.hid hab
  clear hF hV hg hal hab
  go_enter Try.func31, Try.ntmps31
  go_wp2_with (first
    | (refine ev_build0 rfl 97 rfl (bArr []) built_b ?_)
    | (refine ev_alloc0 rfl 97 rfl (bArr []) zero_b (w.heap.size + 1) (by simp) ?_)
    | (refine ev_store_row rfl 97 (.tmp 8) (.tmp 22) rfl (w.heap.size + 1) (bArr []) rfl rfl 97 (bArr []) HAL.out (info_b _) rfl (bArr_one _) ?_; intro w2 hblk ht; have H8 := Lib.hid hblk; have HZ2 : Hid (w.heap.size + 1 < w2.heap.size) := blk_lt hblk; have HB2 := Lib.hid ((below_alloc (below_alloc (Below.refl w.heap.size w) (.cells #[] 39 (0, 0))) (.cells (bArr []) 97 (0, 0))).trans (ht.below (Nat.le_succ _))); have HO := Lib.hid (own_touT (own_empty (blk_alloc (heap_alloc_new w (.cells #[] 39 (0, 0))) (.cells (bArr []) 97 (0, 0))) (Nat.le_refl _) (size := 2)) HAL.out (by decide) ht); have xa := bArr_cell hblk (j := a) (by omega); have fa := blk_frozen hblk a; clear hblk ht)
    | (go_at_call 25; have HT := Lib.hid (Tou.setCell w2 (w.heap.size + 1) a (.bool true)); have HB2 := Lib.hid (HB2.out.trans (HT.out.below (Nat.le_succ _))); have H82 := Lib.hid ((blk_set H8.out a (.bool true)).trans (congrArg (fun c => some (Obj.cells c 97 (0, 0))) (bArr_one1 a))); have HO := Lib.hid (own_touT HO.out H8.out (by decide) HT.out); clear HT; ((refine (CW.out _ (HF.out.below HB2.out) (blk_below HG.out HB2.out)).mono ?_); rintro e w3 ⟨vW, rfl, hO3, hb3⟩; obtain ⟨AW, cW, rfl, hAW⟩ := own_form hO3; obtain ⟨gW, rfl, _⟩ := hAW (Nat.succ_pos _); clear hAW; have HO3 := Lib.hid (own_mono hO3 HB2.out.size); have HO2 := Lib.hid (own_below HO.out hb3); have H83 := Lib.hid (blk_below H82.out hb3); have HB3 := Lib.hid (below_then HB2.out hb3); clear hO3 hb3 xa fa)))
  clear HO HB2 H8 H82 HAL CW HZ2
  have Hwb := Lib.hid hw60
  go_loopw [10, 7] (fun r v wr => ∃ i rn : Nat, Hid (rn + i = L.length) ∧ i ≤ N ∧ r = .int .i64 (rn : Int) ∧ Hid (wr.ownsRow w.heap.size 39 2 v (ladU L a i).length (lpRow (ladU L a i))) ∧ Hid (wr.heap[w.heap.size + 1]? = some (.cells (bArr (dropD L a i)) 97 (0, 0))) ∧ Hid (wr.ownsRow w.heap.size 2 1 (.slice (some ⟨gW, 0, none⟩) (L.length + 1) cW) (L.length + 1) (nums .i64 (widL cast L (L.length + 1)))) ∧ Hid (Below w.heap.size w wr)) (fun r _ _ => (intOf r).toNat)
  case atStart => exact ⟨0, L.length, rfl, by omega, by go_num, HO2, H83, HO3, HB3⟩
  case round =>
    obtain ⟨i, rn, hri, hiN, rfl, hO, h8, hW, hB⟩ := hrel
    have hab := HAB.out
    have hrl := hri.out
    by_cases hlt : i < N
    · have d1 : decide (above < (rn : Int)) = true := by simp; omega
      have r30 : (rn : Int) ≤ 30 := by omega
      have r0 : (0 : Int) ≤ (rn : Int) := by omega
      have r1 : (rn : Int) < (L.length : Int) + 1 := by omega
      have hsucc : Hid (ladU L a (i + 1) = ladU L a i ++ (dropD L a i).map fun (k : Nat) => ((rn : Int), (k : Int))) := by
        rw [Hid, ladU, show L.length - i = rn by omega]
      have hDlt : ∀ x ∈ dropD L a i, x < widN cast L rn := by
        have := dropD_lt HV.out ha i (by omega)
        rwa [show L.length - i = rn by omega] at this
      have hflt := Lib.hid (filter_sorted (widN cast L rn) (dropD L a i) (dropD_sort L a i) hDlt)
      have hwr := HV.out.wid rn (by omega)
      have hlen0 := ladU_len HV.out ha i (by omega)
      have HGW := Lib.hid (widL_get (cast := cast) (L := L) (show rn < L.length + 1 by omega))
      have xW := (own_get hW.out HGW.out).1
      clear hab hrl
      generalize hwd : widN cast L rn = wd at *
      have hi30 : (ladU L a i).length ≤ 1860 := by omega
      clear hlen0
      generalize hX : ladU L a i = X at *
      generalize hD : dropD L a i = D at *
      go_wp2
      go_loopw [11, 7] (fun x v wr => ∃ k : Nat, k ≤ wd ∧ x = .int .i64 (k : Int) ∧ ∃ Y, Y = X ++ ((List.range k).filter fun x => D.contains x).map (fun (x : Nat) => ((rn : Int), (x : Int))) ∧ Hid (wr.ownsRow w.heap.size 39 2 v Y.length (lpRow Y)) ∧ Hid (wr.heap[w.heap.size + 1]? = some (.cells (bArr D) 97 (0, 0))) ∧ Hid (wr.ownsRow w.heap.size 2 1 (.slice (some ⟨gW, 0, none⟩) (L.length + 1) cW) (L.length + 1) (nums .i64 (widL cast L (L.length + 1)))) ∧ Hid (Below w.heap.size w wr)) (fun x _ _ => wd - (intOf x).toNat)
      case atStart => exact ⟨0, by omega, by go_num, X, by simp, hO, h8, hW, hB⟩
      case round =>
        obtain ⟨k, hk, rfl, Y, hY, hO, h8, hW, hB⟩ := hrel
        have xW := (own_get hW.out HGW.out).1
        by_cases hkw : k < wd
        · have d2 : decide ((k : Int) < (wd : Int)) = true := by simp; omega
          have xk := bArr_cell h8.out (j := k) (by omega)
          have k0 : (0 : Int) ≤ (k : Int) := by omega
          have k60 : (k : Int) < 60 := by omega
          have hYl : Y.length ≤ 1860 + k := by
            rw [hY, List.length_append, List.length_map]
            have := List.length_filter_le (fun x => D.contains x) (List.range k)
            rw [List.length_range] at this
            omega
          cases hc : D.contains k
          · rw [hc] at xk
            have HY : Hid (Y = X ++ ((List.range (k + 1)).filter fun x => D.contains x).map (fun (x : Nat) => ((rn : Int), (x : Int)))) := by rw [Hid, filt_succ, hc, if_neg (by simp), List.append_nil, hY]
            clear hc hY
            go_wp2
            go_roundw
            case rel => exact ⟨k + 1, by omega, by go_num, Y, HY.out, hO, h8, hW, hB⟩
            case measure => simp [intOf]; omega
          · rw [hc] at xk
            have HY : Hid (Y ++ [((rn : Int), (k : Int))] = X ++ ((List.range (k + 1)).filter fun x => D.contains x).map (fun (x : Nat) => ((rn : Int), (x : Int)))) := by rw [Hid, filt_succ, hc, if_pos rfl, hY, List.append_assoc]
            have hz := hB.out.size
            clear hc hY
            go_wp2_with (first
              | (at_builtin; refine ap1 rfl (.tmp 50) (.tmp 56) 34 39 rfl ((.agg #[.int .i16 0, .int .i16 0])) 2 4 w.heap.size Try.underlying34 (by kernel_rfl) rfl (by decide) u7 Y.length (lpRow Y) [.int .i16 (rn : Int), .int .i16 (k : Int)] rfl rfl (by simp) rfl rfl hO.out hz (by omega) (by omega) ?_; intro g6 d6 w6 hown hg6 hat; have HB6 := Lib.hid (below_grown hB.out hg6 hO.out (Nat.le_refl _) hz); have HO6 := Lib.hid hown; have H86 := Lib.hid (blk_grownT h8.out hO.out (by decide) hg6); have HW6 := Lib.hid (row_grown3 hW.out hO.out (by decide) hg6); clear hown hat hg6))
            go_roundw
            case rel => exact ⟨k + 1, by omega, by go_num, _, HY.out, by rw [lpRow_snoc, List.length_append]; exact HO6, H86, HW6, HB6⟩
            case measure => simp [intOf]; omega
        · obtain rfl : k = wd := by omega
          have d2 : decide ((k : Int) < (k : Int)) = false := by simp
          have hY2 := hflt.out ▸ hY
          have HY : Hid (Y = ladU L a (i + 1)) := hY2.trans hsucc.out.symm
          clear hY2
          by_cases hr0 : rn = 0
          · have hE : Hid (ladU L a N = Y) := by
              have := hri.out
              show ladU L a N = Y
              rw [HY.out, show N = i + 1 by omega]
            subst hr0
            clear hY
            go_wp2
            exact bodyPost_ret (v := u7) (by simp [results, Try.results31, go_sem]) rfl ⟨_, rfl, by rw [hE.out]; exact hO.out, hB.out⟩
          · obtain ⟨q, rfl⟩ : ∃ q, rn = q + 1 := ⟨rn - 1, by omega⟩
            have hqi := hri.out
            have hq : q < L.length := by omega
            have q0 : (0 : Int) ≤ (q : Int) := by omega
            have q1 : (q : Int) < (L.length : Int) := by omega
            have q2 : ¬ ((q : Int) + 1 = 0) := by omega
            have x1 : wr.cell? ⟨g, 1, none⟩ = some (.slice A L.length cap) := blk_cell (blk_below HG.out hB.out) 1
            obtain ⟨ad, rfl, c0⟩ := (HF.out.row.below hB.out) q _ (strs_get hq)
            obtain ⟨sv, hsv⟩ := HV.out.row q hq
            have hl120 := HV.out.len q hq
            have hmk : mkS (L.getD q []) = k := by rw [HV.out.wd q hq]; exact hwd
            have htk := HV.out.tk q hq
            have htk60 := HV.out.wid q (by omega)
            have HN : Hid (dropD L a (i + 1) = nextP D (L.getD q []) (L.getD q []).length) := by rw [Hid, dropD, hD, show L.length - 1 - i = q by omega]
            rw [← htk] at htk60
            clear htk hqi hX hD hwd hY hsucc hflt HGW hDlt
            generalize L.getD q [] = l at *
            have hst : Hid (∀ (j : Nat) (h : j < l.length), ∃ s, stT l[j] = some s) := fun j h => rowS_st hsv h
            clear hsv sv
            have hsz : (str l).size = l.length := str_size l
            obtain ⟨G, hG⟩ : ∃ G, wr.heap.size = G := ⟨_, rfl⟩
            have hz := hB.out.size
            have h8lt := blk_lt h8.out
            have HAL := Lib.hid (show (wr.alloc (.cells (bArr []) 97 (0, 0))).heap[G]? = some (.cells (bArr []) 97 (0, 0)) from hG ▸ heap_alloc_new wr _)
            have HGG := Lib.hid hG
            have HG8 : Hid (w.heap.size + 1 < G) := by rw [Hid, ← hG]; exact h8lt
            have HGz : Hid (w.heap.size ≤ G) := by rw [Hid, ← hG]; exact hz
            clear hG hz h8lt
            go_wp2_with (first
              | (refine ev_build0 rfl 97 rfl (bArr []) built_b ?_)
              | (refine ev_alloc0 rfl 97 rfl (bArr []) zero_b G HGG.out ?_)
              | (refine ev_store_row rfl 97 (.tmp 12) (.tmp 60) rfl G (bArr []) rfl rfl 97 (bArr []) HAL.out (info_b _) rfl (bArr_one _) ?_; intro w5 hblk ht; have H12 := Lib.hid hblk; have hb5 := (below_alloc (Below.refl wr.heap.size wr) (.cells (bArr []) 97 (0, 0))).trans (ht.below (Nat.le_of_eq HGG.out)); have H85 := Lib.hid (blk_below h8.out hb5); have HO5 := Lib.hid (own_below hO.out hb5); have HW5 := Lib.hid (own_below hW.out hb5); have x15 : w5.cell? ⟨g, 1, none⟩ = some (.slice (some ad) L.length cap) := blk_cell (blk_below HG.out (below_then hB.out hb5)) 1; have c5 := (hb5.cell (World.block_lt_of_cell? _ _ c0)).trans c0; have HB5 := Lib.hid (below_then hB.out hb5); clear hblk ht hb5))
            clear HAL HGG c0 x1 xW h8 hO hW hB
            go_loopw [16, 14, 15] (fun x y z wr => ∃ j : Nat, j ≤ l.length ∧ x = .int .i64 (j : Int) ∧ y = .int .i64 (tkS (l.take j) : Int) ∧ z = .int .i64 (mkS (l.take j) : Int) ∧ Hid (wr.ownsRow w.heap.size 39 2 u7 Y.length (lpRow Y)) ∧ Hid (wr.heap[w.heap.size + 1]? = some (.cells (bArr D) 97 (0, 0))) ∧ Hid (wr.ownsRow w.heap.size 2 1 (.slice (some ⟨gW, 0, none⟩) (L.length + 1) cW) (L.length + 1) (nums .i64 (widL cast L (L.length + 1)))) ∧ Hid (wr.heap[G]? = some (.cells (bArr (nextP D l j)) 97 (0, 0))) ∧ Hid (Below w.heap.size w wr)) (fun x _ _ _ => l.length - (intOf x).toNat)
            case atStart => exact ⟨0, by omega, by go_num, by simp [tkS], by simp [mkS], HO5, H85, HW5, H12, HB5⟩
            case round =>
              obtain ⟨j, hj, rfl, rfl, rfl, hO, h8, hW, h12, hB⟩ := hrel
              by_cases hjl : j < l.length
              · have d3 : decide ((j : Int) < (l.length : Int)) = true := by simp; omega
                obtain ⟨c, hcc⟩ : ∃ c, l[j]'hjl = c := ⟨_, rfl⟩
                have hgk : ∀ h, (str l)[j]'h = c := fun h => (str_get l j h hjl).trans hcc
                obtain ⟨s, hs⟩ := hst.out j hjl
                rw [hcc] at hs
                obtain ⟨s1, s2, s3, s4, -⟩ := stT_N hs
                have htS := tkS_take hjl
                have hmS := mkS_take hjl
                have htL := takS_le l (j + 1)
                have hmL := makS_le l (j + 1)
                rw [hcc] at htS hmS
                have CT := fun w => Lib.hid (s1 ▸ c_l05Takes c w)
                have CM := fun w => Lib.hid (s2 ▸ c_l05Makes c w)
                have HNX : Hid (part D l j (fits D (mkS (l.take j)) (mkN c)) (tkN c) = nextP D l (j + 1)) := by
                  have := part_all (D := D) hjl
                  rwa [hcc] at this
                have HPS := Lib.hid (fun all k => part_set (D := D) (l := l) (j := j) (by omega) all k)
                have HP0 := Lib.hid (fun all => part_zero D l j all)
                have HFT := Lib.hid (fits_zero D (mkS (l.take j)) (mkN c))
                have HTS := Lib.hid htS
                have HMS := Lib.hid hmS
                have m60 : mkS (l.take j) + mkN c ≤ 60 := by omega
                have t60 : tkS (l.take j) + tkN c ≤ 60 := by omega
                have j0 : (0 : Int) ≤ (j : Int) := by omega
                have j1 : (j : Int) < (l.length : Int) := by omega
                clear hs s s1 s2 htS hmS htL hmL hcc
                generalize tkS (l.take j) = fr at *
                generalize mkS (l.take j) = to at *
                generalize tkN c = tn at *
                generalize mkN c = mn at *
                go_wp2_with (first
                  | (go_at_call 39; ((with_reducible refine (CM _).out.mono ?_); rintro e w6 ⟨rfl, rfl⟩)))
                go_loop [19, 18] (fun x y => ∃ k : Nat, k ≤ mn ∧ x = .int .i64 (k : Int) ∧ y = .bool (decide (0 < mn) && (List.range k).all fun k => D.contains (to + k))) (fun x _ => mn - (intOf x).toNat)
                case atStart => exact ⟨0, by omega, by go_num, by simp⟩
                case round =>
                  obtain ⟨k, hk, rfl, rfl⟩ := hrel
                  by_cases hkm : k < mn
                  · have d4 : decide ((k : Int) < (mn : Int)) = true := by simp; omega
                    have xk := bArr_cell h8.out (j := to + k) (by omega)
                    have k60 : (to : Int) + (k : Int) < 60 := by omega
                    have k00 : (0 : Int) ≤ (to : Int) + (k : Int) := by omega
                    have HS := Lib.hid (all_succ D to k (decide (0 < mn)))
                    generalize (decide (0 < mn) && (List.range k).all fun k => D.contains (to + k)) = b at *
                    generalize D.contains (to + k) = b2 at *
                    cases b
                    · go_wp2
                      go_round
                      case rel => exact ⟨k + 1, by omega, by go_num, by rw [HS.out]; rfl⟩
                      case measure => simp [intOf]; omega
                    · go_wp2
                      go_round
                      case rel => exact ⟨k + 1, by omega, by go_num, by rw [HS.out]; rfl⟩
                      case measure => simp [intOf]; omega
                  · obtain rfl : k = mn := by omega
                    have d4 : decide ((k : Int) < (k : Int)) = false := by simp
                    rw [← HFT.out]
                    generalize fits D to k = all at *
                    go_wp2
                    have H12' : Hid (wr.heap[G]? = some (.cells (bArr (part D l j all 0)) 97 (0, 0))) := by rw [Hid, HP0.out]; exact h12.out
                    have HO9 := hO
                    have H89 := h8
                    have HW9 := hW
                    have HB9 := hB
                    clear hO h8 hW h12 hB HP0
                    go_loopw [20] (fun x wr => ∃ q : Nat, q ≤ tn ∧ x = .int .i64 (q : Int) ∧ Hid (wr.ownsRow w.heap.size 39 2 u7 Y.length (lpRow Y)) ∧ Hid (wr.heap[w.heap.size + 1]? = some (.cells (bArr D) 97 (0, 0))) ∧ Hid (wr.ownsRow w.heap.size 2 1 (.slice (some ⟨gW, 0, none⟩) (L.length + 1) cW) (L.length + 1) (nums .i64 (widL cast L (L.length + 1)))) ∧ Hid (wr.heap[G]? = some (.cells (bArr (part D l j all q)) 97 (0, 0))) ∧ Hid (Below w.heap.size w wr)) (fun x _ => tn - (intOf x).toNat)
                    case atStart => exact ⟨0, by omega, by go_num, HO9, H89, HW9, H12', HB9⟩
                    case round =>
                      obtain ⟨q, hq2, rfl, hO, h8, hW, h12, hB⟩ := hrel
                      by_cases hqt : q < tn
                      · have d5 : decide ((q : Int) < (tn : Int)) = true := by simp; omega
                        have xk := bArr_cell h12.out (j := fr + q) (by omega)
                        have fk := blk_frozen h12.out (fr + q)
                        have q60 : (fr : Int) + (q : Int) < 60 := by omega
                        have q00 : (0 : Int) ≤ (fr : Int) + (q : Int) := by omega
                        have hT : Tou G wr (wr.setCell ⟨G, fr + q, none⟩ (.bool all)) := Tou.setCell wr G (fr + q) (.bool all)
                        have H12n : Hid ((wr.setCell ⟨G, fr + q, none⟩ (.bool all)).heap[G]? = some (.cells (bArr (part D l j all (q + 1))) 97 (0, 0))) := by
                          have := blk_set h12.out (fr + q) (.bool all)
                          rwa [HPS.out] at this
                        have H8n := Lib.hid (blk_tou h8.out hT (by have := HG8.out; omega))
                        have HOn := Lib.hid (own_touT hO.out h12.out (by decide) hT)
                        have HWn := Lib.hid (own_touT hW.out h12.out (by decide) hT)
                        have HBn := Lib.hid (hB.out.trans (hT.below HGz.out))
                        clear hT
                        go_wp2_with (first
                          | (go_at_call 38; ((with_reducible refine (CT _).out.mono ?_); rintro e w6 ⟨rfl, rfl⟩)))
                        go_roundw
                        case rel => exact ⟨q + 1, by omega, by go_num, HOn, H8n, HWn, H12n, HBn⟩
                        case measure => simp [intOf]; omega
                      · obtain rfl : q = tn := by omega
                        have d5 : decide ((q : Int) < (q : Int)) = false := by simp
                        have H12n : Hid (wr.heap[G]? = some (.cells (bArr (nextP D l (j + 1))) 97 (0, 0))) := by rw [Hid, ← HNX.out]; exact h12.out
                        go_wp2_with (first
                          | (go_at_call 38; ((with_reducible refine (CT _).out.mono ?_); rintro e w6 ⟨rfl, rfl⟩)))
                        go_roundw
                        case rel => exact ⟨j + 1, by omega, by go_num, by rw [HTS.out]; go_num, by rw [HMS.out]; go_num, hO, h8, hW, H12n, hB⟩
                        case measure => simp [intOf]; omega
              · obtain rfl : j = l.length := by omega
                have d3 : decide ((l.length : Int) < (l.length : Int)) = false := by simp
                have HI := Lib.hid (info_b (nextP D l l.length))
                have h8n := h8
                go_wp2_with (first
                  | (refine wpList_load_row rfl 97 (.tmp 12) rfl (G) rfl 97 _ (0, 0) _ h12.out Try.underlying97 rfl HI.out ?_)
                  | (refine ev_store_row rfl 97 (.tmp 8) (.tmp 116) rfl (w.heap.size + 1) (bArr (nextP D l l.length)) rfl rfl 97 (bArr D) h8.out (info_b _) (by rw [bArr_size, bArr_size]) (bArr_one _) ?_; intro w7 hblk ht; have H8n := Lib.hid hblk; have HOn := Lib.hid (own_touT hO.out h8.out (by decide) ht); have HWn := Lib.hid (own_touT hW.out h8.out (by decide) ht); have HBn := Lib.hid (hB.out.trans (ht.below (Nat.le_succ _))); clear hblk ht))
                go_roundw
                case rel => exact ⟨i + 1, q, by have := hri.out; show q + (i + 1) = L.length; omega, by omega, by go_num, by rw [← HY.out]; exact HOn, by rw [HN.out]; exact H8n, HWn, HBn⟩
                case measure => simp [intOf]
    · obtain rfl : i = N := by omega
      have d1 : decide (above < (rn : Int)) = false := by simp; omega
      go_wp2
      exact bodyPost_ret (v := u7) (by simp [results, Try.results31, go_sem]) rfl ⟨_, rfl, hO.out, hB.out⟩
end Go.Proofs.Ytepdgbgolopejaa
