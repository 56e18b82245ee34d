/- Holes out of a text: the program's function. -/
import Derived.Test.YtcbegcekdmmjpaaReadPure
import Derived.Test.YtcbegcekdmmjpaaHolesLater
import Derived.Test.YtcbegcekdmmjpaaSplitWalk
namespace Go.Proofs.Ytcbegcekdmmjpaa
open Go.RowKit
set_option linter.unusedVariables false
set_option linter.unusedSimpArgs false
set_option maxRecDepth 100000

/-- What the closure of ReadHoles knows. -/
structure StR (t : List UInt8) (B g0 gR g2 : Nat) (w0 : World) (n : Nat) (w : World) : Prop where
  hT : w.heap[g0]? = some (.cells #[.string (str t)] 9 (0, 0))
  hR : w.heap[gR]? = some (.cells (nums .u8 noHoles).toArray 25 (0, 0))
  hO : w.heap[g2]? = some (.cells (nums .u8 (mkN (fT t) n)).toArray 25 (0, 0))
  hB : Below B w0 w
theorem StR.drew {t : List UInt8} {B g0 gR g2 n : Nat} {w0 w : World} (h : StR t B g0 gR g2 w0 n w) : StR t B g0 gR g2 w0 n w.drew := ⟨h.hT, h.hR, h.hO, below_drew h.hB⟩
theorem StR.same {t : List UInt8} {B g0 gR g2 k j : Nat} {w0 w : World} (h : StR t B g0 gR g2 w0 (8 * k + j) w) (hj : j < 8) (hn : fT t j k = false) : StR t B g0 gR g2 w0 (8 * k + j + 1) w :=
  ⟨h.hT, h.hR, by rw [mkN_no hj hn]; exact h.hO, h.hB⟩
theorem StR.add {t : List UInt8} {B g0 gR g2 k j : Nat} {w0 w : World} (h : StR t B g0 gR g2 w0 (8 * k + j) w) (hb2 : B ≤ g2) (h02 : g0 ≠ g2) (hR2 : gR ≠ g2) (hk : k < 8) (hj : j < 8) (hn : fT t j k = true) :
    StR t B g0 gR g2 w0 (8 * k + j + 1) (w.setCell ⟨g2, k, none⟩ (.int .u8 (bits .or .u8 (gi (mkN (fT t) (8 * k + j)) k) (2 ^ j)))) := by
  refine ⟨blk_far h.hT h02 _ _, blk_far h.hR hR2 _ _, ?_, h.hB.setCell (by simpa using hb2) _⟩
  have := blk_set h.hO k (.int .u8 (bits .or .u8 (gi (mkN (fT t) (8 * k + j)) k) (2 ^ j)))
  rw [nums_set] at this
  rw [mkN_yes hk hj hn]
  exact this

set_option maxHeartbeats 1600000 in
theorem c_read1 (t : List UInt8) (ht : t.length = 72) (B g0 gR g2 : Nat) (w0 : World) (hb2 : B ≤ g2) (h02 : g0 ≠ g2) (hR2 : gR ≠ g2) (k j : Nat) (w1 : World) (hk : k < 8) (hj : j < 8) (hI : StR t B g0 gR g2 w0 (8 * k + j) w1) :
    Calls Try.prog 27 (#[.int .i64 j, .int .i64 k] ++ #[.pointer (some ⟨g0, 0, none⟩), .pointer (some ⟨g2, 0, none⟩)]) w1 fun e w2 => e = .returned (.tuple #[]) ∧ StR t B g0 gR g2 w0 (8 * k + j + 1) w2 := by
  have H := Lib.hid hI
  have c1 := blk_cell hI.hT 0
  have c2 := nums_cell hI.hO k (by rw [(mkN8 _ _).len]; exact hk)
  have f2 := blk_frozen hI.hO k
  have hlt : 9 * k + j < t.length := by omega
  have hsz : (str t).size = t.length := str_size t
  have hq : Hid (fT t j k = decide (t[9 * k + j] = 111)) := by rw [Hid, fT, List.getElem?_eq_getElem hlt]; simp
  have hgk : ∀ h, (str t)[9 * k + j]'h = t[9 * k + j] := fun h => str_get t _ h hlt
  have i1 : (0 : Int) ≤ (k : Int) := by omega
  have i2 : (k : Int) < 8 := by omega
  have i3 : (0 : Int) ≤ (j : Int) := by omega
  have i4 : (j : Int) < 8 := by omega
  have k5 : ((k : Int) * 9 + (j : Int)).toNat = 9 * k + j := by omega
  have k6 : (0 : Int) ≤ (k : Int) * 9 + (j : Int) := by omega
  have k7 : (k : Int) * 9 + (j : Int) < (t.length : Int) := by omega
  clear hI
  show Calls Try.prog 27 #[.int .i64 j, .int .i64 k, .pointer (some ⟨g0, 0, none⟩), .pointer (some ⟨g2, 0, none⟩)] w1 _
  by_cases hc : t[9 * k + j] = 111
  · have dq : ((t[9 * k + j].toNat : Int) == 111) = true := by rw [hc]; rfl
    have HN := Lib.hid (H.out.add hb2 h02 hR2 hk hj (by rw [hq.out]; simpa using hc))
    have pw := Lib.hid (pow_mod hj)
    clear hq
    go_enter Try.func27, Try.ntmps27
    go_wp2
    go_region
    go_end0
    exact ⟨rfl, StR.drew (by rw [pw.out]; exact HN.out)⟩
  · have dq : ((t[9 * k + j].toNat : Int) == 111) = false := by
      simp only [beq_eq_false_iff_ne, ne_eq]
      intro h; exact hc (UInt8.toNat_inj.1 (by show _ = 111; omega))
    have HN := Lib.hid (H.out.same hj (by rw [hq.out]; simpa using hc))
    clear hq
    go_enter Try.func27, Try.ntmps27
    go_wp2
    go_end0
    exact ⟨rfl, HN.out⟩
theorem str_inj {a b : List UInt8} (h : str a = str b) : a = b := by
  have := congrArg ByteArray.data h
  simpa [str] using congrArg Array.toList this
theorem c_iHolesText8 (hs : List Int) (w : World) (h8 : Holes8 hs) :
    Calls Try.prog 8 #[.agg #[.int .u8 (gi hs 0), .int .u8 (gi hs 1), .int .u8 (gi hs 2), .int .u8 (gi hs 3), .int .u8 (gi hs 4), .int .u8 (gi hs 5), .int .u8 (gi hs 6), .int .u8 (gi hs 7)]] w fun e w' => e = .returned (.string (str (txtT hs 8))) ∧ Below w.heap.size w w' := by
  have := c_iHolesText hs w h8
  rw [nums_eight h8.len] at this
  exact this
set_option maxHeartbeats 2000000 in
theorem c_iReadHoles (t : List UInt8) (w : World) :
    Calls Try.prog 7 #[.string (str t)] w fun e w' => e = .returned (.tuple #[.agg (nums .u8 (readF t).1).toArray, .int .i64 (readF t).2]) ∧ Below w.heap.size w w' := by
  have hsz : (str t).size = t.length := str_size t
  have he : ∀ args w, (callFunc 27 args).run Try.prog w = .ok (.enter 27 args) w := enters_of Try.func27 (by kernel_rfl) rfl
  have HE := Lib.hid he
  have HIZ := Lib.hid (holes_info noHoles8.len)
  let W1 := w.alloc (.cells #[.string (str t)] 9 (0, 0))
  let W2 := W1.alloc (.cells (nums .u8 noHoles).toArray 25 (0, 0))
  let W3 := W2.alloc (.cells (nums .u8 noHoles).toArray 25 (0, 0))
  have z1 : W1.heap.size = w.heap.size + 1 := World.size_alloc ..
  have z2 : W2.heap.size = w.heap.size + 1 + 1 := (World.size_alloc ..).trans (by rw [z1])
  have HR2 : Hid (W2.heap[w.heap.size + 1]? = some (.cells (nums .u8 noHoles).toArray 25 (0, 0))) := by
    have := heap_alloc_new W1 (.cells (nums .u8 noHoles).toArray 25 (0, 0))
    rw [z1] at this
    exact this
  have HT3 : Hid (W3.heap[w.heap.size]? = some (.cells #[.string (str t)] 9 (0, 0))) := blk_alloc (blk_alloc (heap_alloc_new _ _) _) _
  have HR3 : Hid (W3.heap[w.heap.size + 1]? = some (.cells (nums .u8 noHoles).toArray 25 (0, 0))) := blk_alloc HR2.out _
  have HO3 : Hid (W3.heap[w.heap.size + 1 + 1]? = some (.cells (nums .u8 noHoles).toArray 25 (0, 0))) := by
    have := heap_alloc_new W2 (.cells (nums .u8 noHoles).toArray 25 (0, 0))
    rw [z2] at this
    exact this
  have HB2 : Hid (Below w.heap.size w W2) := by show Below w.heap.size w W2; exact below_alloc (below_alloc (Below.refl _ _) _) _
  have HB3 : Hid (Below w.heap.size w W3) := below_alloc HB2.out _
  clear he z1 z2
  by_cases hlen : t.length = 72
  · have d1 : ((t.length : Int) != 72) = false := by simp [hlen]
    have HM8 := Lib.hid (mk8 (fT t))
    have HIM := Lib.hid (holes_info (mk8 (fT t)).len)
    have HMN : Hid (mkN (fT t) 64 = mk (fT t)) := mkN_all _
    have HM0 : Hid (mkN (fT t) 0 = noHoles) := mkN_zero _
    have EF : Hid (readF t = if txtT (mk (fT t)) 8 = t then (mk (fT t), 0) else (noHoles, 5)) := by rw [Hid, readF, if_pos hlen]
    have HS1 := fun (k j : Nat) (w1 : World) (hk : k < 8) (hj : j < 8) hI => c_read1 t hlen w.heap.size w.heap.size (w.heap.size + 1) (w.heap.size + 1 + 1) w (by omega) (by omega) (by omega) k j w1 hk hj hI
    have HS1 := Lib.hid HS1
    go_enter Try.func7, Try.ntmps7
    go_wp2_with (first
      | (go_at_call 26; ((with_reducible refine (c_each 27 _ HE.out (fun n wr => StR t w.heap.size w.heap.size (w.heap.size + 1) (w.heap.size + 1 + 1) w n wr) (fun k j w1 hk hj hI => HS1.out k j w1 hk hj hI) _ ?_).mono ?_))))
    · exact ⟨HT3.out, HR3.out, by rw [HM0.out]; exact HO3.out, HB3.out⟩
    · rintro e w5 ⟨rfl, hI⟩
      have H5 := Lib.hid hI
      have ho := hI.hO
      rw [HMN.out] at ho
      have e0 := nums_cell ho 0 (by rw [HM8.out.len]; omega)
      have e1 := nums_cell ho 1 (by rw [HM8.out.len]; omega)
      have e2 := nums_cell ho 2 (by rw [HM8.out.len]; omega)
      have e3 := nums_cell ho 3 (by rw [HM8.out.len]; omega)
      have e4 := nums_cell ho 4 (by rw [HM8.out.len]; omega)
      have e5 := nums_cell ho 5 (by rw [HM8.out.len]; omega)
      have e6 := nums_cell ho 6 (by rw [HM8.out.len]; omega)
      have e7 := nums_cell ho 7 (by rw [HM8.out.len]; omega)
      have e8 := blk_cell hI.hT 0
      have b0 := blk_lt hI.hT
      have b2 := blk_lt hI.hO
      have HO5 := Lib.hid ho
      clear hI ho
      generalize mk (fT t) = m at *
      go_wp2
      go_region_held3 (fun w' => w'.cell? ⟨w.heap.size, 0, none⟩ = some (.string (str t)) ∧ w'.cell? ⟨w.heap.size + 1 + 1, 0, none⟩ = some (.int .u8 (gi m 0)) ∧ w'.cell? ⟨w.heap.size + 1 + 1, 1, none⟩ = some (.int .u8 (gi m 1)) ∧ w'.cell? ⟨w.heap.size + 1 + 1, 2, none⟩ = some (.int .u8 (gi m 2)) ∧ w'.cell? ⟨w.heap.size + 1 + 1, 3, none⟩ = some (.int .u8 (gi m 3)) ∧ w'.cell? ⟨w.heap.size + 1 + 1, 4, none⟩ = some (.int .u8 (gi m 4)) ∧ w'.cell? ⟨w.heap.size + 1 + 1, 5, none⟩ = some (.int .u8 (gi m 5)) ∧ w'.cell? ⟨w.heap.size + 1 + 1, 6, none⟩ = some (.int .u8 (gi m 6)) ∧ w'.cell? ⟨w.heap.size + 1 + 1, 7, none⟩ = some (.int .u8 (gi m 7))) (simp [*, go_sem])
        (first | (go_at_call 8; ((with_reducible refine (c_iHolesText8 m _ HM8.out).mono ?_); rintro e w6 ⟨rfl, hb⟩; obtain ⟨hc_, hf_, hz_⟩ := bfacts hb; (try simp only [World.size_alloc, World.size_setCell, World.size_drew] at hc_ hf_ hz_); have z0 : w.heap.size < w6.heap.size := (by omega); have z2 : w.heap.size + 1 + 1 < w6.heap.size := (by omega))))
      rename_i hHeld_
      clear hHeld_
      have hb6 : Below w5.heap.size w5 w6 := (below_drew (Below.refl _ _)).trans hb
      have H6 := Lib.hid hb6
      clear hb hb6 hc_ hf_ hz_ z0 z2 e0 e1 e2 e3 e4 e5 e6 e7 e8 HS1
      have HR6 := Lib.hid (blk_below H5.out.hR H6.out)
      have HO6 := Lib.hid (blk_below HO5.out H6.out)
      have HB6 := Lib.hid (H5.out.hB.trans (H6.out.mono (by omega)))
      by_cases htx : txtT m 8 = t
      · have dt : (@BEq.beq (List UInt8) (@List.instBEq UInt8 (@instBEqOfDecidableEq UInt8 instDecidableEqUInt8)) (txtT m 8) t) = true := by rw [htx]; simp
        simp only [str_toList, dt, Bool.not_true]
        have E : Hid (readF t = (m, 0)) := by rw [Hid, EF.out, if_pos htx]
        go_wp2_with (first
          | (refine wpList_load_row rfl 25 (.tmp 4) rfl (w.heap.size + 1 + 1) rfl 25 _ (0, 0) _ HO6.out Try.underlying25 rfl HIM.out ?_)
          | (refine ev_store_row rfl 25 (.tmp 2) (.tmp 16) rfl (w.heap.size + 1) ((nums .u8 m).toArray) rfl rfl 25 _ HR6.out HIM.out ((by simp [nums, noHoles, HM8.out.len])) (nums_one _ _) ?_; intro w1 hblk ht; have hR3 := Lib.hid hblk; clear hblk))
        refine bodyPost_ret (v := .tuple #[.agg (nums .u8 m).toArray, .int .i64 0]) (results_ct rfl _ _ (w.heap.size + 1) 25 _ (0, 0) _ rfl hR3.out Try.underlying25 rfl HIM.out rfl) rfl ⟨by rw [E.out], HB6.out.trans (ht.below (by omega))⟩
      · have dt : (@BEq.beq (List UInt8) (@List.instBEq UInt8 (@instBEqOfDecidableEq UInt8 instDecidableEqUInt8)) (txtT m 8) t) = false := by simpa using htx
        simp only [str_toList, dt, Bool.not_false]
        have E : Hid (readF t = (noHoles, 5)) := by rw [Hid, EF.out, if_neg htx]
        go_wp2_with (first
          | (refine ev_store_row rfl 25 (.tmp 2) (.tmp 15) rfl (w.heap.size + 1) (nums .u8 noHoles).toArray rfl rfl 25 (nums .u8 noHoles).toArray ?_ HIZ.out rfl (nums_one _ _) ?_; (with_reducible exact HR6.out); intro w7 hblk ht; have hR3 := Lib.hid hblk; clear hblk))
        refine bodyPost_ret (v := .tuple #[.agg (nums .u8 noHoles).toArray, .int .i64 5]) (results_ct rfl _ _ (w.heap.size + 1) 25 (nums .u8 noHoles).toArray (0, 0) _ rfl (by with_reducible exact hR3.out) Try.underlying25 rfl HIZ.out rfl) rfl ⟨by rw [E.out], HB6.out.trans (ht.below (by omega))⟩
  · have d1 : ((t.length : Int) != 72) = true := by simp; omega
    have E : Hid (readF t = (noHoles, 5)) := by rw [Hid, readF, if_neg hlen]
    go_enter Try.func7, Try.ntmps7
    go_wp2
    refine bodyPost_ret (v := .tuple #[.agg (nums .u8 noHoles).toArray, .int .i64 5]) (results_ct rfl _ _ (w.heap.size + 1) 25 (nums .u8 noHoles).toArray (0, 0) _ rfl HR2.out Try.underlying25 rfl HIZ.out rfl) rfl ⟨by rw [E.out], HB2.out⟩
end Go.Proofs.Ytcbegcekdmmjpaa
