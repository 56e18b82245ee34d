/- The program's widths of a fabric, its last row, and its stitches. -/
import Derived.Test.YtepdgbgolopejaaLadSmall
import Derived.Deep.RegionWith
import Derived.BigRegion
namespace Go.Proofs.Ytepdgbgolopejaa
open Go.RowKit
set_option linter.unusedVariables false
set_option linter.unusedSimpArgs false
set_option maxRecDepth 100000

set_option maxHeartbeats 1000000 in
theorem c_widths (cast : Int) (A : Option Addr) (cap : Nat) (L : List (List UInt8)) (w : World) (hF : FabAt w cast A cap L) (hV : FabV cast L) :
    Calls Try.prog 56 #[.agg #[.int .i16 cast, .slice A L.length cap]] w fun e w' => ∃ v, e = .returned v ∧ w'.ownsRow w.heap.size 2 1 v (L.length + 1) (nums .i64 (widL cast L (L.length + 1))) ∧ Below w.heap.size w w' := by
  obtain ⟨b0, b1⟩ := hF.bd
  have wc : IntKind.i64.wrap cast = cast := IntWalk.i64_in _ (by omega)
  have hn := hV.num
  have hc0 : cast = (widN cast L 0 : Int) := by have := hV.csb; simp only [widN]; omega
  have HF := Lib.hid hF
  have HV := Lib.hid hV
  have HC0 := Lib.hid hc0
  clear hF hV hc0
  go_enter Try.func56, Try.ntmps56
  go_wp2
  go_loopw [15, 3] (fun i v wr => ∃ k : Nat, k ≤ L.length ∧ i = .int .i64 k ∧ Hid (wr.ownsRow w.heap.size 2 1 v (k + 1) (nums .i64 (widL cast L (k + 1)))) ∧ Hid (Below w.heap.size w wr)) (fun i _ _ => L.length - (intOf i).toNat)
  case atStart => exact ⟨0, by omega, rfl, by
    have := own_of_row (w := (w.alloc (.cells #[.int .i16 cast, .slice A L.length cap] 27 (0, 0))).alloc (.cells #[.int .i64 cast] 2 (0, 0))) (base := w.heap.size) (g := w.heap.size + 1) (size := 1) (n := 1) (by have := heap_alloc_new (w.alloc (.cells #[.int .i16 cast, .slice A L.length cap] 27 (0, 0))) (.cells #[.int .i64 cast] 2 (0, 0)); rwa [World.size_alloc] at this) rfl (Nat.le_succ _) (by decide)
    rw [Hid]
    rw [show nums .i64 (widL cast L 1) = [.int .i64 cast] by rw [show widL cast L 1 = [(widN cast L 0 : Int)] from rfl, ← HC0.out]; rfl]
    exact this, below_alloc (below_alloc (Below.refl _ _) _) _⟩
  case round =>
    obtain ⟨k, hk, rfl, hI, hB⟩ := hrel
    by_cases hlt : k < L.length
    · have d1 : decide ((k : Int) < (L.length : Int)) = true := by simp; omega
      have k0 : (0 : Int) ≤ (k : Int) := by omega
      have k1 : (k : Int) < (L.length : Int) := by omega
      obtain ⟨ad, rfl, c0⟩ := (HF.out.row.below hB.out) k _ (strs_get hlt)
      have hz := hB.out.size
      obtain ⟨a, ha⟩ := HV.out.row k hlt
      have CR : Hid (Calls Try.prog 47 #[.string (str (L.getD k []))] wr fun e w' => e = .returned (.tuple #[.agg #[.int .i64 a.1, .int .i64 (widN cast L (k + 1) : Int), .int .i64 a.2.2], .bool true]) ∧ Below wr.heap.size wr w') := by
        refine (c_rowOf _ (HF.out.len _ (getD_mem hlt)) wr).mono fun e w' h => ?_
        rw [(rowV_some ha).1, (rowV_some ha).2] at h
        rw [← HV.out.wd k hlt, ← (rowS_all ha).2]
        exact h
      have HS := Lib.hid (widL_succ cast L (k + 1))
      clear ha
      generalize (widN cast L (k + 1) : Int) = m at *
      generalize L.getD k [] = l at *
      obtain ⟨a0, a1, a2⟩ := a
      go_wp2_with (first
        | (go_at_call 47; ((with_reducible refine CR.out.mono ?_); rintro e w1 ⟨rfl, hb⟩; have HO1 := Lib.hid ((own_below hI.out hb).alloc (.cells #[.int .i64 a0, .int .i64 m, .int .i64 a2] 71 (0, 0))); have HB1 := Lib.hid (below_alloc (below_then hB.out hb) (.cells #[.int .i64 a0, .int .i64 m, .int .i64 a2] 71 (0, 0))); have hs1 := HB1.out.size; clear hb))
        | (at_builtin; refine ap1 rfl (.tmp 24) (.tmp 27) 29 2 rfl (.int .i64 0) 1 8 w.heap.size Try.underlying29 (by kernel_rfl) rfl (by decide) u3 (k + 1) (nums .i64 (widL cast L (k + 1))) [.int .i64 m] rfl rfl (by simp) rfl rfl HO1.out hs1 (by omega) (by omega) ?_; intro g3 d3 w5 hown hg3 hat; have hB5 := Lib.hid (below_grown HB1.out hg3 HO1.out (Nat.le_refl _) hs1); have hO5 := Lib.hid hown; clear hown hat hg3))
      go_roundw
      case rel => exact ⟨k + 1, by omega, by go_num, by rw [HS.out]; exact hO5, hB5⟩
      case measure => simp [intOf]; omega
    · obtain rfl : k = L.length := by omega
      have d1 : decide ((L.length : Int) < (L.length : Int)) = false := by simp
      go_wp2
      exact bodyPost_ret (v := u3) (by simp [results, Try.results56, go_sem]) rfl ⟨_, rfl, hI.out, hB.out⟩
theorem c_last (cast : Int) (A : Option Addr) (cap : Nat) (L : List (List UInt8)) (w : World) (hF : FabAt w cast A cap L) (hV : FabV cast L) :
    Calls Try.prog 27 #[.agg #[.int .i16 cast, .slice A L.length cap]] w fun e w' => e = .returned (.int .i64 (widN cast L L.length : Int)) ∧ Below w.heap.size w w' := by
  have hb0 : Below w.heap.size w (w.alloc (.cells #[.int .i16 cast, .slice A L.length cap] 27 (0, 0))) := below_alloc (Below.refl _ _) _
  have CW := Lib.hid (fun w' h => c_widths cast A cap L w' h hV)
  have HF := Lib.hid (hF.below hb0)
  have hn := hV.num
  have HA := Lib.hid (heap_alloc_new w (.cells #[.int .i16 cast, .slice A L.length cap] 27 (0, 0)))
  have HB := Lib.hid hb0
  have HG := Lib.hid (widL_get (cast := cast) (L := L) (show L.length < L.length + 1 by omega))
  clear hF hV hb0
  generalize widN cast L L.length = m at *
  go_enter Try.func27, Try.ntmps27
  go_wp2
  go_region_with
    (first
      | (go_at_call 56; ((refine (CW.out _ (HF.out.below (below_drew (Below.refl _ _)))).mono ?_); rintro e w1 ⟨v, rfl, hO, hb⟩; obtain ⟨A1, c1, rfl, hA1⟩ := own_form hO; obtain ⟨g1, rfl, _⟩ := hA1 (Nat.succ_pos _); have x1 := (own_get hO HG.out).1; have HB1 := Lib.hid (below_then (below_drew HB.out) hb); have HA1 := Lib.hid (blk_below (w := (w.alloc (.cells #[.int .i16 cast, .slice A L.length cap] 27 (0, 0))).drew) (by exact HA.out) hb); have y0 := blk_cell HA1.out 0; have y1 := blk_cell HA1.out 1; clear hO hA1 hb)))
  all_goals go_wp2
  all_goals exact bodyPost_ret (v := .int .i64 (m : Int)) (by simp [results, Try.results27, go_sem]) rfl ⟨rfl, HB1.out⟩
/-- The cells of a row's stitches. -/
def stiC (l : List UInt8) (j : Nat) : List Value := [.int .i64 (tkN (l.getD j 0) : Int), .int .i64 (mkN (l.getD j 0) : Int), .int .i64 (stV (l.getD j 0)).2.2, .int .i64 (tkS (l.take j) : Int), .int .i64 (mkS (l.take j) : Int)]
def stiRow (l : List UInt8) : Nat → List Value
  | 0 => []
  | k + 1 => stiRow l k ++ stiC l k
theorem stiRow_len (l : List UInt8) : ∀ k, (stiRow l k).length = k * 5
  | 0 => rfl
  | k + 1 => by rw [stiRow, List.length_append, stiRow_len l k]; simp [stiC]; omega
theorem stiRow_get (l : List UInt8) : ∀ k j, j < k → ∀ i, i < 5 → (stiRow l k)[j * 5 + i]? = (stiC l j)[i]?
  | 0, j, hj, _, _ => by omega
  | k + 1, j, hj, i, hi => by
    rw [stiRow]
    by_cases e : j = k
    · subst e
      rw [List.getElem?_append_right (by rw [stiRow_len]; omega), stiRow_len, show j * 5 + i - j * 5 = i by omega]
    · rw [List.getElem?_append_left (by rw [stiRow_len]; omega)]
      exact stiRow_get l k j (by omega) i hi
set_option maxHeartbeats 1000000 in
theorem c_stitches (l : List UInt8) (hl : l.length ≤ 1000) (hs : ∃ a, rowS l = some a) (w : World) :
    Calls Try.prog 34 #[.string (str l)] w fun e w' => ∃ v, e = .returned v ∧ w'.ownsRow w.heap.size 73 5 v l.length (stiRow l l.length) ∧ Below w.heap.size w w' := by
  obtain ⟨a, ha⟩ := hs
  have hst : Hid (∀ (j : Nat) (h : j < l.length), ∃ s, stT l[j] = some s) := fun j h => rowS_st ha h
  have hsz : (str l).size = l.length := str_size l
  have hbd := rowS_bd _ _ ha
  have hal := rowS_all ha
  have htk : tkS l ≤ 2000 := by omega
  have hmk : mkS l ≤ 2000 := by omega
  clear ha hbd hal
  go_enter Try.func34, Try.ntmps34
  go_wp2
  go_loopw [11, 3, 4, 5] (fun i v x y wr => ∃ k : Nat, k ≤ l.length ∧ i = .int .i64 k ∧ x = .int .i64 (tkS (l.take k) : Int) ∧ y = .int .i64 (mkS (l.take k) : Int) ∧ Hid (wr.ownsRow w.heap.size 73 5 v k (stiRow l k)) ∧ Hid (Below w.heap.size w wr)) (fun i _ _ _ _ => l.length - (intOf i).toNat)
  case atStart => exact ⟨0, by omega, rfl, by simp [tkS], by simp [mkS], own_nil _ _ _ _, Below.refl _ _⟩
  case round =>
    obtain ⟨k, hk, rfl, rfl, rfl, hI, hB⟩ := hrel
    by_cases hlt : k < l.length
    · have d1 : decide ((k : Int) < (l.length : Int)) = true := by simp; omega
      obtain ⟨c, hcc⟩ : ∃ c, l[k]'hlt = c := ⟨_, rfl⟩
      have hgk : ∀ h, (str l)[k]'h = c := fun h => (str_get l k h hlt).trans hcc
      obtain ⟨s, hs⟩ := hst.out k hlt
      rw [hcc] at hs
      obtain ⟨-, -, s3, s4, s5, s6, -⟩ := stT_N hs
      have htS := tkS_take hlt
      have hmS := mkS_take hlt
      rw [hcc] at htS hmS
      have htL := takS_le l (k + 1)
      have hmL := makS_le l (k + 1)
      have hz := hB.out.size
      have k0 : (0 : Int) ≤ (k : Int) := by omega
      have k1 : (k : Int) < (l.length : Int) := by omega
      have HR : Hid (stiRow l (k + 1) = stiRow l k ++ [.int .i64 (tkN c : Int), .int .i64 (mkN c : Int), .int .i64 s.2.2, .int .i64 (tkS (l.take k) : Int), .int .i64 (mkS (l.take k) : Int)]) := by
        rw [Hid, stiRow, stiC, getD_u8 hlt, hcc, (stV_some hs).1]
      have CS := Lib.hid (stitch_u8 wr c s hs)
      have HTS := Lib.hid htS
      have HMS := Lib.hid hmS
      rw [s5, s6] at CS
      have t20 : tkS (l.take k) + tkN c ≤ 2000 := by omega
      have m20 : mkS (l.take k) + mkN c ≤ 2000 := by omega
      clear hs s5 s6 htS hmS htL hmL hcc
      generalize tkS (l.take k) = fr at *
      generalize mkS (l.take k) = to at *
      generalize tkN c = tn at *
      generalize mkN c = mn at *
      generalize s.2.2 = yn at *
      clear s
      go_wp2_with (first
        | (go_at_call 62; ((refine CS.out.mono ?_); rintro e w1 ⟨rfl, hb⟩; have HO1 := Lib.hid ((own_below hI.out hb).alloc (.cells #[.int .i64 tn, .int .i64 mn, .int .i64 yn] 71 (0, 0))); have HB1 := Lib.hid (below_alloc (below_then hB.out hb) (.cells #[.int .i64 tn, .int .i64 mn, .int .i64 yn] 71 (0, 0))); have hs1 := HB1.out.size; have HBL := Lib.hid (heap_alloc_new w1 (.cells #[.int .i64 tn, .int .i64 mn, .int .i64 yn] 71 (0, 0))); clear hb))
        | (at_builtin; refine ap1 rfl (.tmp 21) (.tmp 26) 67 73 rfl ((.agg #[.int .i64 0, .int .i64 0, .int .i64 0, .int .i64 0, .int .i64 0])) 5 40 w.heap.size Try.underlying67 (by kernel_rfl) rfl (by decide) u3 k (stiRow l k) [.int .i64 tn, .int .i64 mn, .int .i64 yn, .int .i64 fr, .int .i64 to] rfl rfl (by simp) rfl rfl HO1.out hs1 (by omega) (by omega) ?_; intro g3 d3 w5 hown hg3 hat; have hB5 := Lib.hid (below_grown HB1.out hg3 HO1.out (Nat.le_refl _) hs1); have hO5 := Lib.hid hown; have HB5 := Lib.hid (blk_grownT HBL.out HO1.out (by decide) hg3); have x0 := blk_cell HB5.out 0; have x1 := blk_cell HB5.out 1; clear hown hat hg3))
      go_roundw
      case rel => exact ⟨k + 1, by omega, by go_num, by rw [HTS.out]; go_num, by rw [HMS.out]; go_num, by rw [HR.out]; exact hO5, hB5⟩
      case measure => simp [intOf]; omega
    · obtain rfl : k = l.length := by omega
      have d1 : decide ((l.length : Int) < (l.length : Int)) = false := by simp
      go_wp2
      exact bodyPost_ret (v := u3) (by simp [results, Try.results34, go_sem]) rfl ⟨_, rfl, hI.out, hB.out⟩
end Go.Proofs.Ytepdgbgolopejaa
