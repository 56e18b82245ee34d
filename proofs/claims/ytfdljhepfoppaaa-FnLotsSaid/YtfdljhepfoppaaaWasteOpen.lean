/- The program's sum of what is wasted in the lots that a plan opens. -/
import Derived.Test.YtfdljhepfoppaaaFewOpen
namespace Go.Proofs.Ytfdljhepfoppaaa
open Go.RowKit
set_option linter.unusedVariables false
set_option linter.unusedSimpArgs false
set_option maxRecDepth 100000

theorem opnN_le (P : List Int) (k : Nat) : (opnN P k).length ≤ k := by
  unfold opnN
  rw [List.length_map]
  exact Nat.le_trans (List.length_filter_le _ _) (by simp)
theorem wasteL_snoc (keep : Int) (Lf zs : List Int) (z : Int) : wasteL keep Lf (zs ++ [z]) = wasteL keep Lf zs + (if gi Lf z.toNat < keep then gi Lf z.toNat else 0) := by
  simp [wasteL, List.sum_append]
theorem wasteL_bd {keep : Int} {Lf : List Int} (h : ∀ i, 0 ≤ gi Lf i ∧ gi Lf i ≤ 32767) : ∀ zs : List Int, 0 ≤ wasteL keep Lf zs ∧ wasteL keep Lf zs ≤ 32767 * (zs.length : Int)
  | [] => by simp [wasteL]
  | z :: zs => by
    have h1 := wasteL_bd (keep := keep) h zs
    have h2 := h z.toNat
    have e : wasteL keep Lf (z :: zs) = (if gi Lf z.toNat < keep then gi Lf z.toNat else 0) + wasteL keep Lf zs := by simp [wasteL]
    rw [e]
    simp only [List.length_cons]
    split <;> omega
def wasteF (keep : Int) (nl : Nat) (v : Visit) : Int := wasteL keep v.2 (opnN v.1 nl)
set_option maxHeartbeats 2000000 in
theorem c_lw1 {nl no : Nat} (no7 : no ≤ 7) (nl6 : nl ≤ 6) (gk : Nat) (keep : Int) (D : PLay) (P Lf : List Int) (o : Option Visit) (w : World) (hno : D.no = no) (hnl : D.nl = nl)
    (hS : ∀ p ∈ [(gk, Obj.cells #[.int .i64 keep] 2 (0, 0))], p ∈ D.S) (h : PS D P Lf o w) (hg : GoodV nl true P Lf) :
    Calls Try.prog 44 (#[.slice (some ⟨D.bp, 0, none⟩) no no, D.vl] ++ #[.pointer (some ⟨gk, 0, none⟩)]) w fun e w' => e = .returned (.int .i64 (wasteF keep nl (P, Lf))) ∧ Below w.heap.size w w' := by
  have c0 := c_openedP no7 D P Lf o w hno h hg
  have hlf := h.lf
  rw [hnl] at hlf
  have hbx := h.st (gk, Obj.cells #[.int .i64 keep] 2 (0, 0)) (hS _ (by simp))
  have hlk := hg.l
  have hmem : ∀ z ∈ opnN P nl, 0 ≤ z ∧ z < (nl : Int) := fun z hz => ⟨(opnN_mem.1 hz).1, (opnN_mem.1 hz).2.1⟩
  have hle := opnN_le P nl
  have E : Hid (wasteF keep nl (P, Lf) = wasteL keep Lf (opnN P nl)) := rfl
  clear h hg hno hnl hS
  generalize opnN P nl = zs at *
  generalize wasteF keep nl (P, Lf) = W at *
  generalize D.vl = vl at *
  generalize D.bp = bp at *
  generalize D.w0.heap.size = N0 at *
  obtain ⟨A1, c', rfl, hA'⟩ := own_form hlf
  have HLF := Lib.hid hlf
  have HBX := Lib.hid hbx
  have HLK := Lib.hid hlk
  have HM := Lib.hid hmem
  obtain ⟨n, hn⟩ : ∃ n, zs.length = n := ⟨_, rfl⟩
  rw [hn] at c0 hle
  have C0 := Lib.hid c0
  have HN := Lib.hid hn
  clear c0 hlf hbx hlk hmem hn
  show Calls Try.prog 44 #[.slice (some ⟨bp, 0, none⟩) no no, .slice A1 nl c', .pointer (some ⟨gk, 0, none⟩)] w _
  go_enter Try.func44, Try.ntmps44
  go_wp2_with (go_at_call 42; ((with_reducible refine C0.out.mono ?_); rintro e w1 ⟨a, c, rfl, hr, hb⟩; have HR := Lib.hid hr; have HB := Lib.hid hb; clear hr hb))
  have HLF1 := Lib.hid (own_below HLF.out HB.out)
  have HBX1 := Lib.hid (blk_below HBX.out HB.out)
  go_loopw [6, 12] (fun m i wr => ∃ k : Nat, k ≤ n ∧ i = .int .i64 k ∧ m = .int .i64 (wasteL keep Lf (zs.take k)) ∧ Hid (wr.ownsRow w.heap.size 2 1 (.slice a n c) n (nums .i64 zs)) ∧ Hid (wr.ownsRow N0 2 1 (.slice A1 nl c') nl (nums .i64 Lf)) ∧ Hid (wr.heap[gk]? = some (.cells #[.int .i64 keep] 2 (0, 0))) ∧ Hid (Below w.heap.size w wr)) (fun _ i _ => n - (intOf i).toNat)
  case atStart => exact ⟨0, by omega, rfl, rfl, HR, HLF1, HBX1, HB⟩
  case round =>
    obtain ⟨k, hk, rfl, rfl, hR, hL, hX, hB⟩ := hrel
    by_cases hlt : k < n
    · have d1 : decide ((k : Int) < (n : Int)) = true := by simp; omega
      have k0 : (0 : Int) ≤ (k : Int) := by omega
      have k1 : (k : Int) < (n : Int) := by omega
      have hkz : k < zs.length := by rw [HN.out]; exact hlt
      obtain ⟨m, hm⟩ := Int.eq_ofNat_of_zero_le (HM.out _ (List.getElem_mem hkz)).1
      have hmn := (HM.out _ (List.getElem_mem hkz)).2
      rw [hm] at hmn
      have hmn' : m < nl := by omega
      have m0 : (0 : Int) ≤ (m : Int) := by omega
      have hgz : gi zs k = (m : Int) := by rw [← hm]; simp [gi, List.getD_eq_getElem?_getD, hkz]
      have x0 := nums_get (k := .i64) (zs := zs) (j := k) hkz
      rw [hgz] at x0
      have hsn : zs.take (k + 1) = zs.take k ++ [(m : Int)] := by
        rw [List.take_add_one, List.getElem?_eq_getElem hkz]
        simp [hm]
      have HNX : Hid (wasteL keep Lf (zs.take (k + 1)) = wasteL keep Lf (zs.take k) + (if gi Lf m < keep then gi Lf m else 0)) := by rw [Hid, hsn, wasteL_snoc, Int.toNat_natCast]
      obtain ⟨b0, b1⟩ := wasteL_bd (keep := keep) HLK.out.bd (zs.take k)
      have b2 : (zs.take k).length ≤ k := List.length_take_le _ _
      obtain ⟨l0, l1⟩ := HLK.out.bd m
      have ky := cell_of_row wr gk 0 _ _ _ hX.out
      obtain ⟨A2, rfl⟩ : ∃ A2, a = some ⟨A2, 0, none⟩ := by
        rcases hR.out.2 with ⟨h1, h2⟩ | ⟨gb, cap', cur, h1, _⟩
        · omega
        · injection h1 with h1; exact ⟨gb, h1⟩
      obtain ⟨A3, rfl⟩ : ∃ A3, A1 = some ⟨A3, 0, none⟩ := by
        rcases hL.out.2 with ⟨h1, h2⟩ | ⟨gb, cap', cur, h1, _⟩
        · omega
        · injection h1 with h1; exact ⟨gb, h1⟩
      have x1 := (own_get hR.out x0).1
      have x2 := (own_get hL.out (nums_get (k := .i64) (zs := Lf) (j := m) (by rw [HLK.out.len]; exact hmn'))).1
      clear x0 hsn hm hgz hkz
      by_cases hlw : gi Lf m < keep
      · have dk : decide (gi Lf m < keep) = true := by simpa using hlw
        rw [if_pos hlw] at HNX
        go_wp2
        go_quiet (fail)
        have x3 : (wr.drewN nq).cell? ⟨A3, m, none⟩ = some (.int .i64 (gi Lf m)) := x2
        go_wp2
        go_roundw
        case rel => exact ⟨k + 1, by omega, by go_num, by rw [HNX.out], hR, hL, hX, below_drewN hB.out _⟩
        case measure => simp [intOf]; omega
      · have dk : decide (gi Lf m < keep) = false := by simpa using hlw
        rw [if_neg hlw, Int.add_zero] at HNX
        go_wp2
        go_quiet (fail)
        go_wp2
        go_roundw
        case rel => exact ⟨k + 1, by omega, by go_num, by rw [HNX.out], hR, hL, hX, below_drewN hB.out _⟩
        case measure => simp [intOf]; omega
    · obtain rfl : k = n := by omega
      have d1 : decide ((k : Int) < (k : Int)) = false := by simp
      have HT : zs.take k = zs := List.take_of_length_le (Nat.le_of_eq HN.out)
      go_wp2
      go_ret
      exact ⟨by rw [E.out]; exact congrArg (fun z => Ending.returned (.int .i64 (wasteL keep Lf z))) HT, hB.out⟩
end Go.Proofs.Ytfdljhepfoppaaa
