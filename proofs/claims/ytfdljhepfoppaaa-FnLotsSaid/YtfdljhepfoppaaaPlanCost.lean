/- What a whole plan costs, by the reference. -/
import Derived.Test.YtfdljhepfoppaaaPlanMost
namespace Go.Proofs.Ytfdljhepfoppaaa
open Go.RowKit
set_option linter.unusedVariables false
set_option linter.unusedSimpArgs false
set_option maxRecDepth 100000

def hasB (zs : List Int) (n : Int) : Bool := decide (n ∈ zs)
theorem hasB_stop {zs : List Int} {n : Int} {k : Nat} (hk : k < zs.length) (h : gi zs k = n) : hasB zs n = true := by
  have : zs[k] = n := by simpa [gi, List.getD_eq_getElem?_getD, hk] using h
  exact decide_eq_true (this ▸ List.getElem_mem hk)
theorem hasB_none {zs : List Int} {n : Int} (h : ∀ j, j < zs.length → gi zs j ≠ n) : hasB zs n = false := by
  refine decide_eq_false fun hm => ?_
  obtain ⟨j, hj, e⟩ := List.mem_iff_getElem.1 hm
  exact h j hj (by simp [gi, List.getD_eq_getElem?_getD, hj, e])
set_option maxHeartbeats 1000000 in
theorem c_l00Has (zs : List Int) (x : Int) (v : Value) (base n : Nat) (w : World) (h : w.ownsRow base 2 1 v n (nums .i64 zs)) (hn : n ≤ 1048576) :
    Calls Try.prog 76 #[v, .int .i64 x] w fun e w' => e = .returned (.bool (hasB zs x)) ∧ w = w' := by
  have hl : zs.length = n := by have := h.1; simpa [nums] using this
  obtain ⟨A, c, rfl, hA⟩ := own_form h
  have H := Lib.hid h
  have HL := Lib.hid hl
  clear h hl
  go_enter Try.func76, Try.ntmps76
  go_wp2
  go_loop [5] (fun i => ∃ k : Nat, k ≤ n ∧ i = .int .i64 k ∧ Hid (∀ j, j < k → gi zs j ≠ x)) (fun i => n - (intOf i).toNat)
  case atStart => exact ⟨0, by omega, rfl, fun j hj => by omega⟩
  case round =>
    obtain ⟨k, hk, rfl, hI⟩ := hrel
    by_cases hlt : k < n
    · have d1 : decide ((k : Int) < (n : Int)) = true := by simp; omega
      have k0 : (0 : Int) ≤ (k : Int) := by omega
      have k1 : (k : Int) < (n : Int) := by omega
      obtain ⟨g, rfl, _⟩ := hA (by omega)
      have x0 := (own_get H.out (nums_get (k := .i64) (zs := zs) (j := k) (by rw [HL.out]; exact hlt))).1
      by_cases he : gi zs k = x
      · have de : (gi zs k == x) = true := by simpa using he
        have HS := Lib.hid (hasB_stop (by rw [HL.out]; exact hlt) he)
        clear he
        go_wp2
        go_ret
        exact ⟨by rw [HS.out]; rfl, rfl⟩
      · have de : (gi zs k == x) = false := by simpa using he
        have HI2 : Hid (∀ j, j < k + 1 → gi zs j ≠ x) := fun j hj => by
          by_cases e : j = k
          · subst e; exact he
          · exact hI.out j (by omega)
        clear he
        go_wp2
        go_round
        case rel => exact ⟨k + 1, by omega, by go_num, HI2⟩
        case measure => simp [intOf]; omega
    · obtain rfl : k = n := by omega
      have d1 : decide ((k : Int) < (k : Int)) = false := by simp
      have HN : Hid (hasB zs x = false) := hasB_none (by rw [HL.out]; exact hI.out)
      go_wp2
      go_ret
      exact ⟨by rw [HN.out]; rfl, rfl⟩
/-- What the lots of a plan cost. -/
def costK (what : Nat) (keep : Int) (P Lf : List Int) : Nat → Int
  | 0 => 0
  | k + 1 => costK what keep P Lf k + (if hasB P (k : Int) = true then (if what = 1 then 1 else if what = 2 ∧ gi Lf k < keep then gi Lf k else 0) else 0)
theorem costK_bd {what : Nat} {keep : Int} {P Lf : List Int} (h : ∀ j, 0 ≤ gi Lf j ∧ gi Lf j ≤ 32767) : ∀ k, 0 ≤ costK what keep P Lf k ∧ costK what keep P Lf k ≤ 32767 * (k : Int)
  | 0 => by simp [costK]
  | k + 1 => by
    have ih := costK_bd (what := what) (keep := keep) (P := P) h k
    have := h k
    unfold costK
    by_cases h1 : hasB P (k : Int) = true
    · rw [if_pos h1]
      by_cases h2 : what = 1
      · rw [if_pos h2]; omega
      · rw [if_neg h2]
        by_cases h3 : what = 2 ∧ gi Lf k < keep
        · rw [if_pos h3]; omega
        · rw [if_neg h3]; omega
    · rw [if_neg h1]; omega
theorem costK_zero {keep : Int} {P Lf : List Int} : ∀ k, costK 0 keep P Lf k = 0
  | 0 => rfl
  | k + 1 => by
    unfold costK
    rw [costK_zero k]
    simp
def costF (what : Nat) (keep : Int) (nl : Nat) (v : Visit) : Int := costK what keep v.1 v.2 nl + negs v.1
theorem costF_zero (keep : Int) (nl : Nat) (v : Visit) : costF 0 keep nl v = negs v.1 := by rw [costF, costK_zero, Int.zero_add]
def pad (L : List Int) : List Int := L ++ List.replicate (6 - L.length) 0
theorem pad_len {L : List Int} (h : L.length ≤ 6) : (pad L).length = 6 := by simp [pad]; omega
theorem pad_gi {L : List Int} (k : Nat) : gi (pad L) k = gi L k := by
  unfold gi pad
  by_cases h : k < L.length
  · simp [List.getD_eq_getElem?_getD, List.getElem?_append_left h]
  · rw [List.getD_eq_getElem?_getD, List.getD_eq_getElem?_getD, List.getElem?_append_right (by omega), List.getElem?_eq_none (show L.length ≤ k by omega), List.getElem?_replicate]
    split <;> rfl
theorem pad_set {L : List Int} {k : Nat} (h : k < L.length) (z : Int) : (pad L).set k z = pad (L.set k z) := by
  simp [pad, List.set_append_left _ _ h]
theorem pad_info {L : List Int} (h : L.length ≤ 6) : (Try.prog.info? 86).map (·.size) = some (nums .i64 (pad L)).toArray.size := by
  have hk : (Try.prog.info? 86).map (·.size) = some 6 := by kernel_rfl
  rw [hk]; simp [nums, pad_len h]
/-- The search's struct. -/
def sCells (A B : Option Addr) (nl no c c1 what : Nat) (keep : Int) (vb : Value) (f : Visit → Int) (o : Option Visit) : Array Value := #[.slice A nl c, .slice B no c1, .int .i64 (what : Int), .int .i64 keep, vb, .int .i64 (leastL f o), .bool o.isSome]
set_option maxHeartbeats 4000000 in
theorem c_cost (gW nl no c c1 what : Nat) (keep : Int) (A B : Option Addr) (vb : Value) (f : Visit → Int) (o : Option Visit) (P Lf : List Int) (v : Value) (base : Nat) (w : World)
    (hW : w.heap[gW]? = some (.cells (sCells A B nl no c c1 what keep vb f o) 85 (0, 0))) (hwh : what = 0 ∨ what = 1 ∨ what = 2) (hP : w.ownsRow base 2 1 v no (nums .i64 P)) (no7 : no ≤ 7) (nl6 : nl ≤ 6) (hL : LeftOk nl Lf) :
    Calls Try.prog 70 #[.pointer (some ⟨gW, 0, none⟩), v, .agg (nums .i64 (pad Lf)).toArray] w fun e w' => e = .returned (.int .i64 (costF what keep nl (P, Lf))) ∧ Below w.heap.size w w' := by
  have hlp : P.length = no := by have := hP.1; simpa [nums] using this
  have HLP := Lib.hid hlp
  have hlL : Lf.length ≤ 6 := by rw [hL.len]; exact nl6
  have HBX := Lib.hid (heap_alloc_new w (.cells (nums .i64 (pad Lf)).toArray 86 (0, 0)))
  have HWX := Lib.hid (blk_alloc hW (.cells (nums .i64 (pad Lf)).toArray 86 (0, 0)))
  have HPX := Lib.hid (hP.alloc (.cells (nums .i64 (pad Lf)).toArray 86 (0, 0)))
  have HBW : Hid (Below w.heap.size w (w.alloc (.cells (nums .i64 (pad Lf)).toArray 86 (0, 0)))) := below_alloc (Below.refl _ _) _
  have HLK := Lib.hid hL
  have HL6 := Lib.hid (pad_len hlL)
  obtain ⟨AP, cP, rfl, hAP⟩ := own_form hP
  clear hW hP hlp hL hlL
  go_enter Try.func70, Try.ntmps70
  go_wp2
  generalize hb5 : w.heap.size = b5 at *
  have HB5 := Lib.hid hb5
  clear hb5
  generalize w.alloc (.cells (nums .i64 (pad Lf)).toArray 86 (0, 0)) = wx at *
  have a0 : wx.cell? ⟨gW, 0, none⟩ = some (.slice A nl c) := cell_of_row wx gW 0 _ _ _ HWX.out
  have a2 : wx.cell? ⟨gW, 2, none⟩ = some (.int .i64 (what : Int)) := cell_of_row wx gW 2 _ _ _ HWX.out
  have a3 : wx.cell? ⟨gW, 3, none⟩ = some (.int .i64 keep) := cell_of_row wx gW 3 _ _ _ HWX.out
  go_loopw [8, 7] (fun i m wr => ∃ (k q : Nat), k ≤ nl ∧ i = .int .i64 k ∧ m = .int .i64 (costK what keep P Lf k) ∧ wr = wx.drewN q) (fun i _ _ => nl - (intOf i).toNat)
  case atStart => exact ⟨0, 0, by omega, rfl, rfl, rfl⟩
  case round =>
    obtain ⟨k, q, hk, rfl, rfl, rfl⟩ := hrel
    have hbd := costK_bd (what := what) (keep := keep) (P := P) HLK.out.bd k
    by_cases hlt : k < nl
    · have d1 : decide ((k : Int) < (nl : Int)) = true := by simp; omega
      have CH := fun q' => Lib.hid (c_l00Has P (k : Int) (.slice AP no cP) base no (wx.drewN q') (show (wx.drewN q').ownsRow _ _ _ _ _ _ from HPX.out) (by omega))
      have CH := Lib.hid CH
      have k0 : (0 : Int) ≤ (k : Int) := by omega
      have k1 : (k : Int) < 6 := by omega
      have hv := HLK.out.bd k
      have xk : wx.cell? ⟨b5, k, none⟩ = some (.int .i64 (gi Lf k)) := by
        have := nums_cell HBX.out k (by rw [HL6.out]; omega)
        rw [pad_gi] at this; exact this
      have HN : Hid (costK what keep P Lf (k + 1) = costK what keep P Lf k + (if hasB P (k : Int) = true then (if what = 1 then 1 else if what = 2 ∧ gi Lf k < keep then gi Lf k else 0) else 0)) := rfl
      cases hh : hasB P (k : Int)
      · rw [hh] at HN
        have HH := Lib.hid hh
        have HN2 : Hid (costK what keep P Lf (k + 1) = costK what keep P Lf k) := by rw [Hid, HN.out]; simp
        clear hh HN
        go_wp2_with (go_at_call 76; ((with_reducible refine (CH.out _).out.mono ?_); rintro e w2 ⟨rfl, rfl⟩; rw [HH.out]))
        go_roundw
        case rel => exact ⟨k + 1, q, by omega, by go_num, by rw [HN2.out], rfl⟩
        case measure => simp [intOf]; omega
      · rw [hh, if_pos rfl] at HN
        have HH := Lib.hid hh
        clear hh
        rcases hwh with rfl | rfl | rfl
        · have HN2 : Hid (costK 0 keep P Lf (k + 1) = costK 0 keep P Lf k) := by rw [Hid, HN.out]; simp
          clear HN
          go_wp2_with (go_at_call 76; ((with_reducible refine (CH.out _).out.mono ?_); rintro e w2 ⟨rfl, rfl⟩; rw [HH.out]))
          go_quiet (fail)
          go_wp2
          go_roundw
          case rel => exact ⟨k + 1, _, by omega, by go_num, by rw [HN2.out], rfl⟩
          case measure => simp [intOf]; omega
        · have HN2 : Hid (costK 1 keep P Lf (k + 1) = costK 1 keep P Lf k + 1) := by rw [Hid, HN.out]; simp
          clear HN
          go_wp2_with (go_at_call 76; ((with_reducible refine (CH.out _).out.mono ?_); rintro e w2 ⟨rfl, rfl⟩; rw [HH.out]))
          go_quiet (fail)
          go_wp2
          go_roundw
          case rel => exact ⟨k + 1, _, by omega, by go_num, by rw [HN2.out], rfl⟩
          case measure => simp [intOf]; omega
        · by_cases hlk : gi Lf k < keep
          · have dk : decide (gi Lf k < keep) = true := by simpa using hlk
            have HN2 : Hid (costK 2 keep P Lf (k + 1) = costK 2 keep P Lf k + gi Lf k) := by rw [Hid, HN.out]; simp [hlk]
            clear HN hlk
            go_wp2_with (go_at_call 76; ((with_reducible refine (CH.out _).out.mono ?_); rintro e w2 ⟨rfl, rfl⟩; rw [HH.out]))
            go_quiet (fail)
            go_wp2
            go_roundw
            case rel => exact ⟨k + 1, _, by omega, by go_num, by rw [HN2.out], rfl⟩
            case measure => simp [intOf]; omega
          · have dk : decide (gi Lf k < keep) = false := by simpa using hlk
            have HN2 : Hid (costK 2 keep P Lf (k + 1) = costK 2 keep P Lf k) := by rw [Hid, HN.out]; simp [hlk]
            clear HN hlk
            go_wp2_with (go_at_call 76; ((with_reducible refine (CH.out _).out.mono ?_); rintro e w2 ⟨rfl, rfl⟩; rw [HH.out]))
            go_quiet (fail)
            go_wp2
            go_roundw
            case rel => exact ⟨k + 1, _, by omega, by go_num, by rw [HN2.out], rfl⟩
            case measure => simp [intOf]; omega
    · obtain rfl : k = nl := by omega
      have d1 : decide ((k : Int) < (k : Int)) = false := by simp
      go_wp2
      go_loop [9, 7] (fun i m => ∃ j : Nat, j ≤ no ∧ i = .int .i64 j ∧ m = .int .i64 (costK what keep P Lf k + negs (P.take j))) (fun i _ => no - (intOf i).toNat)
      case atStart => exact ⟨0, by omega, rfl, by rw [List.take_zero]; simp [negs]⟩
      case round =>
        obtain ⟨j, hj, rfl, rfl⟩ := hrel
        by_cases hlt2 : j < no
        · have d2 : decide ((j : Int) < (no : Int)) = true := by simp; omega
          have j0 : (0 : Int) ≤ (j : Int) := by omega
          have j1 : (j : Int) < (no : Int) := by omega
          obtain ⟨gp, rfl, _⟩ := hAP (by omega)
          have xp : wx.cell? ⟨gp, j, none⟩ = some (.int .i64 (gi P j)) := (own_get HPX.out (nums_get (k := .i64) (zs := P) (j := j) (by rw [HLP.out]; exact hlt2))).1
          have n0 := negs_nonneg (P.take j)
          have n1 := negs_le (P.take j)
          have n2 : (P.take j).length ≤ j := List.length_take_le _ _
          have hsn : P.take (j + 1) = P.take j ++ [gi P j] := by
            have hkl : j < P.length := by rw [HLP.out]; exact hlt2
            rw [List.take_add_one, List.getElem?_eq_getElem hkl]
            simp [gi, List.getD_eq_getElem?_getD, hkl]
          have HN : Hid (negs (P.take (j + 1)) = negs (P.take j) + if gi P j < 0 then 1 else 0) := by rw [Hid, hsn, negs_snoc]
          clear hsn
          by_cases hneg : gi P j < 0
          · have dn : decide (gi P j < 0) = true := by simpa using hneg
            rw [if_pos hneg] at HN
            clear hneg
            go_wp2
            go_round
            case rel => exact ⟨j + 1, by omega, by go_num, by rw [HN.out, Int.add_assoc]⟩
            case measure => simp [intOf]; omega
          · have dn : decide (gi P j < 0) = false := by simpa using hneg
            rw [if_neg hneg, Int.add_zero] at HN
            clear hneg
            go_wp2
            go_round
            case rel => exact ⟨j + 1, by omega, by go_num, by rw [HN.out]⟩
            case measure => simp [intOf]; omega
        · obtain rfl : j = no := by omega
          have d2 : decide ((j : Int) < (j : Int)) = false := by simp
          go_wp2
          go_ret
          exact ⟨by rw [← HLP.out, List.take_length]; rfl, by rw [HB5.out]; exact below_drewN HBW.out _⟩
end Go.Proofs.Ytfdljhepfoppaaa
