/- The reference's split of a text at a byte. -/
import Derived.Test.YtdcemmhfbfogdaaDoorSplitPure
import Derived.Test.YtdcemmhfbfogdaaDoorMem4
import Derived.Test.YtdcemmhfbfogdaaDoorScalars
import Derived.Test.YtdcemmhfbfogdaaDoorFlat2
namespace Go.Proofs.YtdcemmhfbfogdaaDoor
open Go.RowKit
set_option linter.unusedVariables false
set_option linter.unusedSimpArgs false
set_option maxRecDepth 100000
/-- Texts as values. -/
def strs (L : List (List UInt8)) : List Value := L.map fun l => .string (str l)
theorem strs_snoc (L : List (List UInt8)) (l : List UInt8) : strs (L ++ [l]) = strs L ++ [.string (str l)] := by simp [strs]
theorem str_cut (a c r : List UInt8) : (str (a ++ c ++ r)).extract a.length (a.length + c.length) = str c := by
  apply ByteArray.ext
  simp [str, ByteArray.data_extract]
theorem str_cut_end (a c : List UInt8) : (str (a ++ c)).extract a.length (str (a ++ c)).size = str c := by
  apply ByteArray.ext
  simp [str, ByteArray.data_extract, ByteArray.size]
theorem str_get (t : List UInt8) (k : Nat) (h : k < (str t).size) (hk : k < t.length) : (str t)[k] = t[k] := by
  show (str t).data[k] = _
  simp [str]
theorem toList_loop (b : ByteArray) : ∀ (n i : Nat) (r : List UInt8), b.size - i = n → ByteArray.toList.loop b i r = r.reverse ++ b.data.toList.drop i := by
  intro n
  induction n with
  | zero =>
    intro i r h
    unfold ByteArray.toList.loop
    have h1 : ¬ i < b.size := by omega
    rw [if_neg h1, List.drop_eq_nil_of_le (by simp only [Array.length_toList]; have : b.size = b.data.size := rfl; omega), List.append_nil]
  | succ n ih =>
    intro i r h
    unfold ByteArray.toList.loop
    have h1 : i < b.size := by omega
    have h2 : i < b.data.toList.length := by simp only [Array.length_toList]; exact h1
    rw [if_pos h1, ih (i + 1) _ (by omega), List.drop_eq_getElem_cons h2]
    have : b.get! i = b.data.toList[i] := by
      simp only [ByteArray.get!, Array.getElem_toList]
      exact getElem!_pos b.data i h1
    simp [this]
theorem str_toList (a : List UInt8) : (str a).toList = a := by
  unfold ByteArray.toList
  rw [toList_loop _ _ 0 [] rfl]
  simp [str]
theorem splitS_take {b : UInt8} {t : List UInt8} {k : Nat} (h : k ≤ t.length) : (joinD b (splitS b (t.take k)).1).length + (splitS b (t.take k)).2.length = k := by
  have := congrArg List.length (splitS_parts (by_ := b) (t.take k)).eq
  simp at this
  omega
theorem splitS_cut {b : UInt8} {t : List UInt8} {k : Nat} (h : k ≤ t.length) : (str t).extract (joinD b (splitS b (t.take k)).1).length k = str (splitS b (t.take k)).2 := by
  have h1 := (splitS_parts (by_ := b) (t.take k)).eq
  have h2 := splitS_take (b := b) h
  have e := str_cut (joinD b (splitS b (t.take k)).1) (splitS b (t.take k)).2 (t.drop k)
  rw [← h1, List.take_append_drop, h2] at e
  exact e
theorem joinD_snoc (b : UInt8) (d : List (List UInt8)) (l : List UInt8) : (joinD b (d ++ [l])).length = (joinD b d).length + l.length + 1 := by
  simp [joinD]; omega
theorem splitS_num (b : UInt8) (l : List UInt8) : (splitS b l).1.length ≤ l.length := by
  have h := congrArg List.length (splitS_parts (by_ := b) l).eq
  have : ∀ d : List (List UInt8), d.length ≤ (joinD b d).length := fun d => by
    induction d with
    | nil => simp
    | cons x d ih => simp [joinD] at ih ⊢; omega
  have := this (splitS b l).1
  rw [List.length_append] at h
  omega
set_option maxHeartbeats 1000000 in
theorem c_l01Split (t : List UInt8) (b : UInt8) (w : World) (ht : t.length ≤ 1048576) :
    Calls Tryd.prog 32 #[.string (str t), .int .u8 (b.toNat : Int)] w fun e w' => ∃ v, e = .returned v ∧ w'.ownsRow w.heap.size 9 1 v (splitL b t).length (strs (splitL b t)) ∧ Below w.heap.size w w' := by
  have hE := heap_alloc_new w (.cells #[] 9 (0, 0))
  have HE : Hid ((w.alloc (.cells #[] 9 (0, 0))).ownsRow w.heap.size 9 1 (.slice (some ⟨w.heap.size, 0, none⟩) 0 0) (splitS b (t.take 0)).1.length (strs (splitS b (t.take 0)).1)) := own_empty hE (Nat.le_refl _)
  clear hE
  have hsz : (str t).size = t.length := str_size t
  go_enter Tryd.func32, Tryd.ntmps32
  go_wp2
  go_loopw [5, 6, 7] (fun v bg i wr => ∃ k : Nat, k ≤ t.length ∧ i = .int .i64 k ∧ Hid (wr.ownsRow w.heap.size 9 1 v (splitS b (t.take k)).1.length (strs (splitS b (t.take k)).1)) ∧ bg = .int .i64 ((joinD b (splitS b (t.take k)).1).length : Int) ∧ Hid (Below w.heap.size w wr)) (fun _ _ i _ => t.length - (intOf i).toNat)
  case atStart => exact ⟨0, by omega, rfl, HE, rfl, below_alloc (Below.refl _ _) _⟩
  case round =>
    obtain ⟨k, hk, rfl, hI, rfl, hB⟩ := hrel
    have hsum := splitS_take (b := b) hk
    have hcut := splitS_cut (b := b) hk
    have hnum := splitS_num b (t.take k)
    rw [List.length_take] at hnum
    by_cases hlt : k < t.length
    · have d1 : decide ((k : Int) < (t.length : Int)) = true := by simp; omega
      have hcs : Hid (splitS b (t.take (k + 1)) = splitStep b (splitS b (t.take k)) t[k]) := by
        rw [Hid, List.take_add_one, List.getElem?_eq_getElem hlt]
        exact splitS_snoc _ _
      have hgk : ∀ h, (str t)[k]'h = t[k] := fun h => str_get t k h hlt
      generalize splitS b (t.take k) = S at *
      obtain ⟨d, c⟩ := S
      simp only at hsum hcut hnum hI
      have hz := hB.out.size
      have b0 : (0 : Int) ≤ ((joinD b d).length : Int) := by omega
      have b1 : ((joinD b d).length : Int) ≤ (k : Int) := by omega
      have b2 : (k : Int) ≤ (t.length : Int) := by omega
      have b3 : ((joinD b d).length : Int) ≤ (t.length : Int) := by omega
      by_cases hc : t[k] = b
      · have dq : ((t[k].toNat : Int) == (b.toNat : Int)) = true := by rw [hc]; simp
        have hS : splitS b (t.take (k + 1)) = (d ++ [c], []) := by rw [hcs.out, splitStep, if_pos hc]
        have HS := Lib.hid hS
        clear hS hcs
        go_wp2_with (at_builtin; refine ap1 rfl (.tmp 20) (.tmp 25) 23 9 rfl (.string (str [])) 1 16 w.heap.size Tryd.underlying23 (by kernel_rfl) rfl (by decide) u5 d.length (strs d) [.string (str c)] rfl rfl (by simp) rfl rfl hI.out hz (by omega) (by omega) ?_; intro g3 d3 w5 hown hg3 hat; have hB5 := Lib.hid (below_grown hB.out hg3 hI.out (Nat.le_refl _) hz); have hO5 := Lib.hid hown; clear hown hat hg3)
        go_roundw
        case rel => exact ⟨k + 1, by omega, by go_num, by rw [HS.out, Hid, strs_snoc, List.length_append]; exact hO5.out, by rw [HS.out]; simp only [joinD_snoc]; rw [← hsum]; go_num, hB5⟩
        case measure => simp [intOf]; omega
      · have dq : ((t[k].toNat : Int) == (b.toNat : Int)) = false := by
          simp only [beq_eq_false_iff_ne, ne_eq]
          intro h; exact hc (UInt8.toNat_inj.1 (by omega))
        have hS : splitS b (t.take (k + 1)) = (d, c ++ [t[k]]) := by rw [hcs.out, splitStep, if_neg hc]
        have HS := Lib.hid hS
        clear hS hcs
        go_wp2
        go_roundw
        case rel => exact ⟨k + 1, by omega, by go_num, by rw [HS.out]; exact hI, by rw [HS.out], hB⟩
        case measure => simp [intOf]; omega
    · obtain rfl : k = t.length := by omega
      have d1 : decide ((t.length : Int) < (t.length : Int)) = false := by simp
      have he : (str t).extract (joinD b (splitS b t).1).length t.length = str (splitS b t).2 := by rw [List.take_length] at hcut; exact hcut
      rw [List.take_length] at hsum hnum hI
      clear hcut
      obtain ⟨d, c, hdc⟩ : ∃ d c, splitS b t = (d, c) := ⟨_, _, rfl⟩
      have EL : Hid (splitL b t = d ++ [c]) := by rw [Hid, splitL, hdc]
      rw [hdc] at hsum he hnum hI
      rw [List.take_length, hdc]
      simp only at hsum he hnum hI
      have hz := hB.out.size
      have b0 : (0 : Int) ≤ ((joinD b d).length : Int) := by omega
      have b1 : ((joinD b d).length : Int) ≤ (t.length : Int) := by omega
      go_wp2_with (at_builtin; refine ap1 rfl (.tmp 29) (.tmp 33) 23 9 rfl (.string (str [])) 1 16 w.heap.size Tryd.underlying23 (by kernel_rfl) rfl (by decide) u5 d.length (strs d) [.string (str c)] rfl rfl (by simp) rfl rfl hI.out hz (by omega) (by omega) ?_; intro g3 d3 w5 hown hg3 hat; have hB5 := Lib.hid (below_grown hB.out hg3 hI.out (Nat.le_refl _) hz); have hO5 := Lib.hid hown; clear hown hat hg3)
      go_ret
      exact ⟨_, rfl, by rw [EL.out, strs_snoc, List.length_append]; exact hO5.out, hB5.out⟩
end Go.Proofs.YtdcemmhfbfogdaaDoor
