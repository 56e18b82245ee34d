/- The text of a fabric: the reference's function. -/
import Derived.Test.YtdcemmhfbfogdaaDoorTextWalk
namespace Go.Proofs.YtdcemmhfbfogdaaDoor
open Go.RowKit
set_option linter.unusedVariables false
set_option linter.unusedSimpArgs false
set_option maxRecDepth 100000

/-- The text of a fabric's first k rows. -/
def fabTxt (cast : Int) (L : List (List UInt8)) : List UInt8 := Lib.decDigits cast.toNat ++ [10] ++ joinD 10 L
theorem fabTxt_snoc (cast : Int) (L : List (List UInt8)) (l : List UInt8) : fabTxt cast (L ++ [l]) = fabTxt cast L ++ (l ++ [10]) := by
  simp [fabTxt, joinD, List.flatMap_append]
theorem fabTxt_take {cast : Int} {L : List (List UInt8)} {k : Nat} (h : k < L.length) : fabTxt cast (L.take (k + 1)) = fabTxt cast (L.take k) ++ (L.getD k [] ++ [10]) := by
  rw [List.take_add_one, List.getElem?_eq_getElem h]
  have := fabTxt_snoc cast (L.take k) L[k]
  simpa [List.getD_eq_getElem?_getD, h] using this
theorem joinD_lens (L : List (List UInt8)) : (joinD 10 L).length = lensN L + L.length := by
  induction L with
  | nil => rfl
  | cons l L ih =>
    simp only [joinD, List.flatMap_cons, List.length_append, List.length_cons, List.length_nil, lensN, List.map_cons, List.sum_cons] at ih ⊢
    omega
theorem fabTxt_len {cast : Int} {L : List (List UInt8)} (h : cast.toNat < 1000) (k : Nat) : (fabTxt cast (L.take k)).length ≤ 4 + lensN L + L.length := by
  have h1 := dec_len 2 cast.toNat (by omega)
  have h2 := joinD_lens (L.take k)
  have h3 := lensN_le L k
  simp only [fabTxt, List.length_append, List.length_singleton, h2, List.length_take]
  omega
/-- FabricText's answer. -/
def fabTextF (cast : Int) (L : List (List UInt8)) : List UInt8 := if fabOk cast L = true then fabTxt cast L else []
theorem fabOk_cast {cast : Int} {L : List (List UInt8)} (h : fabOk cast L = true) : 1 ≤ cast ∧ cast ≤ 60 := by
  simp [fabOk, inB] at h
  omega
set_option maxHeartbeats 1000000 in
theorem c_l05Text (g : Nat) (cast : Int) (A : Option Addr) (cap : Nat) (L : List (List UInt8)) (w : World) (hF : FabAt w cast A cap L) (hlen : L.length + lensN L ≤ 1048576) (hc : 1 ≤ cast ∧ cast ≤ 60)
    (hg : w.heap[g]? = some (.cells #[.int .i16 cast, .slice A L.length cap] 28 (0, 0))) :
    Calls Tryd.prog 27 #[.pointer (some ⟨g, 0, none⟩)] w fun e w' => e = .returned (.string (str (fabTxt cast L))) ∧ Below w.heap.size w w' := by
  obtain ⟨c0, c1⟩ := hc
  have x0 : w.cell? ⟨g, 0, none⟩ = some (.int .i16 cast) := cell_of_row w g 0 _ _ _ hg
  have HG := Lib.hid hg
  have HF := Lib.hid hF
  have CD : Hid (∀ w, Calls Tryd.prog 49 #[.int .i64 cast] w fun e w' => e = .returned (.string (str (Lib.decDigits cast.toNat))) ∧ Below w.heap.size w w') := fun w => by
    have := c_Decimal cast.toNat (by omega) w
    rw [Int.toNat_of_nonneg (by omega)] at this
    exact this
  have hz : (str (Lib.decDigits cast.toNat)).size ≤ 1000 := by
    rw [str_size]
    have := dec_len 2 cast.toNat (by omega)
    omega
  have hz2 : ((⟨#[10]⟩ : ByteArray)).size = 1 := rfl
  have E0 : Hid (str (Lib.decDigits cast.toNat) ++ (⟨#[10]⟩ : ByteArray) = str (fabTxt cast (L.take 0))) := by
    have : (⟨#[10]⟩ : ByteArray) = str [10] := rfl
    rw [Hid, this, str_append]
    simp [fabTxt, joinD]
  clear hg hF
  go_enter Tryd.func27, Tryd.ntmps27
  go_wp2_with (go_at_call 49; ((with_reducible refine (CD.out _).mono ?_); rintro e w1 ⟨rfl, hb⟩; have HB := Lib.hid hb; have HG1 := Lib.hid (blk_below HG.out hb); clear hb))
  have x1 : w1.cell? ⟨g, 1, none⟩ = some (.slice A L.length cap) := blk_cell HG1.out 1
  have HR := Lib.hid (HF.out.row.below HB.out)
  go_loop [3, 4] (fun s i => ∃ k : Nat, k ≤ L.length ∧ i = .int .i64 k ∧ s = .string (str (fabTxt cast (L.take k)))) (fun _ i => L.length - (intOf i).toNat)
  case atStart => exact ⟨0, by omega, rfl, by rw [← E0.out]⟩
  case round =>
    obtain ⟨k, hk, rfl, rfl⟩ := hrel
    by_cases hlt : k < L.length
    · have d1 : decide ((k : Int) < (L.length : Int)) = true := by simp; omega
      have k0 : (0 : Int) ≤ (k : Int) := by omega
      have k1 : (k : Int) < (L.length : Int) := by omega
      obtain ⟨ad, rfl, x2⟩ := HR.out k _ (strs_get hlt)
      have HT := Lib.hid (fabTxt_take (cast := cast) hlt)
      have hl1 := fabTxt_len (cast := cast) (L := L) (by omega) k
      have hl2 : (L.getD k []).length ≤ lensN L := lensN_mem (by rw [List.getD_eq_getElem?_getD, List.getElem?_eq_getElem hlt]; exact List.getElem_mem hlt)
      generalize L.getD k [] = l at *
      have hs1 : (str (fabTxt cast (L.take k))).size ≤ 4000000 := by rw [str_size]; omega
      have hs2 : (str l).size ≤ 4000000 := by rw [str_size]; omega
      have hs3 : (str l ++ (⟨#[10]⟩ : ByteArray)).size ≤ 4000001 := by rw [ByteArray.size_append]; omega
      go_wp2
      go_round
      case rel => exact ⟨k + 1, by omega, by go_num, by rw [HT.out]; exact congrArg Value.string (by rw [show (⟨#[10]⟩ : ByteArray) = str [10] from rfl, str_append, str_append])⟩
      case measure => simp [intOf]; omega
    · obtain rfl : k = L.length := by omega
      have d1 : decide ((L.length : Int) < (L.length : Int)) = false := by simp
      have HT : Hid (L.take L.length = L) := List.take_length
      go_wp2
      exact bodyPost_ret (v := .string (str (fabTxt cast (L.take L.length)))) (by simp [results, Tryd.results27, go_sem]) rfl ⟨by rw [HT.out], HB.out⟩
set_option maxHeartbeats 1000000 in
theorem c_sFabricText (cast : Int) (A : Option Addr) (cap : Nat) (L : List (List UInt8)) (w : World) (hF : FabAt w cast A cap L) (hlen : L.length + lensN L ≤ 1048576) :
    Calls Tryd.prog 8 #[.agg #[.int .i16 cast, .slice A L.length cap]] w fun e w' => e = .returned (.string (str (fabTextF cast L))) ∧ Below w.heap.size w w' := by
  have hb0 : Below w.heap.size w (w.alloc (.cells #[.int .i16 cast, .slice A L.length cap] 28 (0, 0))) := below_alloc (Below.refl _ _) _
  have hA := heap_alloc_new w (.cells #[.int .i16 cast, .slice A L.length cap] 28 (0, 0))
  have CO := Lib.hid (c_l05Ok w.heap.size cast A cap L _ (hF.below hb0) hA)
  have HB0 := Lib.hid hb0
  have HA := Lib.hid hA
  have HF := Lib.hid hF
  clear hb0 hA hF
  cases q1 : fabOk cast L
  · have E : Hid (fabTextF cast L = []) := by rw [Hid, fabTextF, q1]; rfl
    rw [q1] at CO
    go_enter Tryd.func8, Tryd.ntmps8
    go_wp2_with (go_at_call 26; ((with_reducible refine CO.out.mono ?_); rintro e w1 ⟨rfl, hb⟩; have HB1 := Lib.hid (below_then HB0.out hb); clear hb))
    go_ret
    exact ⟨by rw [E.out]; rfl, HB1.out⟩
  · have E : Hid (fabTextF cast L = fabTxt cast L) := by rw [Hid, fabTextF, q1]; rfl
    have CX := Lib.hid (fun w h hg => c_l05Text w.heap.size cast A cap L w h hlen (fabOk_cast q1) hg)
    have CX2 := Lib.hid (fun g w h hg => c_l05Text g cast A cap L w h hlen (fabOk_cast q1) hg)
    rw [q1] at CO
    clear CX
    go_enter Tryd.func8, Tryd.ntmps8
    go_wp2_with (first
      | (go_at_call 26; ((with_reducible refine CO.out.mono ?_); rintro e w1 ⟨rfl, hb⟩; have HB1 := Lib.hid (below_then HB0.out hb); have HA1 := Lib.hid (blk_below HA.out hb); clear hb))
      | (go_at_call 27; ((with_reducible refine (CX2.out w.heap.size _ (HF.out.below HB1.out) HA1.out).mono ?_); rintro e w2 ⟨rfl, hb⟩; have HB2 := Lib.hid (below_then HB1.out hb); clear hb)))
    go_ret
    exact ⟨by rw [E.out]; rfl, HB2.out⟩
end Go.Proofs.YtdcemmhfbfogdaaDoor
