/- Numbers joined to a text; a text split into numbers: the program's functions. -/
import Derived.Test.YtdcemmhfbfogdaaDoorNumWalk
import Derived.Lib.ItoaLen
namespace Go.Proofs.YtdcemmhfbfogdaaDoor
open Go.RowKit
set_option linter.unusedVariables false
set_option linter.unusedSimpArgs false
set_option maxRecDepth 100000

theorem c_decimalI (n : Int) (h0 : -9223372036854775808 ≤ n) (h1 : n ≤ 9223372036854775807) (w : World) (ht : TabW w) : Calls Tryd.prog 53 #[.int .i64 n] w fun e w' => e = .returned (.string (str (Lib.itoa n))) ∧ Below w.heap.size w w' := by
  have CF : Hid (Calls Tryd.prog 70 #[.int .i64 n, .int .i64 10] w fun e w' => e = .returned (.string (str (Lib.itoa n))) ∧ Below w.heap.size w w') := by
    have h := Tryd.strconv_FormatInt_10 n h0 h1 w ht
    refine h.mono fun e w' h => ?_
    obtain ⟨h1, k, os, rfl⟩ := h
    exact ⟨h1, Go.Lib.below_grow _ w (Nat.le_refl _) k os⟩
  clear ht
  go_enter Tryd.func53, Tryd.ntmps53
  go_wp2_with (go_at_call 70; ((with_reducible refine CF.out.mono ?_); rintro e w1 ⟨rfl, hb⟩))
  go_ret
  exact ⟨rfl, hb⟩
def joinI (b : UInt8) (zs : List Int) : List UInt8 := Lib.join (zs.map Lib.itoa) [b]
theorem join_len (sep : List UInt8) (m : Nat) (hs : sep.length ≤ 1) : ∀ L : List (List UInt8), (∀ l ∈ L, l.length ≤ m) → (Lib.join L sep).length ≤ (m + 1) * L.length
  | [], _ => by simp [Lib.join, List.intercalate]
  | [x], h => by
    have := h x (by simp)
    rw [Lib.join_one]; simp; omega
  | x :: y :: M, h => by
    have ih := join_len sep m hs (y :: M) (fun l hl => h l (by simp only [List.mem_cons] at hl ⊢; exact .inr hl))
    have e : Lib.join (x :: y :: M) sep = x ++ sep ++ Lib.join (y :: M) sep := by simp [Lib.join, List.intercalate]
    have hx := h x (by simp)
    rw [e, List.length_append, List.length_append]
    simp only [List.length_cons] at ih ⊢
    rw [Nat.mul_add]
    omega
theorem joinI_len (b : UInt8) {zs : List Int} (h : ∀ z ∈ zs, -9223372036854775808 ≤ z ∧ z ≤ 9223372036854775807) : (joinI b zs).length ≤ 22 * zs.length := by
  have := join_len [b] 21 (by simp) (zs.map Lib.itoa) (fun l hl => by
    obtain ⟨z, hz, rfl⟩ := List.mem_map.1 hl
    exact Lib.itoa_length_le z (h z hz).1 (h z hz).2)
  rw [List.length_map] at this
  exact this
/-- strings.Join of a row of texts of the call's own, at a byte. -/
theorem c_joinRow (v : Value) (base n : Nat) (b : UInt8) (L : List (List UInt8)) (w : World) (hL : L.length = n) (hO : w.ownsRow base 9 1 v n (strs L)) (hlen : (Lib.join L [b]).length ≤ 1000000000) (hn : n ≤ 1100000) :
    Calls Tryd.prog 52 #[v, .string ⟨#[b]⟩] w fun e w' => e = .returned (.string (str (Lib.join L [b]))) ∧ Below w.heap.size w w' := by
  subst hL
  rcases hO.2 with ⟨rfl, h0⟩ | ⟨gb, cap, cur, rfl, _, hgb, hnc, hcm, _⟩
  · obtain rfl := List.eq_nil_of_length_eq_zero h0
    refine (Tryd.strings_Join_none none 0 ⟨#[b]⟩ w).mono fun e w' h => ?_
    obtain ⟨rfl, rfl⟩ := h
    exact ⟨rfl, Below.refl _ _⟩
  · have hm : (L.map str).map (·.data.toList) = L := by
      rw [List.map_map]
      conv => rhs; rw [← List.map_id L]
      exact List.map_congr_left fun l _ => by simp [str]
    have := Tryd.strings_Join gb 0 cap (L.map str) ⟨#[b]⟩ w (fun j x hj => by
        obtain ⟨l, hl, rfl⟩ := List.getElem?_eq_some_iff.1 hj
        have hjl : j < L.length := by simpa using l
        have := (own_get hO (strs_get hjl)).1
        rw [Nat.zero_add, this]
        simp [List.getD_eq_getElem?_getD, hjl]) (own_lo hO (Nat.le_refl _) gb rfl) (by simp only [List.length_map]; omega) (by simpa using hnc) (by rw [hm]; exact Nat.le_trans hlen (by decide))
    rw [hm, List.length_map] at this
    exact this
set_option maxHeartbeats 2000000 in
theorem c_joined (A : Option Addr) (c : Nat) (b : UInt8) (zs : List Int) (w : World) (hR : RdRow w A (nums .i64 zs)) (hn : zs.length ≤ 1048577) (hz : ∀ z ∈ zs, -9223372036854775808 ≤ z ∧ z ≤ 9223372036854775807) (ht : TabW w) :
    Calls Tryd.prog 79 #[.slice A zs.length c, .string ⟨#[b]⟩] w fun e w' => e = .returned (.string (str (joinI b zs))) ∧ Below w.heap.size w w' := by
  have HR := Lib.hid hR
  have HZ := Lib.hid hz
  have HT : Hid (TabW w) := ht
  clear hR hz ht
  go_enter Tryd.func79, Tryd.ntmps79
  go_wp2
  go_loopw [10, 5] (fun i v wr => ∃ k : Nat, k ≤ zs.length ∧ i = .int .i64 k ∧ Hid (wr.ownsRow w.heap.size 9 1 v k (strs ((zs.take k).map Lib.itoa))) ∧ Hid (Below w.heap.size w wr)) (fun i _ _ => zs.length - (intOf i).toNat)
  case atStart => exact ⟨0, by omega, rfl, own_nil _ _ _ _, Below.refl _ _⟩
  case round =>
    obtain ⟨k, hk, rfl, hO, hB⟩ := hrel
    by_cases hlt : k < zs.length
    · have d1 : decide ((k : Int) < (zs.length : Int)) = true := by simp; omega
      have k0 : (0 : Int) ≤ (k : Int) := by omega
      have k1 : (k : Int) < (zs.length : Int) := by omega
      have hg : (nums .i64 zs)[k]? = some (.int .i64 zs[k]) := by simp [nums, hlt]
      obtain ⟨ad, rfl, x0⟩ := (HR.out.below hB.out) k _ hg
      have hzk := HZ.out _ (List.getElem_mem hlt)
      have HE : Hid (strs ((zs.take (k + 1)).map Lib.itoa) = strs ((zs.take k).map Lib.itoa) ++ [.string (str (Lib.itoa zs[k]))]) := by
        rw [Hid, List.take_add_one, List.getElem?_eq_getElem hlt]
        rw [strs, strs, List.map_append, List.map_append]
        rfl
      generalize zs[k] = z at *
      have CD := Lib.hid (c_decimalI z hzk.1 hzk.2 wr (tab_below HT.out hB.out))
      clear hg
      go_wp2_with (first
        | (go_at_call 53; ((with_reducible refine CD.out.mono ?_); rintro e w1 ⟨rfl, hb⟩; have HO1 := Lib.hid (own_below hO.out hb); have HB1 := Lib.hid (below_then hB.out hb); clear hb))
        | (at_builtin; refine ap1 rfl (.tmp 14) (.tmp 17) 23 9 rfl (.string (str [])) 1 16 w.heap.size Tryd.underlying23 (by kernel_rfl) rfl (by decide) u5 k (strs ((zs.take k).map Lib.itoa)) [.string (str (Lib.itoa z))] rfl rfl (by simp) rfl rfl HO1.out HB1.out.size (by omega) (by omega) ?_; intro g3 d3 w5 hown hg3 hat; have HB5 := Lib.hid (below_grown HB1.out hg3 HO1.out (Nat.le_refl _) HB1.out.size); have HO5 := Lib.hid hown; clear hown hat hg3))
      go_roundw
      case rel => exact ⟨k + 1, by omega, by go_num, by rw [HE.out]; exact HO5, HB5⟩
      case measure => simp [intOf]; omega
    · obtain rfl : k = zs.length := by omega
      have d1 : decide ((zs.length : Int) < (zs.length : Int)) = false := by simp
      rw [List.take_length] at hO
      have hl := joinI_len b HZ.out
      have CJ := Lib.hid (c_joinRow u5 w.heap.size zs.length b (zs.map Lib.itoa) wr (by simp) hO.out (by unfold joinI at hl; omega) (by omega))
      clear hl
      go_wp2_with (go_at_call 52; ((with_reducible refine CJ.out.mono ?_); rintro e w1 ⟨rfl, hb⟩))
      exact bodyPost_ret (v := .string (str (Lib.join (zs.map Lib.itoa) [b]))) (by simp [results, Tryd.results79, go_sem]) rfl ⟨rfl, below_then hB.out hb⟩
end Go.Proofs.YtdcemmhfbfogdaaDoor
