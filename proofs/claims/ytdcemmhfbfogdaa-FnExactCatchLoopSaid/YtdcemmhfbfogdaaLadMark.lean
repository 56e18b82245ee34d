/- Texts that mark: the law's function. -/
import Derived.Test.YtdcemmhfbfogdaaLadICatch
import Derived.Test.YtdcemmhfbfogdaaFabLaw
import Derived.Test.YtdcemmhfbfogdaaTextWalk
namespace Go.Proofs.Ytdcemmhfbfogdaa
open Go.RowKit
set_option linter.unusedVariables false
set_option linter.unusedSimpArgs false
set_option maxRecDepth 100000

def mkT (k : Nat) : List UInt8 := [109] ++ Lib.decDigits k
set_option maxHeartbeats 1000000 in
theorem c_markText (k : Nat) (h1 : 1 ≤ k) (h2 : k ≤ 100000000) (w : World) : Calls Try.prog 55 #[.int .i64 (k : Int)] w fun e w' => e = .returned (.string (str (mkT k))) ∧ Below w.heap.size w w' := by
  have d0 : decide ((k : Int) ≤ 0) = false := by simp; omega
  have HLEN : Hid ((Lib.decDigits k).length ≤ 9) := dec_len 8 k (by simp; omega)
  go_enter Try.func55, Try.ntmps55
  go_wp2
  go_loopw [0, 3] (fun x o wr => ∃ (j : Nat) (l : List UInt8), x = .int .i64 (j : Int) ∧ o = .string (str l) ∧ j ≤ k ∧ Hid ((j = 0 → Lib.decDigits k = l) ∧ (0 < j → Lib.decDigits k = Lib.decDigits j ++ l)) ∧ Hid (Below w.heap.size w wr)) (fun x _ _ => (intOf x).toNat)
  case atStart => exact ⟨k, [], rfl, rfl, Nat.le_refl _, And.intro (fun h => by omega) (fun _ => by simp), Below.refl _ _⟩
  case round =>
    obtain ⟨j, l, rfl, rfl, hjk, hE, hB⟩ := hrel
    by_cases hj : 0 < j
    · have d1 : decide ((0 : Int) < (j : Int)) = true := by simp; omega
      have hl : l.length ≤ 9 := by
        have := congrArg List.length (hE.out.2 hj)
        rw [List.length_append] at this
        have := HLEN.out
        omega
      have hdc := digC_nat j
      have hcv : ∀ wj : World, (convert 52 9 (.slice (some ⟨wj.heap.size, 0, none⟩) 1 1)).run Try.prog (wj.alloc (.cells #[.int .u8 (48 + (j : Int) % 10)] 5 (0, 0))) = .ok (.string (str [digC j])) (wj.alloc (.cells #[.int .u8 (48 + (j : Int) % 10)] 5 (0, 0))) := fun wj => conv_one hdc (heap_alloc_new wj _)
      have tm : (j : Int).tmod 10 = (j : Int) % 10 := Int.tmod_eq_emod_of_nonneg (by omega)
      have wa : IntKind.i64.wrap (48 + (j : Int) % 10) = 48 + (j : Int) % 10 := IntWalk.i64_in _ (by omega)
      have wb : IntKind.u8.wrap (48 + (j : Int) % 10) = 48 + (j : Int) % 10 := by rw [IntKind.wrap_u8]; omega
      have wq : IntKind.i64.wrap ((j : Int).tdiv 10) = ((j / 10 : Nat) : Int) := by rw [Int.tdiv_eq_ediv_of_nonneg (by omega)]; exact IntWalk.i64_in _ (by omega)
      have wq2 : IntKind.i64.wrap ((j : Int) / 10) = ((j / 10 : Nat) : Int) := by exact IntWalk.i64_in _ (by omega)
      have hz : ¬ 9223372036854775807 < (str [digC j]).size + (str l).size := by rw [str_size, str_size]; simp; omega
      have HN : Hid ((j / 10 = 0 → Lib.decDigits k = [digC j] ++ l) ∧ (0 < j / 10 → Lib.decDigits k = Lib.decDigits (j / 10) ++ ([digC j] ++ l))) := by
        have e := hE.out.2 hj
        constructor
        · intro h0
          rw [e, dec_low (by omega)]
        · intro h0
          rw [e, dec_high (by omega), List.append_assoc]
      go_wp2
      go_roundw
      case rel => exact ⟨j / 10, [digC j] ++ l, rfl, by rw [str_append], by omega, HN, below_alloc hB.out _⟩
      case measure => simp [intOf]; omega
    · obtain rfl : j = 0 := by omega
      have E := Lib.hid (hE.out.1 rfl)
      have hz : ¬ 9223372036854775807 < 1 + (str l).size := by
        have := HLEN.out
        rw [E.out] at this
        rw [str_size]; omega
      go_wp2
      exact bodyPost_ret (v := .string ((⟨#[109]⟩ : ByteArray) ++ str l)) (by simp [results, Try.results55, go_sem]) rfl ⟨by rw [show (⟨#[109]⟩ : ByteArray) = str [109] from rfl, str_append, mkT, E.out], hB.out⟩

/-! ### Rows of texts marked -/
/-- The first i texts are marks from k0 on; the others are L's. -/
def mkL (k0 : Nat) (L : List (List UInt8)) (i : Nat) : List (List UInt8) := (List.range L.length).map fun j => if j < i then mkT (k0 + j) else L.getD j []
theorem mkL_len (k0 : Nat) (L : List (List UInt8)) (i : Nat) : (mkL k0 L i).length = L.length := by simp [mkL]
theorem mkL_zero (k0 : Nat) (L : List (List UInt8)) : mkL k0 L 0 = L := by
  apply List.ext_getElem (by simp [mkL])
  intro j h1 h2
  simp [mkL, List.getD_eq_getElem?_getD, h2]
theorem mkL_set (k0 : Nat) (L : List (List UInt8)) {i : Nat} (h : i < L.length) : (strs (mkL k0 L i)).set i (.string (str (mkT (k0 + i)))) = strs (mkL k0 L (i + 1)) := by
  have : (mkL k0 L i).set i (mkT (k0 + i)) = mkL k0 L (i + 1) := by
    apply List.ext_getElem (by simp [mkL])
    intro j h1 h2
    simp only [mkL, List.getElem_set, List.getElem_map, List.getElem_range]
    by_cases e : i = j
    · subst e; rw [if_pos rfl, if_pos (Nat.lt_succ_self _)]
    · rw [if_neg e]
      by_cases h3 : j < i
      · rw [if_pos h3, if_pos (by omega)]
      · rw [if_neg h3, if_neg (by omega)]
  rw [← this, strs, strs, List.map_set]
/-- All texts are marks. -/
def mkA (k0 n : Nat) : List (List UInt8) := (List.range n).map fun j => mkT (k0 + j)
theorem mkL_all (k0 : Nat) (L : List (List UInt8)) : mkL k0 L L.length = mkA k0 L.length := by
  unfold mkL mkA
  exact List.map_congr_left fun j hj => by rw [if_pos (by simpa using hj)]
theorem mkA_len (k0 n : Nat) : (mkA k0 n).length = n := by simp [mkA]
theorem grown_refl (w : World) (r : Option Nat) : w.grownBy w r := ⟨rfl, rfl, rfl, Nat.le_refl _, fun _ _ _ => rfl⟩
theorem grown_below {w w1 w2 : World} {r : Option Nat} (h : w.grownBy w1 r) (hb : Below w1.heap.size w1 w2) : w.grownBy w2 r :=
  ⟨hb.os.trans h.os, hb.tape.trans h.tape, hb.output.trans h.output, Nat.le_trans h.size hb.size, fun k hk hr => (hb.block k (Nat.lt_of_lt_of_le hk h.size)).trans (h.block k hk hr)⟩
theorem grown_set {w w1 : World} {g : Nat} (h : w.grownBy w1 (some g)) (i : Nat) (u : Value) : w.grownBy (w1.setCell ⟨g, i, none⟩ u) (some g) := by
  have ht := Tou.setCell w1 g i u
  exact ⟨ht.os.trans h.os, ht.tape.trans h.tape, ht.output.trans h.output, by rw [ht.size]; exact h.size, fun k hk hr => (ht.block k (fun e => hr (by rw [e]))).trans (h.block k hk hr)⟩
set_option maxHeartbeats 2000000 in
theorem c_markStringS (v : Value) (base k0 : Nat) (L : List (List UInt8)) (w : World) (h : w.ownsRow base 9 1 v L.length (strs L)) (hn : L.length ≤ 1048576) (h1 : 1 ≤ k0) (h2 : k0 ≤ 1048576) :
    Calls Try.prog 35 #[v, .int .i64 (k0 : Int)] w fun e w' => e = .returned (.int .i64 ((k0 : Int) + (L.length : Int))) ∧ w'.ownsRow base 9 1 v L.length (strs (mkA k0 L.length)) ∧ w.grownBy w' v.ownBlock := by
  obtain ⟨A, c, rfl, hA⟩ := own_form h
  have H0 : Hid (w.ownsRow base 9 1 (.slice A L.length c) L.length (strs (mkL k0 L 0))) := by rw [Hid, mkL_zero]; exact h
  clear h
  go_enter Try.func35, Try.ntmps35
  go_wp2
  go_loopw [1, 5] (fun x i wr => ∃ k : Nat, k ≤ L.length ∧ i = .int .i64 k ∧ x = .int .i64 ((k0 : Int) + (k : Int)) ∧ Hid (wr.ownsRow base 9 1 (.slice A L.length c) L.length (strs (mkL k0 L k))) ∧ Hid (w.grownBy wr (Value.slice A L.length c).ownBlock)) (fun _ i _ => L.length - (intOf i).toNat)
  case atStart => exact ⟨0, by omega, rfl, by simp, H0, grown_refl _ _⟩
  case round =>
    obtain ⟨k, hk, rfl, rfl, hO, hG⟩ := hrel
    by_cases hlt : k < L.length
    · have d1 : decide ((k : Int) < (L.length : Int)) = true := by simp; omega
      have y0 : (0 : Int) ≤ (k : Int) := by omega
      have y1 : (k : Int) < (L.length : Int) := by omega
      obtain ⟨g, rfl, hbg⟩ := hA (by omega)
      have CM := Lib.hid (c_markText (k0 + k) (by omega) (by omega) wr)
      rw [Int.natCast_add] at CM
      have HS := Lib.hid (mkL_set k0 L hlt)
      have wk : IntKind.i64.wrap ((k0 : Int) + (k : Int) + 1) = (k0 : Int) + (k : Int) + 1 := IntWalk.i64_in _ (by omega)
      go_wp2_with (go_at_call 55; ((with_reducible refine CM.out.mono ?_); rintro e w1 ⟨rfl, hb⟩; have hO1 := own_below hO.out hb; have hG1 := Lib.hid (grown_below hG.out hb); have hj : k < (mkL k0 L k).length := (by rw [mkL_len]; exact hlt); obtain ⟨hx0, hf0⟩ := own_get hO1 (strs_get hj); have HO2 := Lib.hid (own_set hO1 k (by omega) (.string (str (mkT (k0 + k))))); clear hO1 hj hb))
      go_roundw
      case rel => exact ⟨k + 1, by omega, by go_num, by go_num, by have := HO2.out; rw [HS.out] at this; exact this, grown_set hG1.out _ _⟩
      case measure => simp [intOf]; omega
    · obtain rfl : k = L.length := by omega
      have d1 : decide ((L.length : Int) < (L.length : Int)) = false := by simp
      have HE := Lib.hid (mkL_all k0 L)
      go_wp2
      exact bodyPost_ret (v := .int .i64 ((k0 : Int) + (L.length : Int))) (by simp [results, Try.results35, go_sem]) rfl ⟨rfl, by have := hO.out; rw [HE.out] at this; exact this, hG.out⟩
end Go.Proofs.Ytdcemmhfbfogdaa
