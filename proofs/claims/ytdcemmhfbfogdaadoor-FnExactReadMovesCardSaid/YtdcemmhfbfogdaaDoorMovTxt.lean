/- The text of moves: the reference's function. -/
import Derived.Test.YtdcemmhfbfogdaaDoorTextWalk
import Derived.Test.YtdcemmhfbfogdaaDoorMoveRows
import Derived.Test.YtdcemmhfbfogdaaDoorAppKeep
import Derived.Deep.RegionHeld3
import Derived.BigRegion
namespace Go.Proofs.YtdcemmhfbfogdaaDoor
open Go.RowKit
set_option linter.unusedVariables false
set_option linter.unusedSimpArgs false
set_option maxRecDepth 100000

/-- The text of one move. -/
def mvT (a b g : Int) : List UInt8 := Lib.decDigits a.toNat ++ [62] ++ Lib.decDigits b.toNat ++ [58] ++ Lib.decDigits g.toNat
/-- The text of the first k moves. -/
def mvTxt (s t g : Nat → Int) : Nat → List UInt8
  | 0 => []
  | k + 1 => mvTxt s t g k ++ (if k = 0 then [] else [32]) ++ mvT (s k) (t k) (g k)
theorem mvTxt_one (s t g : Nat → Int) {k : Nat} (h : k = 0) : mvTxt s t g (k + 1) = mvTxt s t g k ++ mvT (s k) (t k) (g k) := by
  rw [mvTxt, if_pos h, List.append_nil]
theorem mvTxt_next (s t g : Nat → Int) {k : Nat} (h : 0 < k) : mvTxt s t g (k + 1) = mvTxt s t g k ++ [32] ++ mvT (s k) (t k) (g k) := by
  rw [mvTxt, if_neg (by omega)]
structure MvOk (a b g : Int) : Prop where
  a : 0 ≤ a ∧ a ≤ 4
  b : 0 ≤ b ∧ b ≤ 4
  g : 1 ≤ g ∧ g ≤ 5000
theorem okMove_bd {a b g : Int} (h : okMove a b g = true) : MvOk a b g := by
  simp only [okMove, Bool.and_eq_true, inB, decide_eq_true_eq] at h
  obtain ⟨h1, h2⟩ := h
  simp only [mayMove, Bool.or_eq_true, Bool.and_eq_true, beq_iff_eq] at h1
  refine ⟨?_, ?_, by omega⟩ <;> omega
theorem mvT_len {a b g : Int} (h : MvOk a b g) : (mvT a b g).length ≤ 20 := by
  have h1 := dec_len 0 a.toNat (by have := h.a; omega)
  have h2 := dec_len 0 b.toNat (by have := h.b; omega)
  have h3 := dec_len 3 g.toNat (by have := h.g; omega)
  simp only [mvT, List.length_append, List.length_singleton]
  omega
theorem mvTxt_len {s t g : Nat → Int} {n : Nat} (h : ∀ j, j < n → MvOk (s j) (t j) (g j)) : ∀ k, k ≤ n → (mvTxt s t g k).length ≤ 21 * k
  | 0, _ => by simp [mvTxt]
  | k + 1, hk => by
    have h1 := mvTxt_len h k (by omega)
    have h2 := mvT_len (h k (by omega))
    simp only [mvTxt, List.length_append]
    split <;> simp <;> omega
/-- MovesText's answer. -/
def movTextF (n : Nat) (s t g : Nat → Int) : List UInt8 := if (allB n (fun j => okMove (s j) (t j) (g j)) && decide (n ≤ 60)) = true then mvTxt s t g n else []
/-- What a region of the text keeps. -/
abbrev MW (w0 : World) (ad : Addr) (k : Nat) (A : Option Addr) (n : Nat) (s t g : Nat → Int) (w' : World) : Prop :=
  (w'.cell? (ad.add (k * 3)) = some (.int .i8 (s k)) ∧ w'.cell? ⟨(ad.add (k * 3)).block, (ad.add (k * 3)).off + 1, none⟩ = some (.int .i8 (t k)) ∧ w'.cell? ⟨(ad.add (k * 3)).block, (ad.add (k * 3)).off + 2, none⟩ = some (.int .i16 (g k))) ∧ Hid (MovesAt w' A n s t g) ∧ Hid (Below w0.heap.size w0 w')
section
variable {w0 w' w1 : World} {ad : Addr} {k n : Nat} {A : Option Addr} {s t g : Nat → Int}
theorem mw_below (hb : Below w'.heap.size w' w1) (h : MW w0 ad k A n s t g w') : MW w0 ad k A n s t g w1 :=
  ⟨⟨(hb.cell (World.block_lt_of_cell? w' _ h.1.1)).trans h.1.1, (hb.cell (World.block_lt_of_cell? w' _ h.1.2.1)).trans h.1.2.1, (hb.cell (World.block_lt_of_cell? w' _ h.1.2.2)).trans h.1.2.2⟩, h.2.1.out.below hb, below_then h.2.2.out hb⟩
theorem mw_drew (h : MW w0 ad k A n s t g w') : MW w0 ad k A n s t g w'.drew := ⟨h.1, ⟨h.2.1.out.at_⟩, below_drew h.2.2.out⟩
theorem mw_B (h : MW w0 ad k A n s t g w') : Below w0.heap.size w0 w' := h.2.2.out
theorem mw_M (h : MW w0 ad k A n s t g w') : MovesAt w' A n s t g := h.2.1.out
end
theorem size_no {a b : Nat} (h1 : a ≤ 4000000) (h2 : b ≤ 4000000) : ¬ 9223372036854775807 < a + b := by omega
set_option maxHeartbeats 4000000 in
theorem c_l07Text (A : Option Addr) (n c : Nat) (s t g : Nat → Int) (w : World) (h : MovesAt w A n s t g) (hn : n ≤ 60) (hok : ∀ j, j < n → MvOk (s j) (t j) (g j)) :
    Calls Tryd.prog 41 #[.slice A n c] w fun e w' => e = .returned (.string (str (mvTxt s t g n))) ∧ Below w.heap.size w w' := by
  have H := Lib.hid h
  have HK := Lib.hid hok
  have CD := Lib.hid (fun (x : Int) (hx : 0 ≤ x ∧ x ≤ 5000) w => (show Calls Tryd.prog 49 #[.int .i64 x] w fun e w' => e = .returned (.string (str (Lib.decDigits x.toNat))) ∧ Below w.heap.size w w' from by
    have := c_Decimal x.toNat (by omega) w
    rw [Int.toNat_of_nonneg hx.1] at this
    exact this))
  clear h hok
  go_enter Tryd.func41, Tryd.ntmps41
  go_wp2
  go_loopw [3, 4] (fun x i wr => ∃ k : Nat, k ≤ n ∧ i = .int .i64 k ∧ x = .string (str (mvTxt s t g k)) ∧ Hid (Below w.heap.size w wr)) (fun _ i _ => n - (intOf i).toNat)
  case atStart => exact ⟨0, by omega, rfl, rfl, Below.refl _ _⟩
  case round =>
    obtain ⟨k, hk, rfl, rfl, hB⟩ := hrel
    by_cases hlt : k < n
    · have d1 : decide ((k : Int) < (n : Int)) = true := by simp; omega
      have k0 : (0 : Int) ≤ (k : Int) := by omega
      have k1 : (k : Int) < (n : Int) := by omega
      have HM := Lib.hid (H.out.below hB.out)
      obtain ⟨ad, rfl, x0, x1, x2⟩ := HM.out.at_ k hlt
      have hmk := HK.out k hlt
      have HLT := Lib.hid (mvTxt_len HK.out k hk)
      have hl1 := mvTxt_len HK.out k hk
      have HMW : Hid (MW w ad k (some ad) n s t g wr.drew) := mw_drew ⟨⟨x0, x1, x2⟩, HM.out, hB.out⟩
      obtain ⟨⟨a0, a1⟩, ⟨b0, b1⟩, g0, g1⟩ := hmk
      have CA := Lib.hid (CD.out (s k) ⟨a0, by omega⟩)
      have CB := Lib.hid (CD.out (t k) ⟨b0, by omega⟩)
      have CG := Lib.hid (CD.out (g k) ⟨by omega, g1⟩)
      have wa : IntKind.i64.wrap (s k) = s k := IntWalk.i64_in _ (by omega)
      have wb : IntKind.i64.wrap (t k) = t k := IntWalk.i64_in _ (by omega)
      have wg : IntKind.i64.wrap (g k) = g k := IntWalk.i64_in _ (by omega)
      have la : (str (Lib.decDigits (s k).toNat)).size ≤ 10 := by rw [str_size]; have := dec_len 0 (s k).toNat (by omega); omega
      have lb : (str (Lib.decDigits (t k).toNat)).size ≤ 10 := by rw [str_size]; have := dec_len 0 (t k).toNat (by omega); omega
      have lg : (str (Lib.decDigits (g k).toNat)).size ≤ 10 := by rw [str_size]; have := dec_len 3 (g k).toNat (by omega); omega
      have lt1 : (str (mvTxt s t g k)).size ≤ 2000 := by rw [str_size]; omega
      have EM : Hid (mvT (s k) (t k) (g k) = Lib.decDigits (s k).toNat ++ [62] ++ Lib.decDigits (t k).toNat ++ [58] ++ Lib.decDigits (g k).toNat) := rfl
      generalize Lib.decDigits (s k).toNat = da at CA la EM
      generalize Lib.decDigits (t k).toNat = db at CB lb EM
      generalize Lib.decDigits (g k).toNat = dg at CG lg EM
      have z1 : ¬ 9223372036854775807 < (str da).size + 1 := by omega
      have z2 : ¬ 9223372036854775807 < (str da).size + 1 + (str db).size := by omega
      have z3 : ¬ 9223372036854775807 < (str da).size + 1 + (str db).size + 1 := by omega
      have z4 : ¬ 9223372036854775807 < (str da).size + 1 + (str db).size + 1 + (str dg).size := by omega
      have q1 : (⟨#[62]⟩ : ByteArray) = str [62] := rfl
      have q2 : (⟨#[58]⟩ : ByteArray) = str [58] := rfl
      have q3 : (⟨#[32]⟩ : ByteArray) = str [32] := rfl
      have Q := Lib.hid (And.intro q1 (And.intro q2 q3))
      clear q1 q2 q3 hl1
      by_cases hk0 : 0 < k
      · have E := Lib.hid (mvTxt_next s t g (k := k) hk0)
        have z0 : ¬ 9223372036854775807 < (str (mvTxt s t g k)).size + 1 := by omega
        have z5 : ¬ 9223372036854775807 < (str (mvTxt s t g k)).size + 1 + ((str da).size + 1 + (str db).size + 1 + (str dg).size) := by omega
        generalize mvTxt s t g k = tx at E lt1 z0 z5
        have dk : decide ((0 : Int) < (k : Int)) = true := by simp; omega
        go_wp2
        go_region_held3 (fun w' => (w'.cell? (ad.add (k * 3)) = some (.int .i8 (s k)) ∧ w'.cell? ⟨(ad.add (k * 3)).block, (ad.add (k * 3)).off + 1, none⟩ = some (.int .i8 (t k)) ∧ w'.cell? ⟨(ad.add (k * 3)).block, (ad.add (k * 3)).off + 2, none⟩ = some (.int .i16 (g k))) ∧ Hid (MovesAt w' (some ad) n s t g) ∧ Hid (Below w.heap.size w w'))
          (first
            | exact HMW.out
            | exact mw_below hb1 (by assumption)
            | exact mw_below hb2 (by assumption)
            | exact mw_below hb3 (by assumption)
            | exact mw_below hb1 HMW.out
            | exact mw_below hb2 (mw_below hb1 HMW.out)
            | exact mw_below hb3 (mw_below hb2 (mw_below hb1 HMW.out)))
          (first
            | (go_at_call 49; ((with_reducible refine (CA.out _).mono ?_); rintro e wa1 ⟨rfl, hb1⟩))
            | (go_at_call 49; ((with_reducible refine (CB.out _).mono ?_); rintro e wa2 ⟨rfl, hb2⟩))
            | (go_at_call 49; ((with_reducible refine (CG.out _).mono ?_); rintro e wa3 ⟨rfl, hb3⟩)))
        all_goals
          have hB3 := mw_B (mw_below hb3 (mw_below hb2 (mw_below hb1 HMW.out)))
          go_wp2
          go_round
          case rel => exact ⟨k + 1, by omega, by go_num, by rw [E.out, EM.out, Q.out.1, Q.out.2.1, Q.out.2.2]; simp only [str_append, List.append_assoc], hB3⟩
          case measure => simp [intOf]; omega
      · have E := Lib.hid (mvTxt_one s t g (k := k) (by omega))
        have z5 : ¬ 9223372036854775807 < (str (mvTxt s t g k)).size + ((str da).size + 1 + (str db).size + 1 + (str dg).size) := by omega
        generalize mvTxt s t g k = tx at E lt1 z5
        have dk : decide ((0 : Int) < (k : Int)) = false := by simp; omega
        go_wp2
        go_region_held3 (fun w' => (w'.cell? (ad.add (k * 3)) = some (.int .i8 (s k)) ∧ w'.cell? ⟨(ad.add (k * 3)).block, (ad.add (k * 3)).off + 1, none⟩ = some (.int .i8 (t k)) ∧ w'.cell? ⟨(ad.add (k * 3)).block, (ad.add (k * 3)).off + 2, none⟩ = some (.int .i16 (g k))) ∧ Hid (MovesAt w' (some ad) n s t g) ∧ Hid (Below w.heap.size w w'))
          (first
            | exact HMW.out
            | exact mw_below hb1 (by assumption)
            | exact mw_below hb2 (by assumption)
            | exact mw_below hb3 (by assumption)
            | exact mw_below hb1 HMW.out
            | exact mw_below hb2 (mw_below hb1 HMW.out)
            | exact mw_below hb3 (mw_below hb2 (mw_below hb1 HMW.out)))
          (first
            | (go_at_call 49; ((with_reducible refine (CA.out _).mono ?_); rintro e wa1 ⟨rfl, hb1⟩))
            | (go_at_call 49; ((with_reducible refine (CB.out _).mono ?_); rintro e wa2 ⟨rfl, hb2⟩))
            | (go_at_call 49; ((with_reducible refine (CG.out _).mono ?_); rintro e wa3 ⟨rfl, hb3⟩)))
        all_goals
          have hB3 := mw_B (mw_below hb3 (mw_below hb2 (mw_below hb1 HMW.out)))
          go_wp2
          go_round
          case rel => exact ⟨k + 1, by omega, by go_num, by rw [E.out, EM.out, Q.out.1, Q.out.2.1]; simp only [str_append, List.append_assoc], hB3⟩
          case measure => simp [intOf]; omega
    · obtain rfl : k = n := by omega
      have d1 : decide ((k : Int) < (k : Int)) = false := by simp
      go_wp2
      exact bodyPost_ret (v := .string (str (mvTxt s t g k))) (by simp [results, Tryd.results41, go_sem]) rfl ⟨rfl, hB.out⟩
end Go.Proofs.YtdcemmhfbfogdaaDoor
