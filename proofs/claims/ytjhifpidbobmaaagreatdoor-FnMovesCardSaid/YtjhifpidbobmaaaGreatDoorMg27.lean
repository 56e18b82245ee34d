/- Texts laid together: NumPure, SplitLib. -/
import Derived.Test.YtjhifpidbobmaaaGreatDoorMg26
import Derived.Lib.ParseIntBCases
import Derived.Test.YtjhifpidbobmaaaGreatDoorMg24
import Derived.Test.YtjhifpidbobmaaaGreatDoorMg16
import Derived.Lib.SplitLaws
import Derived.Lib.CountLaws
/- Numbers in decimal, canonical: plain lists. -/
namespace Go.Proofs.YtjhifpidbobmaaaGreatDoor
open Go.RowKit
set_option linter.unusedVariables false
set_option linter.unusedSimpArgs false

def isD (c : UInt8) : Bool := decide (48 ≤ c.toNat) && decide (c.toNat ≤ 57)
/-- What digits spell, behind what was spelt before. -/
def valF (acc : Nat) (l : List UInt8) : Nat := l.foldl (fun n c => 10 * n + (c.toNat - 48)) acc
def valD (l : List UInt8) : Nat := valF 0 l
theorem valD_snoc (l : List UInt8) (c : UInt8) : valD (l ++ [c]) = 10 * valD l + (c.toNat - 48) := by simp [valD, valF]
theorem valF_ge : ∀ (l : List UInt8) (acc : Nat), acc ≤ valF acc l
  | [], acc => Nat.le_refl _
  | c :: l, acc => by
    have := valF_ge l (10 * acc + (c.toNat - 48))
    simp only [valF, List.foldl_cons] at this ⊢
    omega
/-- The reference takes a text for a number. -/
def okNum (l : List UInt8) : Bool := !l.isEmpty && decide (l.length ≤ 9) && !(decide (l.head? = some 48) && decide (1 < l.length)) && l.all isD
theorem valD_lt : ∀ (k : Nat) (l : List UInt8), l.length = k → l.all isD = true → valD l < 10 ^ k := by
  intro k
  induction k with
  | zero => intro l h _; obtain rfl := List.eq_nil_of_length_eq_zero h; simp [valD, valF]
  | succ k ih =>
    intro l h hd
    have hne : l ≠ [] := fun e => by subst e; simp at h
    rw [← List.dropLast_concat_getLast hne] at hd ⊢
    simp only [List.all_append, List.all_cons, List.all_nil, Bool.and_true, Bool.and_eq_true] at hd
    have h1 := ih l.dropLast (by simp; omega) hd.1
    have h2 := hd.2
    simp only [isD, Bool.and_eq_true, decide_eq_true_eq] at h2
    rw [valD_snoc, Nat.pow_succ]
    omega
theorem dig_isD (n : Nat) : isD (digC n) = true := by
  have := digC_nat n
  simp only [isD, Bool.and_eq_true, decide_eq_true_eq]
  omega
theorem dec_facts : ∀ n : Nat, (Lib.decDigits n).all isD = true ∧ valD (Lib.decDigits n) = n ∧ Lib.decDigits n ≠ [] ∧ ((Lib.decDigits n).head? = some 48 → n = 0) := by
  intro n
  induction n using Nat.strongRecOn with
  | _ n ih =>
    have hg := digC_nat n
    by_cases h : n < 10
    · rw [dec_low h]
      refine ⟨by simp [dig_isD], ?_, by simp, ?_⟩
      · have : valD ([] ++ [digC n]) = _ := valD_snoc [] (digC n)
        simp only [List.nil_append] at this
        rw [this]
        simp only [valD, valF, List.foldl_nil]
        omega
      · intro e
        simp only [List.head?_cons, Option.some.injEq] at e
        rw [e] at hg
        simp at hg
        omega
    · obtain ⟨h1, h2, h3, h4⟩ := ih (n / 10) (by omega)
      rw [dec_high h]
      refine ⟨by simp [h1, dig_isD], ?_, by simp, ?_⟩
      · rw [valD_snoc, h2]
        omega
      · intro e
        rw [List.head?_append] at e
        have : n / 10 = 0 := h4 (by
          cases hh : (Lib.decDigits (n / 10)).head? with
          | none => rw [List.head?_eq_none_iff] at hh; exact (h3 hh).elim
          | some c => rw [hh] at e; simpa using e)
        omega
theorem dec_ok {n : Nat} (h : n < 1000000000) : okNum (Lib.decDigits n) = true := by
  obtain ⟨h1, h2, h3, h4⟩ := dec_facts n
  have h5 := dec_len 8 n (by simpa using h)
  simp only [okNum, Bool.and_eq_true, Bool.not_eq_true', decide_eq_true_eq, h1, and_true]
  refine ⟨⟨by simpa using h3, h5⟩, ?_⟩
  rw [Bool.and_eq_false_iff]
  by_cases e : (Lib.decDigits n).head? = some 48
  · right
    obtain rfl := h4 e
    rw [dec_low (by omega)]
    rfl
  · left
    simp [e]
theorem dig_back {c : UInt8} (h : isD c = true) (n : Nat) : digC (10 * n + (c.toNat - 48)) = c := by
  simp only [isD, Bool.and_eq_true, decide_eq_true_eq] at h
  apply UInt8.toNat_inj.1
  have := digC_nat (10 * n + (c.toNat - 48))
  omega
theorem ok_dec : ∀ (k : Nat) (l : List UInt8), l.length = k → l ≠ [] → l.all isD = true → (l.head? = some 48 → l.length = 1) → l = Lib.decDigits (valD l) := by
  intro k
  induction k with
  | zero => intro l h hne; exact (hne (List.eq_nil_of_length_eq_zero h)).elim
  | succ k ih =>
    intro l h hne hd h0
    obtain ⟨p, c, rfl⟩ : ∃ p c, l = p ++ [c] := ⟨_, _, (List.dropLast_concat_getLast hne).symm⟩
    simp only [List.all_append, List.all_cons, List.all_nil, Bool.and_true, Bool.and_eq_true] at hd
    simp only [List.length_append, List.length_singleton, Nat.add_right_cancel_iff] at h
    rw [valD_snoc]
    have hc := hd.2
    simp only [isD, Bool.and_eq_true, decide_eq_true_eq] at hc
    by_cases hp : p = []
    · subst hp
      have : 10 * valD [] + (c.toNat - 48) < 10 := by simp only [valD, valF, List.foldl_nil]; omega
      rw [dec_low this, dig_back hd.2]
      rfl
    · have hp1 : p.head? ≠ some 48 := fun e => by
        have := h0 (by rw [List.head?_append, e]; rfl)
        have h9 : 0 < p.length := List.length_pos_iff.2 hp
        simp at this
        exact hp this
      have ihp := ih p h hp hd.1 (fun e => (hp1 e).elim)
      have hv : 1 ≤ valD p := by
        rcases Nat.eq_zero_or_pos (valD p) with hz | hz
        · exfalso
          rw [hz, dec_low (by omega)] at ihp
          exact hp1 (by rw [ihp]; rfl)
        · exact hz
      rw [dec_high (by omega), dig_back hd.2]
      have : (10 * valD p + (c.toNat - 48)) / 10 = valD p := by omega
      rw [this, ← ihp]
theorem okNum_dec {l : List UInt8} (h : okNum l = true) : l = Lib.decDigits (valD l) ∧ valD l < 1000000000 := by
  simp only [okNum, Bool.and_eq_true, Bool.not_eq_true', decide_eq_true_eq] at h
  obtain ⟨⟨⟨h1, h2⟩, h3⟩, h4⟩ := h
  have hne : l ≠ [] := by simpa using h1
  refine ⟨ok_dec _ l rfl hne h4 (fun e => ?_), ?_⟩
  · rw [Bool.and_eq_false_iff] at h3
    have hpos : 0 < l.length := List.length_pos_iff.2 hne
    rcases h3 with h3 | h3
    · rw [e] at h3; simp at h3
    · simp at h3; omega
  · have := valD_lt _ l rfl h4
    have h5 : 10 ^ l.length ≤ 10 ^ 9 := Nat.pow_le_pow_right (by omega) h2
    omega
theorem parseM_digits (M : Nat) (hM : M < 18446744073709551616) : ∀ (l : List UInt8) (acc : Nat), l.all isD = true → valF acc l ≤ M → Lib.parseUintM M acc l = .ok (valF acc l)
  | [], acc, _, _ => rfl
  | c :: l, acc, hd, hv => by
    simp only [List.all_cons, Bool.and_eq_true] at hd
    have hc := hd.1
    simp only [isD, Bool.and_eq_true, decide_eq_true_eq] at hc
    have hge := valF_ge l (10 * acc + (c.toNat - 48))
    have hv' : valF (10 * acc + (c.toNat - 48)) l ≤ M := hv
    rw [Lib.parseUintM, if_pos hc, if_neg (by omega), if_neg (by omega), Nat.mul_comm acc 10]
    exact parseM_digits M hM l _ hd.2 hv'
theorem parse_dec (B : Nat) (n : Nat) (hB : 2 ^ B - 1 < 18446744073709551616) (h1 : n ≤ 2 ^ B - 1) (h2 : n < 2 ^ (B - 1)) : Lib.parseIntB B (Lib.decDigits n) = .ok (n : Int) := by
  obtain ⟨h3, h4, h5, _⟩ := dec_facts n
  generalize hl : Lib.decDigits n = l at *
  cases l with
  | nil => exact (h5 rfl).elim
  | cons c r =>
    have hc : isD c = true := by simp only [List.all_cons, Bool.and_eq_true] at h3; exact h3.1
    simp only [isD, Bool.and_eq_true, decide_eq_true_eq] at hc
    rw [Lib.parseIntB_plain B c r (by omega) (by omega), Lib.parseUintB, if_neg (by simp), parseM_digits _ hB _ 0 h3 (by rw [show valF 0 (c :: r) = n from h4]; exact h1), show valF 0 (c :: r) = n from h4]
    simp [Lib.signlessC]
    omega
end Go.Proofs.YtjhifpidbobmaaaGreatDoor
/- The library's split at a byte is the reference's: plain lists. -/
namespace Go.Proofs.YtjhifpidbobmaaaGreatDoor
open Go.RowKit
set_option linter.unusedVariables false
set_option linter.unusedSimpArgs false

theorem index_mem (b : UInt8) : ∀ l : List UInt8, (Lib.index l [b] = -1 ∧ b ∉ l) ∨ ∃ j : Nat, Lib.index l [b] = j ∧ ∃ x r, l = x ++ b :: r ∧ b ∉ x ∧ x.length = j
  | [] => .inl ⟨by simp [Lib.index], by simp⟩
  | c :: l => by
    by_cases h : c = b
    · subst h
      exact .inr ⟨0, by rw [Lib.index]; simp [List.isPrefixOf], [], l, rfl, by simp, rfl⟩
    · have hp : ([b] : List UInt8).isPrefixOf (c :: l) = false := by simp [List.isPrefixOf, Ne.symm h]
      have hix : Lib.index (c :: l) [b] = if Lib.index l [b] == -1 then -1 else Lib.index l [b] + 1 := by rw [Lib.index, hp]; simp
      rcases index_mem b l with ⟨h1, h2⟩ | ⟨j, h1, x, r, h2, h3, h4⟩
      · exact .inl ⟨by rw [hix, h1]; rfl, by simp [Ne.symm h, h2]⟩
      · refine .inr ⟨j + 1, ?_, c :: x, r, by rw [h2]; rfl, by simp [Ne.symm h, h3], by simp [h4]⟩
        rw [hix, h1, if_neg (by simp)]
        omega
theorem splitL_none {b : UInt8} {l : List UInt8} (h : b ∉ l) : splitL b l = [l] := by
  have := splitS_of (by_ := b) (l := l) (d := []) (c := l) ⟨rfl, by simp, h⟩
  rw [splitL, this]
  rfl
theorem splitL_cons {b : UInt8} {x r : List UInt8} (h : b ∉ x) : splitL b (x ++ b :: r) = x :: splitL b r := by
  have hr := splitS_parts (by_ := b) r
  have := splitS_of (by_ := b) (l := x ++ b :: r) (d := x :: (splitS b r).1) (c := (splitS b r).2) ⟨by
    conv => lhs; rw [hr.eq]
    simp [joinD], by
    intro z hz
    rcases List.mem_cons.1 hz with rfl | hz
    · exact h
    · exact hr.d z hz, hr.c⟩
  rw [splitL, this]
  rfl
theorem splitK_is (b : UInt8) : ∀ (n : Nat) (l : List UInt8), l.length ≤ n → Lib.splitK [b] 0 (Lib.count l [b]) l = splitL b l
  | n, l, hn => by
    rcases index_mem b l with ⟨h1, h2⟩ | ⟨j, h1, x, r, h2, h3, h4⟩
    · rw [Lib.count_miss h1, splitL_none h2]
      rfl
    · have hc := Lib.count_hit (sub := [b]) (by simp) h1
      have e1 : l.drop (j + 1) = r := by rw [h2, ← h4]; simp
      have e2 : l.take j = x := by rw [h2, ← h4]; simp
      rw [hc, List.length_singleton, e1, Nat.add_comm 1, Lib.splitK, if_neg (by rw [h1]; simp), h1]
      simp only [Int.toNat_natCast, Nat.add_zero, List.length_singleton, e1, e2]
      cases n with
      | zero =>
        have : l = [] := List.eq_nil_of_length_eq_zero (by omega)
        subst this
        simp at h2
      | succ n =>
        rw [splitK_is b n r (by have := congrArg List.length h2; simp at this; omega)]
        conv => rhs; rw [h2]
        rw [splitL_cons h3]
theorem str_of_data (x : ByteArray) : str x.data.toList = x := by
  apply ByteArray.ext
  simp [str]
theorem splitB_strs (b : UInt8) (t : List UInt8) : (Lib.splitB ⟨#[b]⟩ 0 (Lib.countB (str t) ⟨#[b]⟩) (str t)).map Value.string = strs (splitL b t) := by
  have h := Lib.splitB_data ⟨#[b]⟩ 0 (Lib.countB (str t) ⟨#[b]⟩) (str t)
  have e : Lib.splitK (⟨#[b]⟩ : ByteArray).data.toList 0 (Lib.countB (str t) ⟨#[b]⟩) (str t).data.toList = splitL b t := splitK_is b t.length t (Nat.le_refl _)
  rw [e] at h
  rw [← h, strs, List.map_map]
  exact List.map_congr_left fun x _ => by show _ = Value.string (str x.data.toList); rw [str_of_data]
theorem splitB_num (b : UInt8) (t : List UInt8) : Lib.countB (str t) ⟨#[b]⟩ + 1 = (splitL b t).length := by
  have h := congrArg List.length (splitB_strs b t)
  rw [List.length_map, Lib.splitB_all ⟨#[b]⟩ (Nat.le_refl 1) 0 _ (str t) rfl] at h
  simpa [strs] using h
/-- strings.Split at a byte. -/
theorem c_Split (t : List UInt8) (b : UInt8) (m : Int) (w : World) (ht : t.length ≤ 1048576) (hm : w.cell? ⟨0, 0, none⟩ = some (.int .i64 m)) :
    Calls Tryz.prog 32 #[.string (str t), .string ⟨#[b]⟩] w fun e w' => e = .returned (.slice (some ⟨w.heap.size, 0, none⟩) (splitL b t).length (splitL b t).length) ∧ w' = w.alloc (.cells (strs (splitL b t)).toArray 9) := by
  have h := Tryz.strings_Split (str t) ⟨#[b]⟩ m w (by rw [str_size]; omega) hm (Nat.le_refl 1)
  rw [splitB_strs, splitB_num] at h
  exact h
end Go.Proofs.YtjhifpidbobmaaaGreatDoor
