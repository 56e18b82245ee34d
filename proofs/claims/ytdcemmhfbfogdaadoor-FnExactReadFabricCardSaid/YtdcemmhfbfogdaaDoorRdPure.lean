/- A fabric read from its text: plain lists. -/
import Derived.Test.YtdcemmhfbfogdaaDoorNumPure
import Derived.Test.YtdcemmhfbfogdaaDoorFabText
namespace Go.Proofs.YtdcemmhfbfogdaaDoor
open Go.RowKit
set_option linter.unusedVariables false
set_option linter.unusedSimpArgs false

/-- The fabric with a text. -/
def rdFab (t : List UInt8) : Option (Int × List (List UInt8)) := match splitS 10 t with
  | (p :: rows, []) => if okNum p = true ∧ rows.length ≤ 30 ∧ fabOk (valD p : Int) rows = true then some ((valD p : Int), rows) else none
  | _ => none
def rdC (t : List UInt8) : Int := match rdFab t with | some x => x.1 | none => 0
def rdL (t : List UInt8) : List (List UInt8) := match rdFab t with | some x => x.2 | none => []
def rdE (t : List UInt8) : Int := match rdFab t with | some _ => 0 | none => 5
theorem rd_none {t : List UInt8} (h : rdFab t = none) : rdC t = 0 ∧ rdL t = [] ∧ rdE t = 5 := by simp [rdC, rdL, rdE, h]
theorem rd_some {t : List UInt8} {c : Int} {L : List (List UInt8)} (h : rdFab t = some (c, L)) : rdC t = c ∧ rdL t = L ∧ rdE t = 0 := by simp [rdC, rdL, rdE, h]
theorem stT_no10 : stT 10 = none := by decide
theorem rowS_all {l : List UInt8} (h : (rowS l).isSome = true) : (10 : UInt8) ∉ l := fun hm => by
  obtain ⟨k, hk, e⟩ := List.getElem_of_mem hm
  have : rowS (l.take (k + 1)) = none := by
    rw [rowS_take hk, e]
    cases hs : rowS (l.take k) <;> simp [stAdd, stT_no10]
  rw [rowS_none this] at h
  cases h
theorem badG_rows : ∀ (L : List (List UInt8)) (loops : Int) (i : Nat), badG loops i L < 0 → ∀ l ∈ L, (10 : UInt8) ∉ l
  | [], _, _, _, l, hl => by simp at hl
  | r :: rs, loops, i, h, l, hl => by
    cases hr : rowS r with
    | none => rw [badG_none hr] at h; omega
    | some a =>
      by_cases hc : 30 ≤ i ∨ loops = 0 ∨ ¬ a.1 = loops ∨ 60 < a.2.1
      · rw [badG_yes hr hc] at h; omega
      · rw [badG_no hr hc] at h
        rcases List.mem_cons.1 hl with rfl | hl
        · exact rowS_all (by rw [hr]; rfl)
        · exact badG_rows rs _ _ h l hl
theorem dec_no {b : UInt8} (hb : isD b = false) (n : Nat) : b ∉ Lib.decDigits n := fun hm => by
  have := List.all_eq_true.1 (dec_facts n).1 b hm
  rw [hb] at this
  cases this
theorem fabOk_facts {c : Int} {L : List (List UInt8)} (h : fabOk c L = true) : (1 ≤ c ∧ c ≤ 60) ∧ L.length ≤ 30 ∧ ∀ l ∈ L, (10 : UInt8) ∉ l := by
  have h0 := fabOk_cast h
  simp only [fabOk, Bool.and_eq_true, decide_eq_true_eq] at h
  refine ⟨h0, ?_, badG_rows L _ _ h.2⟩
  rcases badG_cap L _ _ h.2 with e | e
  · subst e; simp
  · omega
theorem rd_back {t : List UInt8} {c : Int} {L : List (List UInt8)} (h : rdFab t = some (c, L)) : fabOk c L = true ∧ t = fabTxt c L ∧ splitS 10 t = (Lib.decDigits c.toNat :: L, []) := by
  unfold rdFab at h
  split at h
  · rename_i p rows hs
    split at h
    · rename_i hc
      obtain ⟨h1, h2, h3⟩ := hc
      injection h with h
      injection h with e1 e2
      subst e1 e2
      have hp := (okNum_dec h1).1
      rw [Int.toNat_natCast, ← hp]
      refine ⟨h3, ?_, hs⟩
      have := (splitS_parts (by_ := 10) t).eq
      rw [hs] at this
      rw [fabTxt, Int.toNat_natCast, ← hp, this]
      simp [joinD]
    · cases h
  · cases h
theorem rd_of {t : List UInt8} {c : Int} {L : List (List UInt8)} (h1 : fabOk c L = true) (h2 : t = fabTxt c L) : rdFab t = some (c, L) := by
  obtain ⟨⟨h3, h4⟩, h5, h6⟩ := fabOk_facts h1
  have hs : splitS 10 t = (Lib.decDigits c.toNat :: L, []) := splitS_of ⟨by rw [h2]; simp [fabTxt, joinD], by
    intro x hx
    rcases List.mem_cons.1 hx with rfl | hx
    · exact dec_no (by decide) _
    · exact h6 x hx, by simp⟩
  have hv := (dec_facts c.toNat).2.1
  have ec : ((c.toNat : Nat) : Int) = c := Int.toNat_of_nonneg (by omega)
  unfold rdFab
  rw [hs]
  simp only
  rw [hv, ec, if_pos ⟨dec_ok (by omega), h5, h1⟩]
theorem rd_E (t : List UInt8) : rdE t = 0 ∨ rdE t = 5 := by
  unfold rdE
  split
  · exact .inl rfl
  · exact .inr rfl
theorem rd_num (t : List UInt8) : (rdL t).length ≤ 30 ∧ (-32768 ≤ rdC t ∧ rdC t ≤ 32767) := by
  cases h : rdFab t with
  | none => obtain ⟨h1, h2, _⟩ := rd_none h; rw [h1, h2]; simp
  | some x =>
    obtain ⟨c, L⟩ := x
    obtain ⟨h1, h2, _⟩ := rd_some h
    obtain ⟨h3, h4, _⟩ := fabOk_facts (rd_back h).1
    rw [h1, h2]
    omega
theorem splitS_lens {b : UInt8} {t : List UInt8} {d : List (List UInt8)} {r : List UInt8} (h : splitS b t = (d, r)) : (∀ l ∈ d, l.length ≤ t.length) ∧ r.length ≤ t.length := by
  have e := (splitS_parts (by_ := b) t).eq
  rw [h] at e
  simp only at e
  constructor
  · intro l hl
    have : l.length ≤ (joinD b d).length := by
      clear e h
      induction d with
      | nil => simp at hl
      | cons x d ih =>
        simp only [joinD, List.flatMap_cons, List.length_append, List.length_singleton] at ih ⊢
        rcases List.mem_cons.1 hl with rfl | hl
        · omega
        · have := ih hl; omega
    rw [e, List.length_append]; omega
  · have := congrArg List.length e
    rw [List.length_append] at this; omega
theorem rd_lens (t : List UInt8) : ∀ l ∈ rdL t, l.length ≤ t.length := by
  cases h : rdFab t with
  | none => rw [(rd_none h).2.1]; simp
  | some x =>
    obtain ⟨c, L⟩ := x
    rw [(rd_some h).2.1]
    intro l hl
    exact (splitS_lens (rd_back h).2.2).1 l (by simp [hl])
end Go.Proofs.YtdcemmhfbfogdaaDoor
