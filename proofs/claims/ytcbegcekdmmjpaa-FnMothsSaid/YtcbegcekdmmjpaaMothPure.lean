/- The law on moths: plain lists. -/
import Derived.Test.YtcbegcekdmmjpaaBestMend
import Derived.Test.YtcbegcekdmmjpaaHolesUntil
import Derived.Test.YtcbegcekdmmjpaaReadImpl
import Derived.Test.YtcbegcekdmmjpaaLMendSpot
namespace Go.Proofs.Ytcbegcekdmmjpaa
open Go.RowKit
set_option linter.unusedVariables false
set_option linter.unusedSimpArgs false

/-! ### Bits -/
theorem andNot_zero {a b : List Int} (ha : Holes8 a) (hb : Holes8 b) (h : ∀ x y, hole a x y = true → hole b x y = true) {y : Nat} (hy : y < 8) : bits .andNot .u8 (gi a y) (gi b y) = 0 := by
  have e : less a b = noHoles := holes_extI (less8 _ _) noHoles8 fun p q => by
    rw [hole_less]
    exact ⟨fun k => (k.2 (h _ _ k.1)).elim, fun k => (hole_none p q k).elim⟩
  rw [less_row ha hb hy, e]
  have : y = 0 ∨ y = 1 ∨ y = 2 ∨ y = 3 ∨ y = 4 ∨ y = 5 ∨ y = 6 ∨ y = 7 := by omega
  rcases this with rfl | rfl | rfl | rfl | rfl | rfl | rfl | rfl <;> rfl
theorem weeks_mono (hs : List Int) (need : Int) : ∀ n, ∀ a b, hole hs a b = true → hole (weeks hs need n) a b = true
  | 0, _, _, h => h
  | n + 1, a, b, h => week_mono a b (weeks_mono hs need n a b h)
theorem weeks_mono1 (hs : List Int) (need : Int) : ∀ n, 0 < n → ∀ a b, hole (week hs need) a b = true → hole (weeks hs need n) a b = true
  | 0, h, _, _, _ => absurd h (by omega)
  | 1, _, _, _, h => h
  | n + 2, _, a, b, h => week_mono a b (weeks_mono1 hs need (n + 1) (by omega) a b h)

/-! ### Texts -/
theorem read_txt {hs : List Int} (h8 : Holes8 hs) : readF (txtT hs 8) = (hs, 0) := by
  have e : mk (fT (txtT hs 8)) = hs := by
    have hp := (txt_parts hs).eq
    refine holes_ext (mk8 _) h8 fun x y hx hy => ?_
    rw [hole_mk _ hx hy, fT, hp, List.append_nil, joinD_get (fun l hl => by obtain ⟨k, _, rfl⟩ := List.mem_map.1 hl; exact rowT_len hs k 8) y x hx (by simpa using hy)]
    have e1 : ((List.range 8).map fun y => rowT hs y 8).getD y [] = rowT hs y 8 := by simp [List.getD_eq_getElem?_getD, hy]
    have e2 : (rowT hs y 8)[x]? = some (ch (hole hs (x : Int) (y : Int))) := by simp [rowT, hx]
    rw [e1, e2]
    cases hole hs (x : Int) (y : Int) <;> rfl
  rw [readF, if_pos (by rw [txtT_len]), e, if_pos rfl]

/-! ### Spots -/
theorem spots_mem {hs : List Int} (h8 : Holes8 hs) : ∀ n, ∀ s ∈ (spotsN hs n).1, ∃ x y : Int, hole hs x y = true ∧ s = spot hs x y
  | 0 => by simp [spotsN]
  | n + 1 => by
    have ih := spots_mem h8 n
    have hw := spotsN_whole h8 n
    simp only [spotsN]
    split
    · rename_i h
      intro s hs'
      rcases List.mem_append.1 hs' with h' | h'
      · exact ih s h'
      · exact ⟨_, _, hw.sub _ _ h, List.mem_singleton.1 h'⟩
    · exact ih
theorem spot_same {hs : List Int} {x y a b : Int} (h : Reach hs x y a b) : spot hs a b = spot hs x y :=
  holes_extI (spot8 _ _ _) (spot8 _ _ _) fun p q => by
    rw [hole_spot, hole_spot]
    exact ⟨fun k => h.trans k, fun k => h.symm.trans k⟩
theorem spot_sub {hs : List Int} {x y : Int} (a b : Int) (h : hole (spot hs x y) a b = true) : hole hs a b = true := ((hole_spot _ _ _ _ _).1 h).stop
theorem cnt_split {hs s : List Int} (h : ∀ a b, hole s a b = true → hole hs a b = true) : ∀ n, cnt (less hs s) n + cnt s n = cnt hs n
  | 0 => rfl
  | n + 1 => by
    have ih := cnt_split h n
    have e := hole_less hs s ((n % 8 : Nat) : Int) ((n / 8 : Nat) : Int)
    have hh := h ((n % 8 : Nat) : Int) ((n / 8 : Nat) : Int)
    simp only [cnt]
    by_cases k1 : hole hs ((n % 8 : Nat) : Int) ((n / 8 : Nat) : Int) = true <;> by_cases k2 : hole s ((n % 8 : Nat) : Int) ((n / 8 : Nat) : Int) = true <;> by_cases k3 : hole (less hs s) ((n % 8 : Nat) : Int) ((n / 8 : Nat) : Int) = true <;> simp_all <;> omega
theorem cnt_pos {s : List Int} {x y : Int} (h : hole s x y = true) : 1 ≤ cnt s 64 := by
  have := cnt_less_at (A := noHoles) (B := s) (fun a b k => (hole_none a b k).elim) (hole_none x y) h
  have := (cnt_bd noHoles 64).1
  omega
/-- What is known of one of the spots. -/
structure SpotOk (hs s : List Int) : Prop where
  h8 : Holes8 s
  one : ∃ x y : Nat, x < 8 ∧ y < 8 ∧ hole s (x : Int) (y : Int) = true
  mend : ∀ x y : Nat, x < 8 → y < 8 → hole s (x : Int) (y : Int) = true → mendF hs x y = (less hs s, 0)
  cnt : cnt (less hs s) 64 = Go.Proofs.Ytcbegcekdmmjpaa.cnt hs 64 - Go.Proofs.Ytcbegcekdmmjpaa.cnt s 64
  pos : 1 ≤ Go.Proofs.Ytcbegcekdmmjpaa.cnt s 64
theorem spotOk_of {hs : List Int} (h8 : Holes8 hs) {s : List Int} (h : s ∈ (spotsN hs 64).1) : SpotOk hs s := by
  obtain ⟨x, y, hxy, rfl⟩ := spots_mem h8 64 s h
  have hr : hole (spot hs x y) x y = true := (hole_spot _ _ _ _ _).2 (.here hxy)
  obtain ⟨a, b, ha, hb, rfl, rfl⟩ := hole_range hr
  refine ⟨spot8 _ _ _, ⟨a, b, ha, hb, hr⟩, fun p q hp hq hpq => ?_, ?_, cnt_pos hr⟩
  · have hre := (hole_spot _ _ _ _ _).1 hpq
    have i1 : inB (p : Int) 0 7 = true := by simp [inB]; omega
    have i2 : inB (q : Int) 0 7 = true := by simp [inB]; omega
    rw [mendF, i1, i2, if_pos (show (true && true) = true from rfl), if_pos hre.stop, spot_same hre]
  · have := cnt_split (hs := hs) (s := spot hs a b) spot_sub 64
    omega
def sumC (L : List (List Int)) : Nat → Int
  | 0 => 0
  | i + 1 => sumC L i + cnt (L.getD i []) 64
def sumL : List (List Int) → Int
  | [] => 0
  | s :: L => cnt s 64 + sumL L
theorem sumL_app (L : List (List Int)) (s : List Int) : sumL (L ++ [s]) = sumL L + cnt s 64 := by
  induction L with
  | nil => simp [sumL]
  | cons x L ih => simp only [List.cons_append, sumL, ih]; omega
theorem sumC_take (L : List (List Int)) : ∀ i, i ≤ L.length → sumC L i = sumL (L.take i)
  | 0, _ => rfl
  | i + 1, h => by
    have hi : i < L.length := h
    rw [sumC, sumC_take L i (by omega), List.take_add_one, List.getElem?_eq_getElem hi, Option.toList_some, sumL_app]
    simp [List.getD_eq_getElem?_getD, hi]
structure SParts (hs : List Int) (n : Nat) : Prop where
  all : ∀ a b, hole hs a b = true ↔ (∃ s ∈ (spotsN hs n).1, hole s a b = true) ∨ hole (spotsN hs n).2 a b = true
  sum : sumL (spotsN hs n).1 + cnt (spotsN hs n).2 64 = cnt hs 64
  gone : ∀ m, m < n → ¬ hole (spotsN hs n).2 ((m % 8 : Nat) : Int) ((m / 8 : Nat) : Int) = true
theorem parts_of {hs : List Int} (h8 : Holes8 hs) : ∀ n, SParts hs n
  | 0 => ⟨fun a b => by simp [spotsN], by simp [spotsN, sumL], fun m h => absurd h (by omega)⟩
  | n + 1 => by
    have ih := parts_of h8 n
    have hw := spotsN_whole h8 n
    by_cases h : hole (spotsN hs n).2 ((n % 8 : Nat) : Int) ((n / 8 : Nat) : Int) = true
    · have e : spotsN hs (n + 1) = ((spotsN hs n).1 ++ [spot hs ((n % 8 : Nat) : Int) ((n / 8 : Nat) : Int)], less (spotsN hs n).2 (spot hs ((n % 8 : Nat) : Int) ((n / 8 : Nat) : Int))) := by simp only [spotsN, h, if_true]
      have hsp := hw.spot h
      have hsub : ∀ a b, hole (spot hs ((n % 8 : Nat) : Int) ((n / 8 : Nat) : Int)) a b = true → hole (spotsN hs n).2 a b = true := fun a b k => by rw [← hsp] at k; exact spot_sub a b k
      refine ⟨fun a b => ?_, ?_, fun m hm => ?_⟩
      · rw [e, ih.all a b]
        show _ ↔ (∃ s ∈ (spotsN hs n).1 ++ [spot hs ((n % 8 : Nat) : Int) ((n / 8 : Nat) : Int)], _) ∨ hole (less _ _) a b = true
        rw [hole_less]
        constructor
        · rintro (⟨s, h1, h2⟩ | h1)
          · exact .inl ⟨s, List.mem_append.2 (.inl h1), h2⟩
          · by_cases k : hole (spot hs ((n % 8 : Nat) : Int) ((n / 8 : Nat) : Int)) a b = true
            · exact .inl ⟨_, List.mem_append.2 (.inr (List.mem_singleton.2 rfl)), k⟩
            · exact .inr ⟨h1, k⟩
        · rintro (⟨s, h1, h2⟩ | ⟨h1, _⟩)
          · rcases List.mem_append.1 h1 with h1 | h1
            · exact .inl ⟨s, h1, h2⟩
            · rw [List.mem_singleton.1 h1] at h2
              exact .inr (hsub a b h2)
          · exact .inr h1
      · rw [e]
        show sumL ((spotsN hs n).1 ++ [_]) + cnt (less _ _) 64 = _
        have h1 := cnt_split hsub 64
        have h2 := ih.sum
        rw [sumL_app]
        omega
      · rw [e]
        show ¬ hole (less _ _) _ _ = true
        rw [hole_less]
        rintro ⟨k1, k2⟩
        by_cases hmn : m = n
        · subst hmn
          exact k2 ((hole_spot _ _ _ _ _).2 (.here (hw.sub _ _ h)))
        · exact ih.gone m (by omega) k1
    · have e : spotsN hs (n + 1) = spotsN hs n := by simp only [spotsN, h]; rfl
      refine ⟨fun a b => by rw [e]; exact ih.all a b, by rw [e]; exact ih.sum, fun m hm => ?_⟩
      rw [e]
      by_cases hmn : m = n
      · subst hmn; exact h
      · exact ih.gone m (by omega)
theorem left_none {hs : List Int} (h8 : Holes8 hs) (a b : Int) : ¬ hole (spotsN hs 64).2 a b = true := by
  intro h
  obtain ⟨x, y, hx, hy, rfl, rfl⟩ := hole_range h
  have := (parts_of h8 64).gone (8 * y + x) (by omega)
  rw [show (8 * y + x) % 8 = x by omega, show (8 * y + x) / 8 = y by omega] at this
  exact this h
theorem cnt_zero {s : List Int} (h : ∀ a b, ¬ hole s a b = true) : ∀ n, cnt s n = 0
  | 0 => rfl
  | n + 1 => by simp only [cnt, cnt_zero h n, if_neg (h _ _)]; rfl
theorem spots_sum {hs : List Int} (h8 : Holes8 hs) : sumC (spotsN hs 64).1 (spotsN hs 64).1.length = cnt hs 64 := by
  have := (parts_of h8 64).sum
  rw [cnt_zero (left_none h8)] at this
  rw [sumC_take _ _ (Nat.le_refl _), List.take_length]
  omega
theorem spots_all {hs : List Int} (h8 : Holes8 hs) (a b : Int) : hole hs a b = true ↔ ∃ s ∈ (spotsN hs 64).1, hole s a b = true := by
  rw [(parts_of h8 64).all a b]
  exact ⟨fun h => h.resolve_right (left_none h8 a b), .inl⟩
theorem sumL_ge : ∀ (L : List (List Int)), (∀ s ∈ L, 1 ≤ cnt s 64) → (L.length : Int) ≤ sumL L
  | [], _ => by simp [sumL]
  | s :: L, h => by
    have h1 := h s (by simp)
    have h2 := sumL_ge L fun t ht => h t (by simp [ht])
    simp only [List.length_cons, sumL]
    omega
theorem spots_none {hs : List Int} (h8 : Holes8 hs) : cnt hs 64 = 0 ↔ (spotsN hs 64).1.length = 0 := by
  have h1 := spots_sum h8
  rw [sumC_take _ _ (Nat.le_refl _), List.take_length] at h1
  have h2 := sumL_ge _ fun s hs' => (spotOk_of h8 hs').pos
  constructor
  · intro h; omega
  · intro h
    rw [List.length_eq_zero_iff] at h
    rw [h] at h1
    rw [← h1]; rfl

/-! ### The best spot -/
def endC (hs : List Int) (need : Int) (wk : Nat) (L : List (List Int)) (j : Nat) : Int := cnt (weeks (less hs (L.getD j [])) need wk) 64
theorem endC_bd (hs : List Int) (need : Int) (wk : Nat) (L : List (List Int)) (j : Nat) : 0 ≤ endC hs need wk L j := (cnt_bd _ 64).1
theorem bestN_ok (hs : List Int) (need : Int) (wk : Nat) (L : List (List Int)) : ∀ k, 0 < k → ∃ i, i < k ∧ bestN hs need wk L k = ((i : Int), endC hs need wk L i) ∧ (∀ j, j < k → endC hs need wk L i ≤ endC hs need wk L j) ∧ ∀ j, j < i → endC hs need wk L i < endC hs need wk L j
  | 0, h => absurd h (by omega)
  | k + 1, _ => by
    have hb := endC_bd hs need wk L
    by_cases h0 : k = 0
    · subst h0
      refine ⟨0, by omega, ?_, fun j hj => ?_, fun j hj => absurd hj (by omega)⟩
      · rw [bestN]
        rw [if_pos (.inl (by simp [bestN]))]
        rfl
      · obtain rfl : j = 0 := by omega
        exact Int.le_refl _
    · obtain ⟨i, h1, h2, h3, h4⟩ := bestN_ok hs need wk L k (by omega)
      by_cases hc : endC hs need wk L k < endC hs need wk L i
      · refine ⟨k, by omega, ?_, fun j hj => ?_, fun j hj => ?_⟩
        · rw [bestN, h2, if_pos (.inr hc)]; rfl
        · by_cases e : j = k
          · subst e; exact Int.le_refl _
          · have := h3 j (by omega); omega
        · have := h3 j hj; omega
      · refine ⟨i, by omega, ?_, fun j hj => ?_, h4⟩
        · rw [bestN, h2, if_neg]
          rintro (h | h)
          · have := hb i; simp only at h; omega
          · exact hc h
        · by_cases e : j = k
          · subst e; omega
          · exact h3 j (by omega)
theorem bestF_none {hs : List Int} {need wk : Int} {L : List (List Int)} (h1 : inB need 1 4 = true) (h2 : inB wk 0 100 = true) (h : L.length = 0) : bestF hs need wk L = (0, 0, 6) := by
  rw [bestF, h1, h2, if_pos (show (true && true) = true from rfl), h]
  rfl
theorem bestF_some {hs : List Int} {need wk : Int} {L : List (List Int)} (h1 : inB need 1 4 = true) (h2 : inB wk 0 100 = true) (h : 0 < L.length) : ∃ i, i < L.length ∧ bestF hs need wk L = ((i : Int), endC hs need wk.toNat L i, 0) ∧ (∀ j, j < L.length → endC hs need wk.toNat L i ≤ endC hs need wk.toNat L j) ∧ ∀ j, j < i → endC hs need wk.toNat L i < endC hs need wk.toNat L j := by
  obtain ⟨i, a1, a2, a3, a4⟩ := bestN_ok hs need wk.toNat L L.length h
  refine ⟨i, a1, ?_, a3, a4⟩
  have := endC_bd hs need wk.toNat L i
  rw [bestF, h1, h2, if_pos (show (true && true) = true from rfl), a2, if_neg (by simp only; omega)]

/-! ### Weeks until -/
theorem weeks_stay {hs : List Int} {need : Int} {k : Nat} (h : week (weeks hs need k) need = weeks hs need k) : ∀ n, weeks hs need (k + n) = weeks hs need k
  | 0 => rfl
  | n + 1 => by
    show week (weeks hs need (k + n)) need = _
    rw [weeks_stay h n, h]
theorem until_ok {hs : List Int} {need holes : Int} (h8 : Holes8 hs) : ∀ f k, k + f = 65 → UntilSt hs need holes k → (∀ j, j < k → cnt (weeks hs need j) 64 < holes) →
    (∃ m : Nat, m ≤ 64 ∧ untilF hs need holes = ((m : Int), 0) ∧ holes ≤ cnt (weeks hs need m) 64 ∧ ∀ j, j < m → cnt (weeks hs need j) 64 < holes) ∨ (untilF hs need holes = (0, 6) ∧ cnt (weeks hs need 64) 64 < holes)
  | 0, k, hk, hst, _ => by have := hst.bd; omega
  | f + 1, k, hk, hst, hlt => by
    have hu := hst.unfold
    by_cases c1 : holes ≤ cnt (weeks hs need k) 64
    · rw [if_pos c1] at hu
      exact .inl ⟨k, hst.bd, hu, c1, hlt⟩
    · rw [if_neg c1] at hu
      cases c2 : week (weeks hs need k) need == weeks hs need k
      · exact until_ok h8 f (k + 1) (by omega) (hst.next h8 c1 c2) fun j hj => by
          by_cases e : j = k
          · subst e; omega
          · exact hlt j (by omega)
      · rw [c2, if_pos rfl] at hu
        have e := weeks_stay (by simpa using c2) (64 - k)
        have := hst.bd
        rw [show k + (64 - k) = 64 by omega] at e
        exact .inr ⟨hu, by rw [e]; omega⟩
theorem untilF_ok {hs : List Int} {need holes : Int} (h8 : Holes8 hs) (h1 : inB need 1 4 = true) (h2 : inB holes 0 64 = true) :
    (∃ m : Nat, m ≤ 64 ∧ untilF hs need holes = ((m : Int), 0) ∧ holes ≤ cnt (weeks hs need m) 64 ∧ ∀ j, j < m → cnt (weeks hs need j) 64 < holes) ∨ (untilF hs need holes = (0, 6) ∧ cnt (weeks hs need 64) 64 < holes) :=
  until_ok h8 65 0 rfl (UntilSt.zero (by rw [h1, h2]; rfl)) fun j hj => absurd hj (by omega)
end Go.Proofs.Ytcbegcekdmmjpaa
