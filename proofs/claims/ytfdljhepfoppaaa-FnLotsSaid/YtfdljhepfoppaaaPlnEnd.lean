/- The law on lots: all that it asks for, of drawn lots and orders. -/
import Derived.Test.YtfdljhepfoppaaaPlnLaw
import Derived.Test.YtfdljhepfoppaaaFewImpl
import Derived.Test.YtfdljhepfoppaaaWasteImpl
import Derived.Test.YtfdljhepfoppaaaShadeSums
import Derived.Test.YtfdljhepfoppaaaFitBoth
import Derived.Test.YtfdljhepfoppaaaDrawLot
namespace Go.Proofs.Ytfdljhepfoppaaa
open Go.RowKit
set_option linter.unusedVariables false
set_option linter.unusedSimpArgs false

def lS (L : List (Int × Int)) (j : Nat) : Int := (L.getD j (0, 0)).1
def lG (L : List (Int × Int)) (j : Nat) : Int := (L.getD j (0, 0)).2
theorem l_get {L : List (Int × Int)} {j : Nat} (hj : j < L.length) : lS L j = L[j].1 ∧ lG L j = L[j].2 := by
  have e : L.getD j (0, 0) = L[j] := by simp [List.getD_eq_getElem?_getD, hj]
  unfold lS lG
  rw [e]
  exact ⟨rfl, rfl⟩
/-- What a plan serves, opens, loses. -/
def servT (P : List Int) : Nat → Int := tot fun j => if 0 ≤ gi P j then 1 else 0
def openT (O : List (Int × Int)) (P : List Int) : Nat → Int := tot fun i => if 0 < tot (takeF (lG O) P i) O.length then 1 else 0
def lostT (O : List (Int × Int)) (P R : List Int) (keep : Int) : Nat → Int := tot fun i => if 0 < tot (takeF (lG O) P i) O.length ∧ gi R i < keep then gi R i else 0
/-- All that the law asks of one plan. -/
structure PlanOk (L O : List (Int × Int)) (keep many least low : Int) (P R : List Int) : Prop where
  len : P.length = O.length
  rlen : R.length = L.length
  served : servedF L.length O.length O.length (lS L) (lG L) (lS O) (lG O) P = (true, 0)
  left : leftInF L.length O.length O.length (lS L) (lG L) (lS O) (lG O) P = (R, 0)
  bd : ∀ j, -1 ≤ gi P j ∧ gi P j ≤ 10
  rbd : ∀ j, 0 ≤ gi R j ∧ gi R j ≤ 5000
  stock : ∀ i, i < L.length → tot (takeF (lG O) P i) O.length + gi R i = lG L i
  le : servT P O.length ≤ many
  top : servT P O.length = (O.length : Int) → least ≤ openT O P L.length ∧ low ≤ lostT O P R keep L.length
/-- All that the law asks. -/
structure LtF (L O : List (Int × Int)) (keep : Int) (F1 F2 P3 P4 P5 R1 R2 R3 R4 R5 : List Int) (many least low cd : Int) : Prop where
  lok : lotsOk L.length (lS L) (lG L) = true
  ook : ordersOk O.length (lS O) (lG O) = true
  lb : ∀ j, 0 ≤ lG L j ∧ lG L j ≤ 120 ∧ 0 ≤ lS L j ∧ lS L j ≤ 1
  ob : ∀ j, 0 ≤ lG O j ∧ lG O j ≤ 60 ∧ 0 ≤ lS O j ∧ lS O j ≤ 1
  fit1 : fitF false L.length O.length (lS L) (lG L) (lS O) (lG O) = (F1, 0)
  fit2 : fitF true L.length O.length (lS L) (lG L) (lS O) (lG O) = (F2, 0)
  most : mostR L.length O.length (lS L) (lG L) (lS O) (lG O) = (P3, many, 0)
  few : fewR L.length O.length (lS L) (lG L) (lS O) (lG O) = (P4, least, cd)
  waste : wasteR keep L.length O.length (lS L) (lG L) (lS O) (lG O) = (P5, low, cd)
  code : (cd = 6 ∧ many ≠ (O.length : Int)) ∨ (cd = 0 ∧ many = (O.length : Int))
  p1 : PlanOk L O keep many least low F1 R1
  p2 : PlanOk L O keep many least low F2 R2
  p3 : PlanOk L O keep many least low P3 R3 ∧ servT P3 O.length = many
  p4 : cd = 0 → PlanOk L O keep many least low P4 R4 ∧ servT P4 O.length = (O.length : Int) ∧ openT O P4 L.length = least
  p5 : cd = 0 → PlanOk L O keep many least low P5 R5 ∧ servT P5 O.length = (O.length : Int) ∧ lostT O P5 R5 keep L.length = low
  shades : shadesF L.length O.length (lS L) (lG L) (lS O) (lG O) = (ordSum (lotSum (lS L) (lG L) L.length) (lS O) (lG O) O.length, 0)
  slen : (ordSum (lotSum (lS L) (lG L) L.length) (lS O) (lG O) O.length).length = 20
  have_ : ∀ sh : Nat, sh < 10 → gi (ordSum (lotSum (lS L) (lG L) L.length) (lS O) (lG O) O.length) (sh * 2) = tot (fun i => if lS L i = (sh : Int) then lG L i else 0) L.length
  want : ∀ sh : Nat, sh < 10 → gi (ordSum (lotSum (lS L) (lG L) L.length) (lS O) (lG O) O.length) (sh * 2 + 1) = tot (fun j => if lS O j = (sh : Int) then lG O j else 0) O.length
  few_ : cd = 0 → ∀ sh : Nat, sh < 10 → tot (fun j => if lS O j = (sh : Int) then lG O j else 0) O.length ≤ tot (fun i => if lS L i = (sh : Int) then lG L i else 0) L.length
section
variable {L O : List (Int × Int)} {keep : Int}
theorem plan_ok {many least low : Int} {P R : List Int} (hL : lotsOk L.length (lS L) (lG L) = true) (hO : ordersOk O.length (lS O) (lG O) = true) (hl : L.length ≤ 6) (lb : ∀ j, 0 ≤ lG L j ∧ lG L j ≤ 120) (ob : ∀ j, j < O.length → 1 ≤ lG O j)
    (h : Right L.length O.length (lS L) (lG L) (lS O) (lG O) P R) (hm : (O.length : Int) - negs P ≤ many) (ht : negs P = 0 → least ≤ costK 1 keep P R L.length ∧ low ≤ costK 2 keep P R L.length) : PlanOk L O keep many least low P R ∧ servT P O.length = (O.length : Int) - negs P ∧ openT O P L.length = costK 1 keep P R L.length ∧ lostT O P R keep L.length = costK 2 keep P R L.length := by
  have hs : servT P O.length = (O.length : Int) - negs P := by have := served_negs P; rw [h.len] at this; exact this
  obtain ⟨c1, c2⟩ := opened_cost h.len ob keep R L.length
  have hf : leftF L.length O.length O.length (lS L) (lG L) (lS O) (lG O) P = some R := by rw [leftF, if_pos rfl, h.left]
  have hst := stock (P := P) (fun j _ => (lb j).1) ob O.length R (Nat.le_refl _) h.left
  have htn : ∀ i, 0 ≤ tot (takeF (lG O) P i) O.length := fun i => (take_has ob i O.length (Nat.le_refl _)).2
  have hrl := leftS_len h.left
  refine ⟨⟨h.len, hrl, by rw [servedF, hL, hO, hf]; rfl, by rw [leftInF, hL, hO, hf]; rfl, ?_, ?_, fun i hi => (hst i hi).1, by omega, fun he => ?_⟩, hs, c1, c2⟩
  · intro j
    by_cases hj : j < O.length
    · obtain ⟨l, e1⟩ := leftS_some h.left j (by omega)
      obtain ⟨l', e2⟩ := leftS_some h.left (j + 1) (by omega)
      rcases leftS_step e1 e2 with ⟨e, _⟩ | ⟨h0, h1, _⟩ <;> omega
    · have : gi P j = 0 := by simp [gi, List.getD_eq_getElem?_getD, List.getElem?_eq_none (show P.length ≤ j by rw [h.len]; omega)]
      omega
  · intro j
    by_cases hj : j < L.length
    · have := hst j hj
      have := htn j
      have := lb j
      omega
    · have : gi R j = 0 := by simp [gi, List.getD_eq_getElem?_getD, List.getElem?_eq_none (show R.length ≤ j by rw [hrl]; omega)]
      omega
  · have h0 : negs P = 0 := by omega
    have := ht h0
    unfold openT lostT
    rw [c1, c2]
    exact this
/-! ### The sums of the shades -/
theorem gi_zeros (i : Nat) : gi zeros20 i = 0 := by
  unfold zeros20 gi
  rw [List.getD_eq_getElem?_getD, List.getElem?_replicate]
  split <;> rfl
theorem lotSum_gi {s g : Nat → Int} {n : Nat} (hs : ∀ j, j < n → 0 ≤ s j ∧ s j < 10) : ∀ k, k ≤ n → (lotSum s g k).length = 20 ∧ ∀ sh : Nat, sh < 10 → gi (lotSum s g k) (sh * 2) = tot (fun i => if s i = (sh : Int) then g i else 0) k ∧ gi (lotSum s g k) (sh * 2 + 1) = 0
  | 0, _ => ⟨by simp [lotSum, zeros20], fun sh _ => ⟨by rw [lotSum, gi_zeros]; rfl, by rw [lotSum, gi_zeros]⟩⟩
  | k + 1, hk => by
    obtain ⟨h1, h2⟩ := lotSum_gi hs k (by omega)
    have h3 := hs k (by omega)
    refine ⟨by rw [lotSum, addS, List.length_set, h1], fun sh hsh => ?_⟩
    obtain ⟨h4, h5⟩ := h2 sh hsh
    rw [lotSum, addS, gi_putL _ (by rw [h1]; omega), gi_putL _ (by rw [h1]; omega), tot, h4, h5]
    by_cases c : s k = (sh : Int)
    · have e : (s k).toNat = sh := by omega
      rw [if_pos c, if_pos (by rw [e]), e, h4, if_neg (show ¬ sh * 2 + 1 = sh * 2 by omega)]
      exact ⟨rfl, rfl⟩
    · rw [if_neg c, if_neg (show ¬ sh * 2 = (s k).toNat * 2 by omega), if_neg (show ¬ sh * 2 + 1 = (s k).toNat * 2 by omega)]
      exact ⟨by omega, rfl⟩
theorem ordSum_gi {so go : Nat → Int} {n : Nat} {S : List Int} (hS : S.length = 20) (hs : ∀ j, j < n → 0 ≤ so j ∧ so j < 10) : ∀ k, k ≤ n → (ordSum S so go k).length = 20 ∧ ∀ sh : Nat, sh < 10 → gi (ordSum S so go k) (sh * 2) = gi S (sh * 2) ∧ gi (ordSum S so go k) (sh * 2 + 1) = gi S (sh * 2 + 1) + tot (fun j => if so j = (sh : Int) then go j else 0) k
  | 0, _ => ⟨hS, fun sh _ => ⟨rfl, by rw [ordSum, tot]; omega⟩⟩
  | k + 1, hk => by
    obtain ⟨h1, h2⟩ := ordSum_gi hS hs k (by omega)
    have h3 := hs k (by omega)
    refine ⟨by rw [ordSum, addS, List.length_set, h1], fun sh hsh => ?_⟩
    obtain ⟨h4, h5⟩ := h2 sh hsh
    rw [ordSum, addS, gi_putL _ (by rw [h1]; omega), gi_putL _ (by rw [h1]; omega), tot, h4, h5]
    by_cases c : so k = (sh : Int)
    · have e : (so k).toNat = sh := by omega
      rw [if_pos c, if_neg (show ¬ sh * 2 = (so k).toNat * 2 + 1 by omega), if_pos (by rw [e]), e, h5]
      exact ⟨rfl, by omega⟩
    · rw [if_neg c, if_neg (show ¬ sh * 2 = (so k).toNat * 2 + 1 by omega), if_neg (show ¬ sh * 2 + 1 = (so k).toNat * 2 + 1 by omega)]
      exact ⟨rfl, by omega⟩
end
theorem ltF_of {L O : List (Int × Int)} {keep : Int} (hl : L.length ≤ 4) (hL : ∀ x ∈ L, LtDr x) (ho : O.length ≤ 5) (hO : ∀ x ∈ O, OrDr x) (hk : 0 ≤ keep ∧ keep < 40) :
    ∃ F1 F2 P3 P4 P5 R1 R2 R3 R4 R5 many least low cd, LtF L O keep F1 F2 P3 P4 P5 R1 R2 R3 R4 R5 many least low cd := by
  have lb : ∀ j, 0 ≤ lG L j ∧ lG L j ≤ 120 ∧ 0 ≤ lS L j ∧ lS L j ≤ 1 := fun j => by
    by_cases hj : j < L.length
    · obtain ⟨e1, e2⟩ := l_get hj
      have h := hL _ (List.getElem_mem hj)
      have := h.s; have := h.g
      rw [e1, e2]; omega
    · have e : L.getD j (0, 0) = (0, 0) := by simp [List.getD_eq_getElem?_getD, List.getElem?_eq_none (Nat.le_of_not_lt hj)]
      unfold lS lG; rw [e]; decide
  have ob : ∀ j, 0 ≤ lG O j ∧ lG O j ≤ 60 ∧ 0 ≤ lS O j ∧ lS O j ≤ 1 := fun j => by
    by_cases hj : j < O.length
    · obtain ⟨e1, e2⟩ := l_get hj
      have h := hO _ (List.getElem_mem hj)
      have := h.s; have := h.g
      rw [e1, e2]; omega
    · have e : O.getD j (0, 0) = (0, 0) := by simp [List.getD_eq_getElem?_getD, List.getElem?_eq_none (Nat.le_of_not_lt hj)]
      unfold lS lG; rw [e]; decide
  have ob1 : ∀ j, j < O.length → 1 ≤ lG O j := fun j hj => by
    rw [(l_get hj).2]; exact (hO _ (List.getElem_mem hj)).g.1
  have lok : lotsOk L.length (lS L) (lG L) = true := by
    have h1 : ∀ n, allB n (fun j => shade (lS L j) && inB (lG L j) 0 5000) = true := by
      intro n
      induction n with
      | zero => rfl
      | succ n ih => have := lb n; rw [allB, ih]; simp [shade, inB]; omega
    rw [lotsOk, h1, decide_eq_true (by omega)]; rfl
  have ook : ordersOk O.length (lS O) (lG O) = true := by
    have h1 : ∀ n, n ≤ O.length → allB n (fun j => shade (lS O j) && inB (lG O j) 1 5000) = true := by
      intro n
      induction n with
      | zero => intro _; rfl
      | succ n ih => intro hn; have := ob n; have := ob1 n (by omega); rw [allB, ih (by omega)]; simp [shade, inB]; omega
    rw [ordersOk, h1 _ (Nat.le_refl _), decide_eq_true (by omega)]; rfl
  have both : (lotsOk L.length (lS L) (lG L) && ordersOk O.length (lS O) (lG O)) = true := by rw [lok, ook]; rfl
  have lbg : ∀ j, 0 ≤ lG L j ∧ lG L j ≤ 120 := fun j => ⟨(lb j).1, (lb j).2.1⟩
  obtain ⟨v, hv⟩ := bestV_ne (f := negF) (visits_ne (nl := L.length) (s := lS L) (so := lS O) (go := lG O) O.length 0 [] ((List.range L.length).map (lG L)))
  have hvm := bestV_mem hv
  have hvl := bestV_least hv
  obtain ⟨rv, -⟩ := in_right hvm
  have hne : 0 ≤ negs v.1 := negs_nonneg _
  have fit1 := fit_right (nl := L.length) (no := O.length) (s := lS L) (g := lG L) (so := lS O) (go := lG O) (leastB false)
  have fit2 := fit_right (nl := L.length) (no := O.length) (s := lS L) (g := lG L) (so := lS O) (go := lG O) (leastB true)
  have hm : ∀ P R, Right L.length O.length (lS L) (lG L) (lS O) (lG O) P R → (O.length : Int) - negs P ≤ (O.length : Int) - negs v.1 := fun P R h => by
    have : negF v ≤ negF (P, R) := hvl _ (right_in h (fun e => by cases e))
    unfold negF at this
    dsimp only at this
    omega
  have most : mostR L.length O.length (lS L) (lG L) (lS O) (lG O) = (v.1, (O.length : Int) - negs v.1, 0) := by
    have e : mostO L.length O.length (lS L) (lG L) (lS O) (lG O) = some v := hv
    rw [mostR, if_pos both, e]; rfl
  have f1 : fitF false L.length O.length (lS L) (lG L) (lS O) (lG O) = ((List.range O.length).map (fitA (leastB false) L.length (lS L) (lG L) (lS O) (lG O)), 0) := by rw [fitF, if_pos both]
  have f2 : fitF true L.length O.length (lS L) (lG L) (lS O) (lG O) = ((List.range O.length).map (fitA (leastB true) L.length (lS L) (lG L) (lS O) (lG O)), 0) := by rw [fitF, if_pos both]
  have sh1 : shadesF L.length O.length (lS L) (lG L) (lS O) (lG O) = (ordSum (lotSum (lS L) (lG L) L.length) (lS O) (lG O) O.length, 0) := by rw [shadesF, if_pos both]
  obtain ⟨sl, sg⟩ := lotSum_gi (s := lS L) (g := lG L) (n := L.length) (fun j _ => by have := lb j; omega) L.length (Nat.le_refl _)
  obtain ⟨ol, og⟩ := ordSum_gi (so := lS O) (go := lG O) (n := O.length) sl (fun j _ => by have := ob j; omega) O.length (Nat.le_refl _)
  have hhave : ∀ sh : Nat, sh < 10 → gi (ordSum (lotSum (lS L) (lG L) L.length) (lS O) (lG O) O.length) (sh * 2) = tot (fun i => if lS L i = (sh : Int) then lG L i else 0) L.length := fun sh h => by rw [(og sh h).1, (sg sh h).1]
  have hwant : ∀ sh : Nat, sh < 10 → gi (ordSum (lotSum (lS L) (lG L) L.length) (lS O) (lG O) O.length) (sh * 2 + 1) = tot (fun j => if lS O j = (sh : Int) then lG O j else 0) O.length := fun sh h => by rw [(og sh h).2, (sg sh h).2]; omega
  have hkb : inB keep 0 5000 = true := by simp [inB]; omega
  cases hA : allPlans L.length O.length (lS L) (lG L) (lS O) (lG O) true with
  | nil =>
    have no_all : ∀ P R, Right L.length O.length (lS L) (lG L) (lS O) (lG O) P R → negs P ≠ 0 := fun P R h e => by
      have := right_in (all := true) h (fun _ j hj => negs_zeroL (P := P) (by omega) j (by rw [h.len]; exact hj))
      rw [hA] at this; cases this
    have few : fewR L.length O.length (lS L) (lG L) (lS O) (lG O) = ([], 0, 6) := by
      rw [fewR, if_pos both, fewO, hA, bestV_nil, if_neg (by simp)]
    have waste : wasteR keep L.length O.length (lS L) (lG L) (lS O) (lG O) = ([], 0, 6) := by
      rw [wasteR, if_pos both, if_pos hkb, wasteO, hA, bestV_nil, if_neg (by simp)]
    have ok := fun P R h => plan_ok (keep := keep) (many := (O.length : Int) - negs v.1) (least := 0) (low := 0) lok ook (by omega) lbg ob1 h (hm P R h) (fun e => absurd e (no_all P R h))
    have o3 := ok _ _ rv
    exact ⟨_, _, _, [], [], _, _, _, [], [], _, 0, 0, 6, {
      lok := lok, ook := ook, lb := lb, ob := ob, fit1 := f1, fit2 := f2, most := most, few := few, waste := waste
      code := .inl ⟨rfl, fun e => no_all _ _ rv (by omega)⟩
      p1 := (ok _ _ fit1).1, p2 := (ok _ _ fit2).1, p3 := ⟨o3.1, o3.2.1⟩
      p4 := fun e => by cases e
      p5 := fun e => by cases e
      shades := sh1, slen := ol, have_ := hhave, want := hwant
      few_ := fun e => by cases e }⟩
  | cons z Z =>
    have hZ : allPlans L.length O.length (lS L) (lG L) (lS O) (lG O) true ≠ [] := by rw [hA]; simp
    obtain ⟨u1, hu1⟩ := bestV_ne (f := fewF L.length) hZ
    obtain ⟨u2, hu2⟩ := bestV_ne (f := wasteF keep L.length) hZ
    obtain ⟨ru1, au1⟩ := in_right (bestV_mem hu1)
    obtain ⟨ru2, au2⟩ := in_right (bestV_mem hu2)
    have n1 : negs u1.1 = 0 := zero_negs fun j hj => au1 rfl j (by rw [← ru1.len]; exact hj)
    have n2 : negs u2.1 = 0 := zero_negs fun j hj => au2 rfl j (by rw [← ru2.len]; exact hj)
    have hv0 : negs v.1 = 0 := by have := hm _ _ ru1; omega
    have ht : ∀ P R, Right L.length O.length (lS L) (lG L) (lS O) (lG O) P R → negs P = 0 → fewF L.length u1 ≤ costK 1 keep P R L.length ∧ wasteF keep L.length u2 ≤ costK 2 keep P R L.length := fun P R h e => by
      have hin := right_in (all := true) h (fun _ j hj => negs_zeroL (P := P) (by omega) j (by rw [h.len]; exact hj))
      rw [costK_one, costK_two]
      exact ⟨bestV_least hu1 _ hin, bestV_least hu2 _ hin⟩
    have few : fewR L.length O.length (lS L) (lG L) (lS O) (lG O) = (u1.1, fewF L.length u1, 0) := by
      have e : fewO L.length O.length (lS L) (lG L) (lS O) (lG O) = some u1 := hu1
      rw [fewR, if_pos both, e, if_pos (show (some u1 : Option Visit).isSome = true from rfl)]; rfl
    have waste : wasteR keep L.length O.length (lS L) (lG L) (lS O) (lG O) = (u2.1, wasteF keep L.length u2, 0) := by
      have e : wasteO keep L.length O.length (lS L) (lG L) (lS O) (lG O) = some u2 := hu2
      rw [wasteR, if_pos both, if_pos hkb, e, if_pos (show (some u2 : Option Visit).isSome = true from rfl)]; rfl
    have ok := fun P R h => plan_ok (keep := keep) (many := (O.length : Int) - negs v.1) (least := fewF L.length u1) (low := wasteF keep L.length u2) lok ook (by omega) lbg ob1 h (hm P R h) (ht P R h)
    have o3 := ok _ _ rv
    have o4 := ok _ _ ru1
    have o5 := ok _ _ ru2
    exact ⟨_, _, _, _, _, _, _, _, _, _, _, _, _, 0, {
      lok := lok, ook := ook, lb := lb, ob := ob, fit1 := f1, fit2 := f2, most := most, few := few, waste := waste
      code := .inr ⟨rfl, by omega⟩
      p1 := (ok _ _ fit1).1, p2 := (ok _ _ fit2).1, p3 := ⟨o3.1, o3.2.1⟩
      p4 := fun _ => ⟨o4.1, by rw [o4.2.1, n1]; omega, by rw [o4.2.2.1, costK_one]; rfl⟩
      p5 := fun _ => ⟨o5.1, by rw [o5.2.1, n2]; omega, by rw [o5.2.2.2, costK_two]; rfl⟩
      shades := sh1, slen := ol, have_ := hhave, want := hwant
      few_ := fun _ sh hsh => by
        have h1 := shade_left (sh : Int) (au1 rfl) O.length u1.2 (Nat.le_refl _) ru1.left
        have h2 := tot_nonneg (f := fun i => if lS L i = (sh : Int) then gi u1.2 i else 0) L.length (fun i hi => by
          have := o4.1.rbd i

          split <;> omega)
        omega }⟩
end Go.Proofs.Ytfdljhepfoppaaa
