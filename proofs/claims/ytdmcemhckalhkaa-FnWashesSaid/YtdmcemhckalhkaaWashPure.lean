/- The law on washes: plain lists. -/
import Derived.Test.YtdmcemhckalhkaaTreeFew
import Derived.Test.YtdmcemhckalhkaaWashLaws
import Derived.Test.YtdmcemhckalhkaaGentle
namespace Go.Proofs.Ytdmcemhckalhkaa
open Go.RowKit
set_option linter.unusedVariables false
set_option linter.unusedSimpArgs false

section
variable {α : Type} {f : α → Int}
theorem fold_least : ∀ (L : List α) (b x : α), L.foldl (lessO f) (some b) = some x → f x ≤ f b ∧ ∀ y ∈ L, f x ≤ f y
  | [], b, x, h => by
    simp only [List.foldl_nil, Option.some.injEq] at h
    subst h
    exact ⟨Int.le_refl _, fun y hy => by cases hy⟩
  | z :: L, b, x, h => by
    simp only [List.foldl_cons, lessO] at h
    split at h
    · rename_i hlt
      obtain ⟨h1, h2⟩ := fold_least L z x h
      refine ⟨by omega, fun y hy => ?_⟩
      rcases List.mem_cons.1 hy with rfl | hy
      · exact h1
      · exact h2 y hy
    · rename_i hlt
      obtain ⟨h1, h2⟩ := fold_least L b x h
      refine ⟨h1, fun y hy => ?_⟩
      rcases List.mem_cons.1 hy with rfl | hy
      · omega
      · exact h2 y hy
theorem minO_least {L : List α} {x : α} (h : minO f L = some x) : ∀ y ∈ L, f x ≤ f y := by
  cases L with
  | nil => simp [minO] at h
  | cons z L =>
    simp only [minO, List.foldl_cons, lessO] at h
    obtain ⟨h1, h2⟩ := fold_least L z x h
    intro y hy
    rcases List.mem_cons.1 hy with rfl | hy
    · exact h1
    · exact h2 y hy
theorem minO_some {L : List α} {y : α} (hy : y ∈ L) : ∃ x, minO f L = some x := by
  cases e : minO f L with
  | none => rw [minO_none e] at hy; cases hy
  | some x => exact ⟨x, rfl⟩
end
theorem pre_of_lev {α : Type} {kids : α → List α} {r : α} {k : Nat} {y : α} (hy : y ∈ lev kids r k) : ∀ m, k < m → y ∈ pre kids r m
  | 0, h => by omega
  | m + 1, h => by
    by_cases e : k = m
    · subst e; exact List.mem_append.2 (.inr hy)
    · exact List.mem_append.2 (.inl (pre_of_lev hy m (by omega)))

section
variable {p q r : Nat → Int} {n : Nat}
theorem washN_congr {zs ys : List Int} {x : Cl} : ∀ k, (∀ j, j < k → gi zs j = gi ys j) → washN p q r zs x k = washN p q r ys x k
  | 0, _ => rfl
  | k + 1, h => by rw [washN, washN, washN_congr k (fun j hj => h j (by omega)), h k (by omega)]
theorem gi_snoc (o : List Int) (z : Int) {j : Nat} (hj : j < o.length) : gi (o ++ [z]) j = gi o j := by
  simp [gi, List.getD_eq_getElem?_getD, List.getElem?_append, hj]
theorem gi_last (o : List Int) (z : Int) : gi (o ++ [z]) o.length = z := by
  simp [gi, List.getD_eq_getElem?_getD]
/-- A node is what its own list of programs makes of the first cloth. -/
structure Path (p q r : Nat → Int) (n : Nat) (x0 : Cl) (m : Nat) (x : Nd) : Prop where
  len : x.o.length = m
  ok : ∀ j, j < m → inB (gi x.o j) 0 ((n : Int) - 1) = true
  c : x.c = washN p q r x.o x0 m
theorem path_lev (x0 : Cl) : ∀ m, ∀ x ∈ lev (kidsN n p q r) ⟨x0, []⟩ m, Path p q r n x0 m x :=
  lev_all (kids := kidsN n p q r) (r := ⟨x0, []⟩) (P := Path p q r n x0) ⟨rfl, fun j hj => by omega, rfl⟩ (fun m x hx y hy => by
    obtain ⟨k, hk, rfl⟩ := List.mem_map.1 hy
    have hk' := List.mem_range.1 hk
    have hl := hx.len
    refine ⟨by simp [kidN, hl], fun j hj => ?_, ?_⟩
    · by_cases e : j = m
      · subst e
        show inB (gi (x.o ++ [(k : Int)]) j) 0 _ = true
        rw [← hl, gi_last]
        simp [inB]; omega
      · show inB (gi (x.o ++ [(k : Int)]) j) 0 _ = true
        rw [gi_snoc _ _ (by omega)]
        exact hx.ok j (by omega)
    · show washC x.c (p k) (q k) (r k) = washN p q r (x.o ++ [(k : Int)]) x0 (m + 1)
      have e : gi (x.o ++ [(k : Int)]) m = (k : Int) := by rw [← hl, gi_last]
      rw [washN, e, Int.toNat_natCast, hx.c, washN_congr m (fun j hj => (gi_snoc x.o (k : Int) (by omega)).symm)])
theorem node_of (x0 : Cl) {zs : List Int} : ∀ m, (∀ j, j < m → inB (gi zs j) 0 ((n : Int) - 1) = true) → ∃ y ∈ lev (kidsN n p q r) ⟨x0, []⟩ m, y.c = washN p q r zs x0 m ∧ y.o.length = m
  | 0, _ => ⟨⟨x0, []⟩, by simp [lev], rfl, rfl⟩
  | m + 1, h => by
    obtain ⟨y, hy, e1, e2⟩ := node_of x0 m (fun j hj => h j (by omega))
    have hm := h m (by omega)
    simp only [inB, Bool.and_eq_true, decide_eq_true_eq] at hm
    refine ⟨kidN p q r y (gi zs m).toNat, List.mem_flatMap.2 ⟨y, hy, List.mem_map.2 ⟨_, List.mem_range.2 (by omega), rfl⟩⟩, ?_, ?_⟩
    · show washC y.c _ _ _ = _
      rw [e1]; rfl
    · simp [kidN, e2]
end
section
variable {a b c d e : Int} {n : Nat} {p q r : Nat → Int} {M : Int}
/-- What is known of the best ones. -/
inductive Bests (a b c d e : Int) (n : Nat) (p q r : Nat → Int) (M : Int) : Prop
  | none : (∀ f, bestR f a b c d e n p q r M = (noNd, 6)) → (∀ y ∈ nodesF a b c d e n p q r M, isCl y = false) → Bests a b c d e n p q r M
  | some : (∀ f, ∃ x, bestR f a b c d e n p q r M = (x, 0) ∧ x ∈ nodesF a b c d e n p q r M ∧ isCl x = true ∧ ∀ y ∈ nodesF a b c d e n p q r M, isCl y = true → f x ≤ f y) → Bests a b c d e n p q r M
theorem bests_of (h : mostF a b c d e n p q r M = 0) : Bests a b c d e n p q r M := by
  cases hL : (nodesF a b c d e n p q r M).filter isCl with
  | nil =>
    refine .none (fun f => bestR_none h (by rw [hL]; rfl)) (fun y hy => ?_)
    cases hc : isCl y
    · rfl
    · have : y ∈ (nodesF a b c d e n p q r M).filter isCl := List.mem_filter.2 ⟨hy, hc⟩
      rw [hL] at this; cases this
  | cons z L =>
    refine .some (fun f => ?_)
    obtain ⟨x, hx⟩ := minO_some (f := f) (L := (nodesF a b c d e n p q r M).filter isCl) (y := z) (by rw [hL]; simp)
    have hm := List.mem_filter.1 (minO_mem hx)
    exact ⟨x, bestR_some h hx, hm.1, hm.2, fun y hy hc => minO_least hx y (List.mem_filter.2 ⟨hy, hc⟩)⟩
theorem node_path {x : Nd} (h : x ∈ nodesF a b c d e n p q r M) : x.o.length ≤ M.toNat ∧ Path p q r n ⟨a, b, c, d, e⟩ x.o.length x := by
  obtain ⟨k, hk, hx⟩ := pre_mem h
  have hp := path_lev ⟨a, b, c, d, e⟩ k x hx
  have := hp.len
  exact ⟨by omega, this ▸ hp⟩
theorem node_in {zs : List Int} {m : Nat} (hm : m ≤ M.toNat) (h : ∀ j, j < m → inB (gi zs j) 0 ((n : Int) - 1) = true) : ∃ y ∈ nodesF a b c d e n p q r M, y.c = washN p q r zs ⟨a, b, c, d, e⟩ m ∧ y.o.length = m := by
  obtain ⟨y, hy, e1, e2⟩ := node_of (p := p) (q := q) (r := r) (n := n) ⟨a, b, c, d, e⟩ m h
  exact ⟨y, pre_of_lev hy _ (by omega), e1, e2⟩
theorem allB_of {k : Nat} {p : Nat → Bool} (h : ∀ j, j < k → p j = true) : allB k p = true := by
  induction k with
  | zero => rfl
  | succ k ih => rw [allB, ih fun j hj => h j (by omega), h k (by omega)]; rfl
theorem washAll_of {zs : List Int} (h : askedF a b c d e n p q r = 0) (hl : zs.length ≤ 20) (hz : ∀ j, j < zs.length → inB (gi zs j) 0 ((n : Int) - 1) = true) : washAllF a b c d e n p q r zs = (washN p q r zs ⟨a, b, c, d, e⟩ zs.length, 0) := by
  have : codeAll a b c d e n p q r zs = 0 := by rw [codeAll, if_pos h, if_pos hl, if_pos (allB_of hz)]
  rw [washAllF, if_pos this]
theorem washAll_node {x : Nd} (h : MostOk a b c d e n p q r M) (hx : x ∈ nodesF a b c d e n p q r M) : washAllF a b c d e n p q r x.o = (x.c, 0) := by
  obtain ⟨h1, h2⟩ := node_path hx
  have := h.hm
  rw [washAll_of h.a (by omega) h2.ok, h2.c]
theorem most_ok {x : Cl} (hx : x.Ok) (hg : ∀ j, j < n → (0 ≤ p j ∧ p j ≤ 9) ∧ (0 ≤ q j ∧ q j ≤ 9) ∧ (0 ≤ r j ∧ r j ≤ 9)) (hn : n ≤ 6) (hM : 0 ≤ M ∧ M ≤ 4) : mostF x.a x.b x.c x.d x.e n p q r M = 0 := by
  have ha : askedF x.a x.b x.c x.d x.e n p q r = 0 := by
    have h1 : okCloth x.a x.b x.c x.d x.e = true := by
      have := hx.a; have := hx.b; have := hx.c; have := hx.d; have := hx.e
      simp [okCloth, inB, nine]; omega
    have h2 : allB n (fun j => okProgram (p j) (q j) (r j)) = true := allB_of fun j hj => by
      have := hg j hj
      simp [okProgram, nine]; omega
    rw [askedF, h1, h2, if_pos (show (true && true) = true from rfl), if_pos hn]
  have hi : inB M 0 4 = true := by simp [inB]; omega
  rw [mostF, if_pos ha, if_pos hi]
end

/-- The three best ones together: a code, three nodes, and what is known of them. -/
theorem bests_all {a b c d e : Int} {n : Nat} {p q r : Nat → Int} {M : Int} (h : Bests a b c d e n p q r M) : ∃ (cd : Int) (ns nb nl : Nd), bestR lenF a b c d e n p q r M = (ns, cd) ∧ bestR feltF a b c d e n p q r M = (nb, cd) ∧ bestR areaF a b c d e n p q r M = (nl, cd) ∧
    ((cd = 6 ∧ ns = noNd ∧ ∀ y ∈ nodesF a b c d e n p q r M, isCl y = false) ∨
     (cd = 0 ∧ (ns ∈ nodesF a b c d e n p q r M ∧ isCl ns = true ∧ ∀ y ∈ nodesF a b c d e n p q r M, isCl y = true → lenF ns ≤ lenF y) ∧ (nb ∈ nodesF a b c d e n p q r M ∧ isCl nb = true ∧ ∀ y ∈ nodesF a b c d e n p q r M, isCl y = true → feltF nb ≤ feltF y) ∧ (nl ∈ nodesF a b c d e n p q r M ∧ isCl nl = true ∧ ∀ y ∈ nodesF a b c d e n p q r M, isCl y = true → areaF nl ≤ areaF y))) := by
  cases h with
  | none h1 h2 => exact ⟨6, noNd, noNd, noNd, h1 _, h1 _, h1 _, .inl ⟨rfl, rfl, h2⟩⟩
  | some h =>
    obtain ⟨x, e1, k1⟩ := h lenF
    obtain ⟨y, e2, k2⟩ := h feltF
    obtain ⟨z, e3, k3⟩ := h areaF
    exact ⟨0, x, y, z, e1, e2, e3, .inr ⟨rfl, k1, k2, k3⟩⟩
theorem gentle_of {a b c d e : Int} {n : Nat} {p q r : Nat → Int} (h : askedF a b c d e n p q r = 0) : gentleF a b c d e n p q r = (gentL d e p q n, 0) := by rw [gentleF, if_pos h]
/-! ### One wash -/
theorem side_le {a y : Int} (h1 : 1 ≤ a) (h2 : 0 ≤ y) : sideV a y ≤ a := by
  unfold sideV
  have : a * (100 - 2 * y) / 100 ≤ a := by
    have h3 : a * (100 - 2 * y) ≤ a * 100 := Int.mul_le_mul_of_nonneg_left (by omega) (by omega)
    omega
  omega
theorem wash_step {x : Cl} {p q r : Int} (h : x.Ok) (hp : 0 ≤ p ∧ p ≤ 9) (hq : 0 ≤ q ∧ q ≤ 9) (hr : 0 ≤ r ∧ r ≤ 9) : (washC x p q r).a ≤ x.a ∧ (washC x p q r).b ≤ x.b ∧ (washC x p q r).c ≤ x.c ∧ x.d ≤ (washC x p q r).d ∧ (washC x p q r).e = x.e := by
  obtain ⟨y0, y1, y2⟩ := feltsV_bd h.d h.e hp hq
  have hc := h.c
  exact ⟨side_le h.a.1 y0, side_le h.b.1 y0, by show max 0 (x.c - r) ≤ x.c; omega, by show x.d ≤ x.d + feltsV x.d x.e p q; omega, rfl⟩
theorem okCloth_of {x : Cl} (hx : x.Ok) : okCloth x.a x.b x.c x.d x.e = true := by
  have := hx.a; have := hx.b; have := hx.c; have := hx.d; have := hx.e
  simp [okCloth, inB, nine]; omega
theorem gent_has (d e : Int) (p q : Nat → Int) {i : Nat} : ∀ n, i < n → ((i : Int) ∈ gentL d e p q n ↔ feltsV d e (p i) (q i) = 0)
  | 0, h => by omega
  | n + 1, h => by
    have hb : ∀ k (z : Int), z ∈ gentL d e p q k → z < (k : Int) := by
      intro k
      induction k with
      | zero => intro z hz; cases hz
      | succ k ih =>
        intro z hz
        unfold gentL at hz
        split at hz
        · rcases List.mem_append.1 hz with hz | hz
          · have := ih z hz; omega
          · simp at hz; omega
        · have := ih z hz; omega
    by_cases e2 : i = n
    · subst e2
      unfold gentL
      split
      · rename_i hc; simp [hc]
      · rename_i hc
        exact ⟨fun hz => by have := hb _ _ hz; omega, fun hz => absurd hz hc⟩
    · have ih := gent_has d e p q n (show i < n by omega)
      unfold gentL
      split
      · rw [List.mem_append, ih]
        constructor
        · rintro (h1 | h1)
          · exact h1
          · simp at h1; omega
        · exact .inl
      · exact ih
end Go.Proofs.Ytdmcemhckalhkaa
