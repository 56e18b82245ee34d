/- The law on washes: the end, plain. -/
import Derived.Test.YtdmcemhckalhkaaWashPure
namespace Go.Proofs.Ytdmcemhckalhkaa
open Go.RowKit
set_option linter.unusedVariables false
set_option linter.unusedSimpArgs false

section
variable {x : Cl} {n : Nat} {p q r : Nat → Int} {M : Int} {zs : List Int} {ns nb nl : Nd}
/-- What is known of the three best ones. -/
structure Good (x : Cl) (n : Nat) (p q r : Nat → Int) (M : Int) (ns nb nl : Nd) : Prop where
  s : ns ∈ nodesF x.a x.b x.c x.d x.e n p q r M ∧ isCl ns = true ∧ ∀ y ∈ nodesF x.a x.b x.c x.d x.e n p q r M, isCl y = true → lenF ns ≤ lenF y
  b : nb ∈ nodesF x.a x.b x.c x.d x.e n p q r M ∧ isCl nb = true ∧ ∀ y ∈ nodesF x.a x.b x.c x.d x.e n p q r M, isCl y = true → feltF nb ≤ feltF y
  l : nl ∈ nodesF x.a x.b x.c x.d x.e n p q r M ∧ isCl nl = true ∧ ∀ y ∈ nodesF x.a x.b x.c x.d x.e n p q r M, isCl y = true → areaF nl ≤ areaF y
theorem dirt_none (hno : ∀ y ∈ nodesF x.a x.b x.c x.d x.e n p q r M, isCl y = false) {m : Nat} (hm : m ≤ M.toNat) (h : ∀ j, j < m → inB (gi zs j) 0 ((n : Int) - 1) = true) : ((washN p q r zs x m).c == 0) = false := by
  obtain ⟨y, hy, e1, e2⟩ := node_in (a := x.a) (b := x.b) (c := x.c) (d := x.d) (e := x.e) (p := p) (q := q) (r := r) hm h
  have := hno y hy
  rw [isCl, e1] at this
  exact this
theorem dirt_some (G : Good x n p q r M ns nb nl) {m : Nat} (hm : m ≤ M.toNat) (h : ∀ j, j < m → inB (gi zs j) 0 ((n : Int) - 1) = true) (h0 : (washN p q r zs x m).c = 0) :
    (ns.o.length : Int) ≤ m ∧ nb.c.d ≤ (washN p q r zs x m).d ∧ (washN p q r zs x m).a * (washN p q r zs x m).b ≤ nl.c.a * nl.c.b := by
  obtain ⟨y, hy, e1, e2⟩ := node_in (a := x.a) (b := x.b) (c := x.c) (d := x.d) (e := x.e) (p := p) (q := q) (r := r) hm h
  have hc : isCl y = true := by rw [isCl, e1]; exact beq_iff_eq.2 h0
  have h1 := G.s.2.2 y hy hc
  have h2 := G.b.2.2 y hy hc
  have h3 := G.l.2.2 y hy hc
  rw [lenF, lenF, e2] at h1
  rw [feltF, feltF, e1] at h2
  rw [areaF, areaF, e1] at h3
  exact ⟨h1, h2, Int.neg_le_neg_iff.1 h3⟩
theorem node_ok {x : Cl} (hx : x.Ok) (hg : ∀ j, j < n → (0 ≤ p j ∧ p j ≤ 9) ∧ (0 ≤ q j ∧ q j ≤ 9) ∧ (0 ≤ r j ∧ r j ≤ 9)) {y : Nd} (hy : y ∈ nodesF x.a x.b x.c x.d x.e n p q r M) : y.c.Ok := by
  obtain ⟨h1, h2⟩ := node_path hy
  rw [h2.c]
  exact washN_ok (n := n) (x := ⟨x.a, x.b, x.c, x.d, x.e⟩) hx hg h2.ok _ (Nat.le_refl _)
theorem area_bd {y : Cl} (h : y.Ok) : 1 ≤ y.a * y.b ∧ y.a * y.b ≤ 1000000 := by
  obtain ⟨a0, a1⟩ := h.a
  obtain ⟨b0, b1⟩ := h.b
  have h1 : 1 * 1 ≤ y.a * y.b := Int.mul_le_mul a0 b0 (by omega) (by omega)
  have h2 : y.a * y.b ≤ 1000 * 1000 := Int.mul_le_mul a1 b1 (by omega) (by omega)
  omega
/-- All that the end of the law asks for. -/
theorem good_end (G : Good x n p q r M ns nb nl) : ns.c.c = 0 ∧ nb.c.c = 0 ∧ nl.c.c = 0 ∧ nb.c.d ≤ ns.c.d ∧ nb.c.d ≤ nl.c.d := by
  have c1 := G.s.2.1
  have c2 := G.b.2.1
  have c3 := G.l.2.1
  have h1 := G.b.2.2 _ G.s.1 c1
  have h2 := G.b.2.2 _ G.l.1 c3
  exact ⟨beq_iff_eq.1 c1, beq_iff_eq.1 c2, beq_iff_eq.1 c3, h1, h2⟩
end
theorem good_of {x : Cl} {n : Nat} {p q r : Nat → Int} {M : Int} {ns nb nl : Nd} (h : ((0 : Int) = 6 ∧ ns = noNd ∧ ∀ y ∈ nodesF x.a x.b x.c x.d x.e n p q r M, isCl y = false) ∨
     ((0 : Int) = 0 ∧ (ns ∈ nodesF x.a x.b x.c x.d x.e n p q r M ∧ isCl ns = true ∧ ∀ y ∈ nodesF x.a x.b x.c x.d x.e n p q r M, isCl y = true → lenF ns ≤ lenF y) ∧ (nb ∈ nodesF x.a x.b x.c x.d x.e n p q r M ∧ isCl nb = true ∧ ∀ y ∈ nodesF x.a x.b x.c x.d x.e n p q r M, isCl y = true → feltF nb ≤ feltF y) ∧ (nl ∈ nodesF x.a x.b x.c x.d x.e n p q r M ∧ isCl nl = true ∧ ∀ y ∈ nodesF x.a x.b x.c x.d x.e n p q r M, isCl y = true → areaF nl ≤ areaF y))) : Good x n p q r M ns nb nl := by
  rcases h with h | h
  · exact absurd h.1 (by decide)
  · exact ⟨h.2.1, h.2.2.1, h.2.2.2⟩
theorem none_of {P : Prop} {A B : Prop} (h : ((6 : Int) = 6 ∧ A ∧ P) ∨ ((6 : Int) = 0 ∧ B)) : P := by
  rcases h with h | h
  · exact h.2.2
  · exact absurd h.1 (by decide)
end Go.Proofs.Ytdmcemhckalhkaa
