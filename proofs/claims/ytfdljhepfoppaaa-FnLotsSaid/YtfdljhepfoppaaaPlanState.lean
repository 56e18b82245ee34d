/- What the search through all plans keeps in memory. -/
import Derived.Test.YtfdljhepfoppaaaPlanPure
import Derived.Test.YtfdljhepfoppaaaFitBoth
namespace Go.Proofs.Ytfdljhepfoppaaa
open Go.RowKit
set_option linter.unusedVariables false
set_option linter.unusedSimpArgs false
set_option maxRecDepth 100000

def leastL (f : Visit → Int) (o : Option Visit) : Int := match o with
  | none => 0
  | some v => f v
def bestL (o : Option Visit) : List Int := match o with
  | none => []
  | some v => v.1
/-- Where things lie: the plan's row, the boxes found, least and best, what is left; boxes that nobody writes. -/
structure PLay where
  bp : Nat
  gF : Nat
  gL : Nat
  gB : Nat
  N0 : Nat
  vl : Value
  S : List (Nat × Obj)
  w0 : World
  no : Nat
  nl : Nat
  f : Visit → Int
structure PLay.Ok (D : PLay) : Prop where
  s : ∀ p ∈ D.S, p.1 ≠ D.bp ∧ p.1 ≠ D.gF ∧ p.1 ≠ D.gL ∧ p.1 ≠ D.gB ∧ D.vl.ownBlock ≠ some p.1
  pF : D.bp ≠ D.gF
  pL : D.bp ≠ D.gL
  pB : D.bp ≠ D.gB
  fL : D.gF ≠ D.gL
  fB : D.gF ≠ D.gB
  lB : D.gL ≠ D.gB
  vp : D.vl.ownBlock ≠ some D.bp
  vF : D.vl.ownBlock ≠ some D.gF
  vL : D.vl.ownBlock ≠ some D.gL
  vB : D.vl.ownBlock ≠ some D.gB
  b1 : D.w0.heap.size ≤ D.bp ∧ D.bp < D.N0
  b2 : D.w0.heap.size ≤ D.gF ∧ D.gF < D.N0
  b3 : D.w0.heap.size ≤ D.gL ∧ D.gL < D.N0
  b4 : D.w0.heap.size ≤ D.gB ∧ D.gB < D.N0
  b5 : ∀ k, D.vl.ownBlock = some k → D.w0.heap.size ≤ k ∧ k < D.N0
structure PS (D : PLay) (P Lf : List Int) (o : Option Visit) (w : World) : Prop where
  st : ∀ p ∈ D.S, w.heap[p.1]? = some p.2
  pl : w.heap[D.bp]? = some (.cells (nums .i64 P).toArray 2 (0, 0))
  lf : w.ownsRow D.w0.heap.size 2 1 D.vl D.nl (nums .i64 Lf)
  bF : w.heap[D.gF]? = some (.cells #[.bool o.isSome] 4 (0, 0))
  bL : w.heap[D.gL]? = some (.cells #[.int .i64 (leastL D.f o)] 2 (0, 0))
  bB : ∃ vb, w.heap[D.gB]? = some (.cells #[vb] 29 (0, 0)) ∧ w.ownsRow D.N0 2 1 vb (bestL o).length (nums .i64 (bestL o))
  b : Below D.w0.heap.size D.w0 w
  n0 : D.N0 ≤ w.heap.size
  lp : P.length = D.no
section
variable {D : PLay} {P Lf : List Int} {o : Option Visit} {w w1 : World}
theorem PS.below (h : PS D P Lf o w) (hb : Below w.heap.size w w1) : PS D P Lf o w1 := by
  obtain ⟨vb, h1, h2⟩ := h.bB
  exact ⟨fun p hp => blk_below (h.st p hp) hb, blk_below h.pl hb, own_below h.lf hb, blk_below h.bF hb, blk_below h.bL hb, ⟨vb, blk_below h1 hb, own_below h2 hb⟩, below_then h.b hb, Nat.le_trans h.n0 hb.size, h.lp⟩
theorem PS.alloc (h : PS D P Lf o w) (ob : Obj) : PS D P Lf o (w.alloc ob) := h.below (below_alloc (Below.refl _ _) _)
theorem PS.drewN (h : PS D P Lf o w) (n : Nat) : PS D P Lf o (w.drewN n) := by
  obtain ⟨vb, h1, h2⟩ := h.bB
  exact ⟨h.st, h.pl, h.lf, h.bF, h.bL, ⟨vb, h1, h2⟩, below_drewN h.b n, h.n0, h.lp⟩
theorem ps_ne {v : Value} {g : Nat} {B N0 : Nat} {e : TypeId} {n : Nat} {xs : List Value} (h : w.ownsRow N0 e 1 v n xs) (hg : g < N0) : v.ownBlock = none ∨ v.ownBlock ≠ some g := by
  cases hv : v.ownBlock with
  | none => exact .inl rfl
  | some k => exact .inr (fun e => by have := (h.lt k hv).1; injection e with e; omega)
theorem own_cell {v : Value} {base n g i : Nat} {u : Value} {xs : List Value} {e : TypeId} (h : w.ownsRow base e 1 v n xs) (hv : v.ownBlock = none ∨ v.ownBlock ≠ some g) : (w.setCell ⟨g, i, none⟩ u).ownsRow base e 1 v n xs :=
  h.kept (row := some g) ⟨rfl, rfl, rfl, by simp, fun k _ hk => Below.heap_setCell w _ u k (fun he => hk (by rw [he]))⟩ hv
/-- A place of the plan is written. -/
theorem PS.setPlan (hD : D.Ok) (h : PS D P Lf o w) (i : Nat) (z : Int) : PS D (P.set i z) Lf o (w.setCell ⟨D.bp, i, none⟩ (.int .i64 z)) := by
  obtain ⟨vb, h1, h2⟩ := h.bB
  refine ⟨fun p hp => blk_far (h.st p hp) (hD.s p hp).1 _ _, ?_, own_cell h.lf (.inr hD.vp), blk_far h.bF hD.pF.symm _ _, blk_far h.bL hD.pL.symm _ _, ⟨vb, blk_far h1 hD.pB.symm _ _, own_cell h2 (ps_ne (B := 0) h2 hD.b1.2)⟩, h.b.setCell hD.b1.1 _, by simpa using h.n0, by rw [List.length_set]; exact h.lp⟩
  have := blk_set h.pl i (.int .i64 z)
  rw [nums_set] at this
  exact this
/-- What is left in a lot is written. -/
theorem PS.setLeft (hD : D.Ok) {bl c : Nat} (hv : D.vl = .slice (some ⟨bl, 0, none⟩) D.nl c) (h : PS D P Lf o w) (k : Nat) (hk : k < D.nl) (z : Int) : PS D P (Lf.set k z) o (w.setCell ⟨bl, k, none⟩ (.int .i64 z)) := by
  obtain ⟨vb, h1, h2⟩ := h.bB
  have hb : D.vl.ownBlock = some bl := by rw [hv]; rfl
  have e1 : bl ≠ D.bp := fun e => hD.vp (by rw [hb, e])
  have e2 : bl ≠ D.gF := fun e => hD.vF (by rw [hb, e])
  have e3 : bl ≠ D.gL := fun e => hD.vL (by rw [hb, e])
  have e4 : bl ≠ D.gB := fun e => hD.vB (by rw [hb, e])
  refine ⟨fun p hp => blk_far (h.st p hp) (fun e => (hD.s p hp).2.2.2.2 (by rw [hb, e])) _ _, blk_far h.pl e1.symm _ _, ?_, blk_far h.bF e2.symm _ _, blk_far h.bL e3.symm _ _, ⟨vb, blk_far h1 e4.symm _ _, own_cell h2 (ps_ne (B := 0) h2 (hD.b5 bl hb).2)⟩, h.b.setCell (hD.b5 bl hb).1 _, by simpa using h.n0, h.lp⟩
  have h3 := h.lf
  rw [hv] at h3 ⊢
  have := own_set h3 k (by omega) (.int .i64 z)
  simpa [nums, List.map_set] using this
/-- The plan at hand becomes the best one. -/
theorem PS.best (hD : D.Ok) (h : PS D P Lf o w) {v : Value} (hv : w.ownsRow D.N0 2 1 v P.length (nums .i64 P)) :
    PS D P Lf (some (P, Lf)) (((w.setCell ⟨D.gB, 0, none⟩ v).setCell ⟨D.gL, 0, none⟩ (.int .i64 (D.f (P, Lf)))).setCell ⟨D.gF, 0, none⟩ (.bool true)) := by
  obtain ⟨vb, h1, _⟩ := h.bB
  have n1 := ps_ne (B := 0) hv hD.b4.2
  have n2 := ps_ne (B := 0) hv hD.b3.2
  have n3 := ps_ne (B := 0) hv hD.b2.2
  refine ⟨fun p hp => blk_far (blk_far (blk_far (h.st p hp) (hD.s p hp).2.2.2.1 _ _) (hD.s p hp).2.2.1 _ _) (hD.s p hp).2.1 _ _, blk_far (blk_far (blk_far h.pl hD.pB _ _) hD.pL _ _) hD.pF _ _, own_cell (own_cell (own_cell h.lf (.inr hD.vB)) (.inr hD.vL)) (.inr hD.vF), ?_, ?_, ⟨v, ?_, own_cell (own_cell (own_cell hv n1) n2) n3⟩, ((h.b.setCell hD.b4.1 _).setCell hD.b3.1 _).setCell hD.b2.1 _, by simpa using h.n0, h.lp⟩
  · exact blk_set (blk_far (blk_far h.bF hD.fB _ _) hD.fL _ _) 0 _
  · exact blk_far (blk_set (blk_far h.bL hD.lB _ _) 0 _) hD.fL.symm _ _
  · exact blk_far (blk_far (blk_set h1 0 _) hD.lB.symm _ _) hD.fB.symm _ _
theorem PS.box (h : PS D P Lf o w) {g : Nat} {u : Value} {t : TypeId} (hp : (g, Obj.cells #[u] t (0, 0)) ∈ D.S) : w.cell? ⟨g, 0, none⟩ = some u := cell_of_row w g 0 _ _ _ (h.st _ hp)
end
end Go.Proofs.Ytfdljhepfoppaaa
