/- Blocks of truth values, and rows beside blocks of another type. -/
import Derived.Test.YtepdgbgolopejaaLadSpec
namespace Go.Proofs.Ytepdgbgolopejaa
open Go.RowKit
set_option linter.unusedVariables false
set_option linter.unusedSimpArgs false

theorem own_differ3 {w : World} {b b' e e' s s' n n' : Nat} {v u : Value} {xs ys : List Value} (h : w.ownsRow b e s v n xs) (h' : w.ownsRow b' e' s' u n' ys) (he : e ≠ e') : v.ownBlock = none ∨ v.ownBlock ≠ u.ownBlock := by
  rcases h.2 with ⟨rfl, _⟩ | ⟨g, c, cur, rfl, _, hg, _⟩
  · exact .inl rfl
  · rcases h'.2 with ⟨rfl, _⟩ | ⟨g', c', cur', rfl, _, hg', _⟩
    · exact .inr (by simp [Value.ownBlock])
    · refine .inr fun hh => ?_
      simp only [Value.ownBlock, Option.some.injEq] at hh
      subst hh
      rw [hg] at hg'
      simp only [Option.some.injEq, Obj.cells.injEq] at hg'
      exact he hg'.2.1
theorem row_grown3 {w w1 : World} {b e s n b' e' s' n' : Nat} {v u : Value} {xs ys : List Value} (h : w.ownsRow b e s v n xs) (h' : w.ownsRow b' e' s' u n' ys) (he : e ≠ e') (hg : w.grownBy w1 u.ownBlock) : w1.ownsRow b e s v n xs := h.kept hg (own_differ3 h h' he)
/-- A block that is no row of that type. -/
theorem blk_differ {w : World} {b e s n k : Nat} {v : Value} {xs : List Value} {cs : Array Value} {t : TypeId} {fr : Nat × Nat} (h : w.heap[k]? = some (.cells cs t fr)) (h' : w.ownsRow b e s v n xs) (he : t ≠ e) : v.ownBlock ≠ some k := by
  rcases h'.2 with ⟨rfl, _⟩ | ⟨g, c, cur, rfl, _, hg, _⟩
  · simp [Value.ownBlock]
  · intro hh
    simp only [Value.ownBlock, Option.some.injEq] at hh
    subst hh
    rw [hg] at h
    simp only [Option.some.injEq, Obj.cells.injEq] at h
    exact he h.2.1.symm
theorem blk_grownT {w w1 : World} {b e s n k : Nat} {v : Value} {xs : List Value} {cs : Array Value} {t : TypeId} {fr : Nat × Nat} (h : w.heap[k]? = some (.cells cs t fr)) (h' : w.ownsRow b e s v n xs) (he : t ≠ e) (hG : w.grownBy w1 v.ownBlock) : w1.heap[k]? = some (.cells cs t fr) :=
  (hG.block k (blk_lt h) (fun e2 => blk_differ h h' he e2.symm)).trans h
theorem own_touT {w w1 : World} {b e s n g : Nat} {v : Value} {xs : List Value} {cs : Array Value} {t : TypeId} {fr : Nat × Nat} (h' : w.ownsRow b e s v n xs) (h : w.heap[g]? = some (.cells cs t fr)) (he : t ≠ e) (ht : Tou g w w1) : w1.ownsRow b e s v n xs := by
  refine h'.kept (row := some g) ⟨ht.os, ht.tape, ht.output, by rw [ht.size]; exact Nat.le_refl _, fun k _ hk => ht.block k (fun he => hk (by rw [he]))⟩ ?_
  exact .inr (blk_differ h h' he)
/-- Which of 60 numbers a list has. -/
def bArr (D : List Nat) : Array Value := ((List.range 60).map fun j => Value.bool (D.contains j)).toArray
theorem bArr_size (D : List Nat) : (bArr D).size = 60 := by simp [bArr]
theorem bArr_one (D : List Nat) : (bArr D).all (·.oneCell') = true := by
  simp [bArr, Value.oneCell']
theorem bArr_get {D : List Nat} {j : Nat} (h : j < 60) : (bArr D)[j]? = some (.bool (D.contains j)) := by
  simp [bArr, h]
theorem bArr_cell {w : World} {g : Nat} {D : List Nat} {t : TypeId} {fr : Nat × Nat} (h : w.heap[g]? = some (.cells (bArr D) t fr)) {j : Nat} (hj : j < 60) : w.cell? ⟨g, j, none⟩ = some (.bool (D.contains j)) := by
  rw [blk_cell h, bArr_get hj]
theorem bArr_set {D D' : List Nat} {j : Nat} {b : Bool} (h : ∀ i, i < 60 → D'.contains i = if i = j then b else D.contains i) : (bArr D).setIfInBounds j (.bool b) = bArr D' := by
  apply Array.ext (by simp [bArr])
  intro i h1 h2
  have hi : i < 60 := by simpa [bArr] using h2
  have := h i hi
  rw [Array.getElem_setIfInBounds (by simpa [bArr] using h1)]
  simp only [bArr, List.getElem_toArray, List.getElem_map, List.getElem_range, this]
  by_cases e : i = j
  · subst e; simp
  · simp [e, Ne.symm e]
theorem built_b : Try.prog.built 97 [] = some (bArr []) := by kernel_rfl
theorem zero_b : (Try.prog.info? 97).bind (·.zero) = some (.agg (bArr [])) := by kernel_rfl
theorem info_b (D : List Nat) : (Try.prog.info? 97).map (·.size) = some (bArr D).size := by rw [bArr_size]; kernel_rfl
section
variable {P : Program} {ops : Array Oper} {rest : List Oper} {o : Oper} {a : Act} {Q : Exit → Act → World → Prop} {w : World}
/-- A zero value that is built, as an event. -/
theorem ev_build0 (hg : o.guard = none) (t : TypeId) (ho : o.op = .build t #[]) (cells : Array Value) (hb : P.built t [] = some cells)
    (h : wpList P ops Q rest (a.put o.dst (.agg cells)) w) : wpList P ops Q (o :: rest) a w := by
  refine wpList_build hg t #[] ho (by simp [hb]) ?_
  simpa [hb] using h
/-- A new block with the zero value, as an event. -/
theorem ev_alloc0 (hg : o.guard = none) (t : TypeId) (ho : o.op = .alloc t) (cells : Array Value) (hz : (P.info? t).bind (·.zero) = some (.agg cells)) (g : Nat) (hgg : w.heap.size = g)
    (h : wpList P ops Q rest (a.put o.dst (.pointer (some ⟨g, 0, none⟩))) (w.alloc (.cells cells t (0, 0)))) : wpList P ops Q (o :: rest) a w := by
  subst hgg
  refine wpList_plain hg fun K hK => ?_
  cases hi : P.info? t with
  | none => rw [hi] at hz; cases hz
  | some i =>
    rw [hi] at hz
    have hz' : i.zero = some (.agg cells) := hz
    unfold Oper.wp execOp
    simp [ho, Instr.alloc, zeroValue, typeInfo, hi, hz', newVar, newRow]
    exact hK _ _ h
end
theorem bArr_congr {D D' : List Nat} (h : ∀ i, i < 60 → D'.contains i = D.contains i) : bArr D = bArr D' := by
  apply Array.ext (by simp [bArr])
  intro i h1 h2
  have hi : i < 60 := by simpa [bArr] using h2
  simp only [bArr, List.getElem_toArray, List.getElem_map, List.getElem_range, h i hi]
theorem tou_newL {w w1 : World} {o : Obj} (ht : Tou w.heap.size (w.alloc o) w1) : Below w.heap.size w w1 := (below_alloc (Below.refl _ _) _).trans (ht.below (Nat.le_refl _))
end Go.Proofs.Ytepdgbgolopejaa
