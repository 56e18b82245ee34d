/- All lists of washes behind which a cloth is clean: the program's levels. -/
import Derived.Test.YtdmcemhckalhkaaTreeRows
import Derived.Test.YtdmcemhckalhkaaAppKeep
import Derived.Deep.RegionHeld3
import Derived.Deep.DeepCutAuto
import Derived.Deep.CutBlock
namespace Go.Proofs.Ytdmcemhckalhkaa
open Go.RowKit
set_option linter.unusedVariables false
set_option linter.unusedSimpArgs false
set_option maxRecDepth 100000

theorem ti_drewB {w : World} {g : Nat} {o : Obj} (h : w.heap[g]? = some o) : w.drew.heap[g]? = some o := h
theorem ti_lit {w : World} {G : Nat} {l : List Value} {t : TypeId} (h : w.heap[G]? = some (.cells l.toArray t (0, 0))) : ∀ j y, l[j]? = some y → w.cell? ((⟨G, 0, none⟩ : Addr).add j) = some y := World.news_of_block (cs := l.toArray) h
theorem apart_grow {u v : Value} {B g n c : Nat} (hap : apart u v) (hu : ∀ k, u.ownBlock = some k → k < B) (hat : v.ownBlock = some g ∨ B ≤ g) : apart u (.slice (some ⟨g, 0, none⟩) n c) := fun k e1 e2 => by
  simp only [Value.ownBlock, Option.some.injEq] at e2
  subst e2
  rcases hat with h | h
  · exact hap _ e1 h
  · have := hu _ e1; omega
theorem apart_nil (u : Value) : apart u (.slice none 0 0) := fun k _ e => by simp [Value.ownBlock] at e
theorem grown_below {w w1 : World} {B : Nat} {row : Option Nat} {w0 : World} (hb : Below B w0 w) (hg : w.grownBy w1 row) (hrow : ∀ k, row = some k → B ≤ k) (hB : B ≤ w.heap.size) : Below B w0 w1 := hb.grown hg hB hrow

/-- The rows of nodes: this level, the clean ones, the next level. -/
structure RI (w0 : World) (vN vO vX : Value) (LN LO LX : List (Nd × Value)) (w' : World) : Prop where
  oN : w'.ownsRow w0.heap.size 69 6 vN LN.length (rowI LN)
  oO : w'.ownsRow w0.heap.size 69 6 vO LO.length (rowI LO)
  oX : w'.ownsRow w0.heap.size 69 6 vX LX.length (rowI LX)
  rN : Orders w' w0.heap.size LN
  rO : Orders w' w0.heap.size LO
  rX : Orders w' w0.heap.size LX
  b : Below w0.heap.size w0 w'
  aNO : apart vN vO
  aNX : apart vN vX
  aOX : apart vO vX
section
variable {w0 w' w1 : World} {vN vO vX : Value} {LN LO LX : List (Nd × Value)}
theorem RI.below (h : RI w0 vN vO vX LN LO LX w') (hb : Below w'.heap.size w' w1) : RI w0 vN vO vX LN LO LX w1 :=
  ⟨own_below h.oN hb, own_below h.oO hb, own_below h.oX hb, h.rN.below hb, h.rO.below hb, h.rX.below hb, below_then h.b hb, h.aNO, h.aNX, h.aOX⟩
theorem RI.alloc (h : RI w0 vN vO vX LN LO LX w') (o : Obj) : RI w0 vN vO vX LN LO LX (w'.alloc o) := h.below (below_alloc (Below.refl _ _) _)
theorem RI.drew (h : RI w0 vN vO vX LN LO LX w') : RI w0 vN vO vX LN LO LX w'.drew :=
  ⟨own_drew h.oN, own_drew h.oO, own_drew h.oX, h.rN.drew, h.rO.drew, h.rX.drew, below_drew h.b, h.aNO, h.aNX, h.aOX⟩
theorem RI.list (h : RI w0 vN vO vX LN LO LX w') {v : Value} {n : Nat} {ys : List Value} (hG : w'.grownBy w1 v.ownBlock) (hN : w'.ownsRow w0.heap.size 2 1 v n ys) (a1 : ∀ y ∈ LN, apart y.2 v) (a2 : ∀ y ∈ LO, apart y.2 v) (a3 : ∀ y ∈ LX, apart y.2 v) : RI w0 vN vO vX LN LO LX w1 :=
  ⟨row_grown h.oN hN (by decide) hG, row_grown h.oO hN (by decide) hG, row_grown h.oX hN (by decide) hG, h.rN.list (N := 0) a1 hG, h.rO.list (N := 0) a2 hG, h.rX.list (N := 0) a3 hG, below_grown h.b hG hN (Nat.le_refl _) h.b.size, h.aNO, h.aNX, h.aOX⟩
/-- The next level's row has grown; the old view. -/
theorem RI.keepX (h : RI w0 vN vO vX LN LO LX w') (hG : w'.grownBy w1 vX.ownBlock) (hold : w1.ownsRow w0.heap.size 69 6 vX LX.length (rowI LX)) : RI w0 vN vO vX LN LO LX w1 :=
  ⟨h.oN.kept hG h.aNX.ne, h.oO.kept hG h.aOX.ne, hold, h.rN.row h.oX hG (by decide), h.rO.row h.oX hG (by decide), h.rX.row h.oX hG (by decide), below_grown h.b hG h.oX (Nat.le_refl _) h.b.size, h.aNO, h.aNX, h.aOX⟩
theorem RI.next (h : RI w0 vN vO vX LN LO LX w') {g c : Nat} {z : Nd × Value} (hG : w'.grownBy w1 vX.ownBlock) (hat : vX.ownBlock = some g ∨ w'.heap.size ≤ g)
    (hO : w1.ownsRow w0.heap.size 69 6 (.slice (some ⟨g, 0, none⟩) (LX.length + 1) c) (LX.length + 1) (rowI LX ++ cellsI z)) (hz : w'.ownsRow w0.heap.size 2 1 z.2 z.1.o.length (nums .i64 z.1.o)) :
    RI w0 vN vO (.slice (some ⟨g, 0, none⟩) (LX.length + 1) c) LN LO (LX ++ [z]) w1 :=
  ⟨h.oN.kept hG h.aNX.ne, h.oO.kept hG h.aOX.ne, by rw [List.length_append, rowI_snoc]; exact hO, h.rN.row h.oX hG (by decide), h.rO.row h.oX hG (by decide), (h.rX.row h.oX hG (by decide)).snoc (row_grown hz h.oX (by decide) hG), below_grown h.b hG h.oX (Nat.le_refl _) h.b.size, h.aNO, apart_grow h.aNX (own_lo h.oN (Nat.le_refl _)) hat, apart_grow h.aOX (own_lo h.oO (Nat.le_refl _)) hat⟩
theorem RI.out (h : RI w0 vN vO vX LN LO LX w') {g c : Nat} {z : Nd × Value} (hG : w'.grownBy w1 vO.ownBlock) (hat : vO.ownBlock = some g ∨ w'.heap.size ≤ g)
    (hO : w1.ownsRow w0.heap.size 69 6 (.slice (some ⟨g, 0, none⟩) (LO.length + 1) c) (LO.length + 1) (rowI LO ++ cellsI z)) (hz : w'.ownsRow w0.heap.size 2 1 z.2 z.1.o.length (nums .i64 z.1.o)) :
    RI w0 vN (.slice (some ⟨g, 0, none⟩) (LO.length + 1) c) vX LN (LO ++ [z]) LX w1 :=
  ⟨h.oN.kept hG h.aNO.ne, by rw [List.length_append, rowI_snoc]; exact hO, h.oX.kept hG h.aOX.symm.ne, h.rN.row h.oO hG (by decide), (h.rO.row h.oO hG (by decide)).snoc (row_grown hz h.oO (by decide) hG), h.rX.row h.oO hG (by decide), below_grown h.b hG h.oO (Nat.le_refl _) h.b.size, apart_grow h.aNO (own_lo h.oN (Nat.le_refl _)) hat, h.aNX, (apart_grow h.aOX.symm (own_lo h.oX (Nat.le_refl _)) hat).symm⟩
/-- The next level takes this level's place. -/
theorem RI.turn (h : RI w0 vN vO vX LN LO LX w') : RI w0 vX vO (.slice none 0 0) LX LO [] w' :=
  ⟨h.oX, h.oO, own_nil _ _ _ _, h.rX, h.rO, fun _ hx => by simp at hx, h.b, h.aOX.symm, apart_nil _, apart_nil _⟩
end
/-- What the region of a new node holds on to. -/
abbrev TI (bw bp : Nat) (x : Cl) (vo : Value) (pp pq pr : Int) (w0 : World) (vN vO vX : Value) (LN LO LX : List (Nd × Value)) (w' : World) : Prop :=
  (w'.cell? ⟨bw, 0, none⟩ = some vo ∧ w'.cell? ⟨bw, 1, none⟩ = some (.int .i16 x.a) ∧ w'.cell? ⟨bw, 2, none⟩ = some (.int .i16 x.b) ∧ w'.cell? ⟨bw, 3, none⟩ = some (.int .i8 x.c) ∧ w'.cell? ⟨bw, 4, none⟩ = some (.int .i8 x.d) ∧ w'.cell? ⟨bw, 5, none⟩ = some (.int .i8 x.e) ∧ w'.cell? ⟨bp, 0, none⟩ = some (.int .i8 pp) ∧ w'.cell? ⟨bp, 1, none⟩ = some (.int .i8 pq) ∧ w'.cell? ⟨bp, 2, none⟩ = some (.int .i8 pr)) ∧
  Hid (w'.heap[bw]? = some (.cells #[vo, .int .i16 x.a, .int .i16 x.b, .int .i8 x.c, .int .i8 x.d, .int .i8 x.e] 69 (0, 0))) ∧ Hid (w'.heap[bp]? = some (.cells #[.int .i8 pp, .int .i8 pq, .int .i8 pr] 47 (0, 0))) ∧ Hid (RI w0 vN vO vX LN LO LX w')
section
variable {bw bp : Nat} {x : Cl} {vo : Value} {pp pq pr : Int} {w0 w' w1 : World} {vN vO vX : Value} {LN LO LX : List (Nd × Value)}
theorem ti_mk (h1 : w'.heap[bw]? = some (.cells #[vo, .int .i16 x.a, .int .i16 x.b, .int .i8 x.c, .int .i8 x.d, .int .i8 x.e] 69 (0, 0))) (h2 : w'.heap[bp]? = some (.cells #[.int .i8 pp, .int .i8 pq, .int .i8 pr] 47 (0, 0))) (h3 : RI w0 vN vO vX LN LO LX w') : TI bw bp x vo pp pq pr w0 vN vO vX LN LO LX w' :=
  ⟨⟨cell_of_row w' bw 0 _ _ _ h1, cell_of_row w' bw 1 _ _ _ h1, cell_of_row w' bw 2 _ _ _ h1, cell_of_row w' bw 3 _ _ _ h1, cell_of_row w' bw 4 _ _ _ h1, cell_of_row w' bw 5 _ _ _ h1, cell_of_row w' bp 0 _ _ _ h2, cell_of_row w' bp 1 _ _ _ h2, cell_of_row w' bp 2 _ _ _ h2⟩, h1, h2, h3⟩
theorem ti_below (hb : Below w'.heap.size w' w1) (h : TI bw bp x vo pp pq pr w0 vN vO vX LN LO LX w') : TI bw bp x vo pp pq pr w0 vN vO vX LN LO LX w1 := ti_mk (blk_below h.2.1.out hb) (blk_below h.2.2.1.out hb) (h.2.2.2.out.below hb)
theorem ti_alloc (o : Obj) (h : TI bw bp x vo pp pq pr w0 vN vO vX LN LO LX w') : TI bw bp x vo pp pq pr w0 vN vO vX LN LO LX (w'.alloc o) := ti_below (below_alloc (Below.refl _ _) _) h
theorem ti_allocd (o : Obj) (h : TI bw bp x vo pp pq pr w0 vN vO vX LN LO LX w'.drew) : TI bw bp x vo pp pq pr w0 vN vO vX LN LO LX (w'.alloc o).drew := ti_alloc o h
theorem ti_bw (h : TI bw bp x vo pp pq pr w0 vN vO vX LN LO LX w') : bw < w'.heap.size := blk_lt h.2.1.out
theorem ti_R (h : TI bw bp x vo pp pq pr w0 vN vO vX LN LO LX w') : RI w0 vN vO vX LN LO LX w' := h.2.2.2.out
theorem ti_ord {o : List Int} (hm : (⟨x, o⟩, vo) ∈ LN) (h : TI bw bp x vo pp pq pr w0 vN vO vX LN LO LX w') : w'.ownsRow w0.heap.size 2 1 vo o.length (nums .i64 o) := h.2.2.2.out.rN _ hm
theorem ti_sz (h : TI bw bp x vo pp pq pr w0 vN vO vX LN LO LX w') : w0.heap.size ≤ w'.heap.size := h.2.2.2.out.b.size
theorem blk_kept {k e e' size n base : Nat} {v : Value} {xs : List Value} {cs : Array Value} (hb : w'.heap[k]? = some (.cells cs e (0, 0))) (hv : w'.ownsRow base e' size v n xs) (hG : w'.grownBy w1 v.ownBlock) (hne : e ≠ e') : w1.heap[k]? = some (.cells cs e (0, 0)) := by
  refine (hG.block k (blk_lt hb) ?_).trans hb
  intro he
  rcases hv.2 with ⟨rfl, _⟩ | ⟨g, c, cur, rfl, _, hg, _⟩
  · simp [Value.ownBlock] at he
  · simp only [Value.ownBlock, Option.some.injEq] at he
    subst he
    rw [hb] at hg
    simp only [Option.some.injEq, Obj.cells.injEq] at hg
    exact hne hg.2.1
theorem ti_list {v : Value} {n : Nat} {ys : List Value} (hG : w'.grownBy w1 v.ownBlock) (hN : w'.ownsRow w0.heap.size 2 1 v n ys) (a1 : ∀ y ∈ LN, apart y.2 v) (a2 : ∀ y ∈ LO, apart y.2 v) (a3 : ∀ y ∈ LX, apart y.2 v) (h : TI bw bp x vo pp pq pr w0 vN vO vX LN LO LX w') : TI bw bp x vo pp pq pr w0 vN vO vX LN LO LX w1 :=
  ti_mk (blk_kept h.2.1.out hN hG (by decide)) (blk_kept h.2.2.1.out hN hG (by decide)) (h.2.2.2.out.list hG hN a1 a2 a3)
theorem ti_next (hbw : vX.ownBlock ≠ some bw) (hG : w'.grownBy w1 vX.ownBlock) (hold : w1.ownsRow w0.heap.size 69 6 vX LX.length (rowI LX)) (h : TI bw bp x vo pp pq pr w0 vN vO vX LN LO LX w') : TI bw bp x vo pp pq pr w0 vN vO vX LN LO LX w1 :=
  ti_mk ((hG.block bw (blk_lt h.2.1.out) (fun e => hbw e.symm)).trans h.2.1.out) (blk_kept h.2.2.1.out h.2.2.2.out.oX hG (by decide)) (h.2.2.2.out.keepX hG hold)
end
end Go.Proofs.Ytdmcemhckalhkaa
