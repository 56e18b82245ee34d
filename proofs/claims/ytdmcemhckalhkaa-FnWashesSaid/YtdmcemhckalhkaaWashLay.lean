/- How things lie in the law on washes. -/
import Derived.Test.YtdmcemhckalhkaaDrawProg
import Derived.Test.YtdmcemhckalhkaaTreeBest
import Derived.Test.YtdmcemhckalhkaaWashPure
import Derived.Test.YtdmcemhckalhkaaWashEq
import Derived.Test.YtdmcemhckalhkaaSameHas
import Derived.Test.YtdmcemhckalhkaaA2Base
namespace Go.Proofs.Ytdmcemhckalhkaa
open Go.RowKit
set_option linter.unusedVariables false
set_option linter.unusedSimpArgs false
set_option maxRecDepth 100000

theorem tou_newM {w w1 : World} {o : Obj} (ht : Tou w.heap.size (w.alloc o) w1) : Below w.heap.size w w1 := (below_alloc (Below.refl _ _) _).trans (ht.below (Nat.le_refl _))
/-- Cloths, lists of numbers, and the programs. -/
structure Lay (W : World) (K : List (Nat × Cl)) (R : List (Value × List Int)) (gp cp : Nat) (L : List (Int × Int × Int)) (w : World) : Prop where
  b : Below W.heap.size W w
  k : ∀ p ∈ K, w.heap[p.1]? = some (.cells p.2.cells 27 (0, 0))
  r : ∀ x ∈ R, w.ownsRow W.heap.size 2 1 x.1 x.2.length (nums .i64 x.2)
  p : w.ownsRow W.heap.size 47 3 (.slice (some ⟨gp, 0, none⟩) L.length cp) L.length (rowP L)
section
variable {W w w1 : World} {K : List (Nat × Cl)} {R : List (Value × List Int)} {gp cp : Nat} {L : List (Int × Int × Int)}
theorem Lay.below (h : Lay W K R gp cp L w) (hb : Below w.heap.size w w1) : Lay W K R gp cp L w1 :=
  ⟨below_then h.b hb, fun p hp => blk_below (h.k p hp) hb, fun x hx => own_below (h.r x hx) hb, own_below h.p hb⟩
theorem Lay.addK (h : Lay W K R gp cp L w) {g : Nat} (X : Cl) (hg : w.heap[g]? = some (.cells #[.int .i16 X.a, .int .i16 X.b, .int .i8 X.c, .int .i8 X.d, .int .i8 X.e] 27 (0, 0))) : Lay W ((g, X) :: K) R gp cp L w :=
  ⟨h.b, fun p hp => by rcases List.mem_cons.1 hp with rfl | hp; exact hg; exact h.k p hp, h.r, h.p⟩
theorem Lay.addR (h : Lay W K R gp cp L w) {v : Value} (zs : List Int) (hv : w.ownsRow W.heap.size 2 1 v zs.length (nums .i64 zs)) : Lay W K ((v, zs) :: R) gp cp L w :=
  ⟨h.b, h.k, fun x hx => by rcases List.mem_cons.1 hx with rfl | hx; exact hv; exact h.r x hx, h.p⟩
theorem Lay.drew (h : Lay W K R gp cp L w) (n : Nat) : Lay W K R gp cp L (w.drewN n) := ⟨below_drewN h.b n, h.k, h.r, h.p⟩
/-- Only block g is written. -/
theorem Lay.tou (h : Lay W K R gp cp L w) {g : Nat} (ht : Tou g w w1) (hg : W.heap.size ≤ g) (hK : ∀ p ∈ K, p.1 ≠ g) (hR : ∀ x ∈ R, x.1.ownBlock ≠ some g) (hp : gp ≠ g) : Lay W K R gp cp L w1 :=
  ⟨h.b.trans (ht.below hg), fun p hp => blk_tou (h.k p hp) ht (hK p hp), fun x hx => (h.r x hx).kept (row := some g) ⟨ht.os, ht.tape, ht.output, by rw [ht.size]; exact Nat.le_refl _, fun i _ hk => ht.block i (fun he => hk (by rw [he]))⟩ (.inr (hR x hx)),
    h.p.kept (row := some g) ⟨ht.os, ht.tape, ht.output, by rw [ht.size]; exact Nat.le_refl _, fun i _ hk => ht.block i (fun he => hk (by rw [he]))⟩ (.inr (by simp only [Value.ownBlock, ne_eq, Option.some.injEq]; exact hp))⟩
theorem Lay.blk (h : Lay W K R gp cp L w) {g : Nat} {X : Cl} (hm : (g, X) ∈ K) : w.heap[g]? = some (.cells #[.int .i16 X.a, .int .i16 X.b, .int .i8 X.c, .int .i8 X.d, .int .i8 X.e] 27 (0, 0)) := h.k _ hm
theorem Lay.c0 (h : Lay W K R gp cp L w) {g : Nat} {X : Cl} (hm : (g, X) ∈ K) : w.cell? ⟨g, 0, none⟩ = some (.int .i16 X.a) := cell_of_row w g 0 _ _ _ (h.blk hm)
theorem Lay.c1 (h : Lay W K R gp cp L w) {g : Nat} {X : Cl} (hm : (g, X) ∈ K) : w.cell? ⟨g, 1, none⟩ = some (.int .i16 X.b) := cell_of_row w g 1 _ _ _ (h.blk hm)
theorem Lay.c2 (h : Lay W K R gp cp L w) {g : Nat} {X : Cl} (hm : (g, X) ∈ K) : w.cell? ⟨g, 2, none⟩ = some (.int .i8 X.c) := cell_of_row w g 2 _ _ _ (h.blk hm)
theorem Lay.c3 (h : Lay W K R gp cp L w) {g : Nat} {X : Cl} (hm : (g, X) ∈ K) : w.cell? ⟨g, 3, none⟩ = some (.int .i8 X.d) := cell_of_row w g 3 _ _ _ (h.blk hm)
theorem Lay.c4 (h : Lay W K R gp cp L w) {g : Nat} {X : Cl} (hm : (g, X) ∈ K) : w.cell? ⟨g, 4, none⟩ = some (.int .i8 X.e) := cell_of_row w g 4 _ _ _ (h.blk hm)
theorem Lay.row (h : Lay W K R gp cp L w) {v : Value} {zs : List Int} (hm : (v, zs) ∈ R) : w.ownsRow W.heap.size 2 1 v zs.length (nums .i64 zs) := h.r _ hm
theorem Lay.progs (h : Lay W K R gp cp L w) : ProgsAt w (some ⟨gp, 0, none⟩) L.length (pF L) (qF L) (rF L) := progs_row h.p
end
theorem nums_snocZ (zs : List Int) (z : Int) : nums .i64 zs ++ [.int .i64 z] = nums .i64 (zs ++ [z]) := by simp [nums]
theorem zs_snoc {zs : List Int} {k n : Nat} {z : Int} (hk : zs.length = k) (h : ∀ j, j < k → inB (gi zs j) 0 ((n : Int) - 1) = true) (hz : 0 ≤ z ∧ z < (n : Int)) : ∀ j, j < k + 1 → inB (gi (zs ++ [z]) j) 0 ((n : Int) - 1) = true := fun j hj => by
  by_cases e : j = k
  · subst e; rw [← hk, gi_last]; simp [inB]; omega
  · rw [gi_snoc _ _ (by omega)]; exact h j (by omega)
/-- A row that no cloth, no list and no program lies in grows. -/
theorem Lay.grown {W w w1 : World} {K : List (Nat × Cl)} {gp cp : Nat} {L : List (Int × Int × Int)} (h : Lay W K [] gp cp L w) {v : Value} {n : Nat} {xs : List Value} (hg : w.grownBy w1 v.ownBlock) (hv : w.ownsRow W.heap.size 2 1 v n xs) : Lay W K [] gp cp L w1 := by
  refine ⟨below_grown h.b hg hv (Nat.le_refl _) h.b.size, fun p hp => ?_, fun x hx => by simp at hx, ?_⟩
  · have hb := h.k p hp
    rcases own_ne_blk hv hb (by decide) with e | e
    · exact (hg.block _ (blk_lt hb) (by rw [e]; simp)).trans hb
    · exact (hg.block _ (blk_lt hb) (fun h => e h.symm)).trans hb
  · refine h.p.kept (row := v.ownBlock) hg ?_
    rcases h.p.2 with ⟨e, _⟩ | ⟨g, c, cur, e, hb, hblk, _⟩
    · cases e
    · right
      rw [e]
      rcases own_ne_blk hv hblk (by decide) with e2 | e2
      · rw [e2]; simp [Value.ownBlock]
      · intro e3; exact e2 (by rw [← e3]; rfl)
theorem inB_bd {z lo hi : Int} (h : inB z lo hi = true) : lo ≤ z ∧ z ≤ hi := by simpa [inB] using h
theorem Lay.pr {W w : World} {K : List (Nat × Cl)} {R : List (Value × List Int)} {gp cp : Nat} {L : List (Int × Int × Int)} (h : Lay W K R gp cp L w) {i : Nat} (hi : i < L.length) : w.cell? ⟨gp, i * 3, none⟩ = some (.int .i8 (pF L i)) ∧ w.cell? ⟨gp, i * 3 + 1, none⟩ = some (.int .i8 (qF L i)) ∧ w.cell? ⟨gp, i * 3 + 2, none⟩ = some (.int .i8 (rF L i)) := by
  obtain ⟨ad, e, c0, c1, c2⟩ := h.progs.at_ i hi
  cases e
  have ea : (Addr.add ⟨gp, 0, none⟩ (i * 3)) = ⟨gp, i * 3, none⟩ := by unfold Addr.add; split <;> simp_all
  rw [ea] at c0 c1 c2
  exact ⟨c0, c1, c2⟩
theorem okProg_of {p q r : Int} (hp : 0 ≤ p ∧ p ≤ 9) (hq : 0 ≤ q ∧ q ≤ 9) (hr : 0 ≤ r ∧ r ≤ 9) : okProgram p q r = true := by simp [okProgram, nine]; omega
theorem feltsBy_of {X : Cl} {p q r : Int} (hX : X.Ok) (hp : 0 ≤ p ∧ p ≤ 9) (hq : 0 ≤ q ∧ q ≤ 9) (hr : 0 ≤ r ∧ r ≤ 9) : feltsByF X.a X.b X.c X.d X.e p q r = (feltsV X.d X.e p q, 0) := by
  rw [feltsByF, okCloth_of hX, okProg_of hp hq hr]; rfl
theorem washOnce_of {X : Cl} {p q r : Int} (hX : X.Ok) (hp : 0 ≤ p ∧ p ≤ 9) (hq : 0 ≤ q ∧ q ≤ 9) (hr : 0 ≤ r ∧ r ≤ 9) : washOnceF X.a X.b X.c X.d X.e p q r = (#[.int .i16 (washC X p q r).a, .int .i16 (washC X p q r).b, .int .i8 (washC X p q r).c, .int .i8 (washC X p q r).d, .int .i8 (washC X p q r).e], 0) := by
  rw [washOnceF, okCloth_of hX, okProg_of hp hq hr]; rfl
theorem shrunk_of {X Z : Cl} (hX : X.Ok) (hZ : Z.Ok) (h1 : Z.a ≤ X.a) (h2 : Z.b ≤ X.b) (h3 : X.d ≤ Z.d) : shrunkBy X.a X.b X.c X.d X.e Z.a Z.b Z.c Z.d Z.e = (X.a - Z.a, X.b - Z.b, 0) := by
  unfold shrunkBy
  rw [okCloth_of hX, okCloth_of hZ, if_pos (show (true && true) = true from rfl), if_neg (by omega)]
theorem Lay.sub {W w : World} {K K' : List (Nat × Cl)} {R : List (Value × List Int)} {gp cp : Nat} {L : List (Int × Int × Int)} (h : Lay W K R gp cp L w) (hs : ∀ p ∈ K', p ∈ K) : Lay W K' R gp cp L w := ⟨h.b, fun p hp => h.k p (hs p hp), h.r, h.p⟩
theorem Lay.swap {W w : World} {a b : Nat × Cl} {K : List (Nat × Cl)} {R : List (Value × List Int)} {gp cp : Nat} {L : List (Int × Int × Int)} (h : Lay W (a :: b :: K) R gp cp L w) : Lay W (b :: a :: K) R gp cp L w := h.sub fun p hp => by simp only [List.mem_cons] at hp ⊢; rcases hp with h | h | h <;> simp [h]
theorem Lay.fresh {W w : World} {K : List (Nat × Cl)} {R : List (Value × List Int)} {gp cp : Nat} {L : List (Int × Int × Int)} (h : Lay W K R gp cp L w) : (∀ p ∈ K, p.1 ≠ w.heap.size) ∧ (∀ x ∈ R, x.1.ownBlock ≠ some w.heap.size) ∧ gp ≠ w.heap.size :=
  ⟨fun p hp e => by have := blk_lt (h.k p hp); omega, fun x hx e => by have := own_lo (h.r x hx) (Nat.le_refl _) _ e; omega, fun e => by have := own_lo h.p (Nat.le_refl _) gp rfl; omega⟩
theorem Lay.sets5 {W w : World} {K : List (Nat × Cl)} {R : List (Value × List Int)} {gp cp : Nat} {L : List (Int × Int × Int)} (h : Lay W K R gp cp L w) {g : Nat} (hg : W.heap.size ≤ g) (hf : (∀ p ∈ K, p.1 ≠ g) ∧ (∀ x ∈ R, x.1.ownBlock ≠ some g) ∧ gp ≠ g) (y0 y1 y2 y3 y4 : Value) :
    Lay W K R gp cp L (((((w.setCell ⟨g, 0, none⟩ y0).setCell ⟨g, 1, none⟩ y1).setCell ⟨g, 2, none⟩ y2).setCell ⟨g, 3, none⟩ y3).setCell ⟨g, 4, none⟩ y4) :=
  ((((h.tou (Tou.setCell _ g 0 y0) hg hf.1 hf.2.1 hf.2.2).tou (Tou.setCell _ g 1 y1) hg hf.1 hf.2.1 hf.2.2).tou (Tou.setCell _ g 2 y2) hg hf.1 hf.2.1 hf.2.2).tou (Tou.setCell _ g 3 y3) hg hf.1 hf.2.1 hf.2.2).tou (Tou.setCell _ g 4 y4) hg hf.1 hf.2.1 hf.2.2
theorem row5 {w : World} {g : Nat} {t : TypeId} {x0 x1 x2 x3 x4 : Value} (h : w.heap[g]? = some (.cells #[x0, x1, x2, x3, x4] t (0, 0))) (y0 y1 y2 y3 y4 : Value) :
    (((((w.setCell ⟨g, 0, none⟩ y0).setCell ⟨g, 1, none⟩ y1).setCell ⟨g, 2, none⟩ y2).setCell ⟨g, 3, none⟩ y3).setCell ⟨g, 4, none⟩ y4).heap[g]? = some (.cells #[y0, y1, y2, y3, y4] t (0, 0)) := by
  have := blk_set (blk_set (blk_set (blk_set (blk_set h 0 y0) 1 y1) 2 y2) 3 y3) 4 y4
  simpa using this
/-- What a region of one wash holds on to: the cloth at hand, the number in the order, the program; and all that lies. -/
abbrev WS (W : World) (K : List (Nat × Cl)) (R : List (Value × List Int)) (gp cp : Nat) (L : List (Int × Int × Int)) (gn g8 k i : Nat) (X : Cl) (w' : World) : Prop :=
  (w'.cell? ⟨gn, 0, none⟩ = some (.int .i16 X.a) ∧ w'.cell? ⟨gn, 1, none⟩ = some (.int .i16 X.b) ∧ w'.cell? ⟨gn, 2, none⟩ = some (.int .i8 X.c) ∧ w'.cell? ⟨gn, 3, none⟩ = some (.int .i8 X.d) ∧ w'.cell? ⟨gn, 4, none⟩ = some (.int .i8 X.e) ∧
    w'.cell? ⟨g8, k, none⟩ = some (.int .i64 (i : Int)) ∧ w'.cell? ⟨gp, i * 3, none⟩ = some (.int .i8 (pF L i)) ∧ w'.cell? ⟨gp, i * 3 + 1, none⟩ = some (.int .i8 (qF L i)) ∧ w'.cell? ⟨gp, i * 3 + 2, none⟩ = some (.int .i8 (rF L i))) ∧
  Hid (Lay W ((gn, X) :: K) R gp cp L w')
section
variable {W w w1 : World} {K : List (Nat × Cl)} {R : List (Value × List Int)} {gp cp : Nat} {L : List (Int × Int × Int)} {gn g8 k i c8 : Nat} {X : Cl} {zs : List Int}
theorem ws_mk (hm : (Value.slice (some ⟨g8, 0, none⟩) zs.length c8, zs) ∈ R) (hk : k < zs.length) (hz : gi zs k = (i : Int)) (hi : i < L.length) (h : Lay W ((gn, X) :: K) R gp cp L w) : WS W K R gp cp L gn g8 k i X w := by
  have h1 := (own_get (h.row hm) (nums_get (k := .i64) hk)).1
  rw [hz] at h1
  obtain ⟨p0, p1, p2⟩ := h.pr hi
  exact ⟨⟨h.c0 (by simp), h.c1 (by simp), h.c2 (by simp), h.c3 (by simp), h.c4 (by simp), h1, p0, p1, p2⟩, h⟩
theorem ws_below (hm : (Value.slice (some ⟨g8, 0, none⟩) zs.length c8, zs) ∈ R) (hk : k < zs.length) (hz : gi zs k = (i : Int)) (hi : i < L.length) (hb : Below w.heap.size w w1) (h : WS W K R gp cp L gn g8 k i X w) : WS W K R gp cp L gn g8 k i X w1 := ws_mk hm hk hz hi (h.2.out.below hb)
theorem ws_alloc (hm : (Value.slice (some ⟨g8, 0, none⟩) zs.length c8, zs) ∈ R) (hk : k < zs.length) (hz : gi zs k = (i : Int)) (hi : i < L.length) (o : Obj) (h : WS W K R gp cp L gn g8 k i X w) : WS W K R gp cp L gn g8 k i X (w.alloc o) := ws_below hm hk hz hi (below_alloc (Below.refl _ _) _) h
theorem ws_allocd (hm : (Value.slice (some ⟨g8, 0, none⟩) zs.length c8, zs) ∈ R) (hk : k < zs.length) (hz : gi zs k = (i : Int)) (hi : i < L.length) (o : Obj) (h : WS W K R gp cp L gn g8 k i X w.drew) : WS W K R gp cp L gn g8 k i X (w.alloc o).drew := ws_alloc hm hk hz hi o h
theorem ws_L (h : WS W K R gp cp L gn g8 k i X w) : Lay W ((gn, X) :: K) R gp cp L w := h.2.out
end
theorem oneCl (X : Cl) : (#[Value.int .i16 X.a, .int .i16 X.b, .int .i8 X.c, .int .i8 X.d, .int .i8 X.e].all (·.oneCell')) = true := one5
theorem eqX (X : Cl) (w : World) : (Op.equalIn 10000 27 (.agg #[.int .i16 X.a, .int .i16 X.b, .int .i8 X.c, .int .i8 X.d, .int .i8 X.e]) (.agg #[.int .i16 X.a, .int .i16 X.b, .int .i8 X.c, .int .i8 X.d, .int .i8 X.e])).run Try.prog w = .ok true w := eqCl _ _ _ _ _ _
end Go.Proofs.Ytdmcemhckalhkaa
