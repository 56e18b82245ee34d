/- The search through all plans: the reference's recursion. -/
import Derived.Test.YtfdljhepfoppaaaPlanCost
import Derived.StillTailTactics
import Derived.Test.YtfdljhepfoppaaaAppKeep
import Derived.Deep.RegionHeld3
import Derived.Deep.DeepCutAuto
import Derived.Deep.CutBlock
namespace Go.Proofs.Ytfdljhepfoppaaa
open Go.RowKit
set_option linter.unusedVariables false
set_option linter.unusedSimpArgs false
set_option maxRecDepth 100000

theorem own_ne_blkP {w : World} {b e e' s n g : Nat} {v : Value} {xs : List Value} {cs : Array Value} (h : w.ownsRow b e s v n xs) (hb : w.heap[g]? = some (.cells cs e' (0, 0))) (he : e ≠ e') : v.ownBlock = none ∨ v.ownBlock ≠ some g := by
  rcases h.2 with ⟨rfl, _⟩ | ⟨g1, c, cur, rfl, _, hg, _⟩
  · exact .inl rfl
  · refine .inr ?_
    simp only [Value.ownBlock, ne_eq, Option.some.injEq]
    rintro rfl
    rw [hb] at hg
    simp only [Option.some.injEq, Obj.cells.injEq] at hg
    exact he hg.2.1.symm
/-- The search's parameters. -/
structure SPar where
  gW : Nat
  A : Option Addr
  B : Option Addr
  nl : Nat
  no : Nat
  c : Nat
  c1 : Nat
  what : Nat
  keep : Int
  w0 : World
def SPar.f (D : SPar) : Visit → Int := costF D.what D.keep D.nl
def SPar.all (D : SPar) : Bool := !(D.what == 0)
structure SS (D : SPar) (o : Option Visit) (w : World) : Prop where
  hW : ∃ vb, w.heap[D.gW]? = some (.cells (sCells D.A D.B D.nl D.no D.c D.c1 D.what D.keep vb D.f o) 85 (0, 0)) ∧ w.ownsRow D.w0.heap.size 2 1 vb (bestL o).length (nums .i64 (bestL o))
  b : Below D.w0.heap.size D.w0 w
section
variable {D : SPar} {o : Option Visit} {w w1 : World}
theorem SS.below (h : SS D o w) (hb : Below w.heap.size w w1) : SS D o w1 := by
  obtain ⟨vb, h1, h2⟩ := h.hW
  exact ⟨⟨vb, blk_below h1 hb, own_below h2 hb⟩, below_then h.b hb⟩
theorem SS.drewN (h : SS D o w) (n : Nat) : SS D o (w.drewN n) := by
  obtain ⟨vb, h1, h2⟩ := h.hW
  exact ⟨⟨vb, h1, h2⟩, below_drewN h.b n⟩
end
/-- All blocks but one are as they were. -/
theorem gby_below {g : Nat} {w w1 : World} (hb : Below w.heap.size w w1) : w.grownBy w1 (some g) := ⟨hb.os, hb.tape, hb.output, hb.size, fun k hk _ => hb.block k hk⟩
theorem gby_refl (w : World) (r : Option Nat) : w.grownBy w r := ⟨rfl, rfl, rfl, Nat.le_refl _, fun _ _ _ => rfl⟩
theorem gby_set {g : Nat} {w w1 : World} (h : w.grownBy w1 (some g)) (i : Nat) (u : Value) : w.grownBy (w1.setCell ⟨g, i, none⟩ u) (some g) :=
  ⟨h.os, h.tape, h.output, by simpa using h.size, fun k hk hne => (Below.heap_setCell w1 ⟨g, i, none⟩ u k (fun e => hne (by rw [e]))).trans (h.block k hk hne)⟩
theorem gby_drewN {w w1 : World} {r : Option Nat} (h : w.grownBy w1 r) (n : Nat) : w.grownBy (w1.drewN n) r := ⟨h.os, h.tape, h.output, h.size, h.block⟩
theorem gby_blk {w w1 : World} {g k : Nat} {ob : Obj} (h : w.grownBy w1 (some g)) (hk : w.heap[k]? = some ob) (hne : k ≠ g) : w1.heap[k]? = some ob := (h.block k (blk_lt hk) (fun e => hne (by injection e))).trans hk

theorem blk_grownT {w w1 : World} {k e e' size n base : Nat} {v : Value} {xs : List Value} {cs : Array Value} (hb : w.heap[k]? = some (.cells cs e (0, 0))) (hG : w.grownBy w1 v.ownBlock) (hv : w.ownsRow base e' size v n xs) (hne : e' ≠ e) : w1.heap[k]? = some (.cells cs e (0, 0)) := by
  refine (hG.block k (blk_lt hb) ?_).trans hb
  intro he
  rcases own_ne_blkP hv hb hne with h | h
  · rw [h] at he; cases he
  · exact h he.symm
theorem gby_fresh {w w0' w1 : World} {g : Nat} {v : Value} (h : w0'.grownBy w (some g)) (hG : w.grownBy w1 v.ownBlock) (hv : ∀ k, v.ownBlock = some k → w0'.heap.size ≤ k) : w0'.grownBy w1 (some g) :=
  ⟨hG.os.trans h.os, hG.tape.trans h.tape, hG.output.trans h.output, Nat.le_trans h.size hG.size, fun k hk hne => (hG.block k (Nat.lt_of_lt_of_le hk h.size) (fun e => by have := hv k e.symm; omega)).trans (h.block k hk hne)⟩
theorem own_src {w : World} {base e gp n c : Nat} {xs : List Value} (h : w.ownsRow base e 1 (.slice (some ⟨gp, 0, none⟩) n c) n xs) : ∀ j u, xs[j]? = some u → w.cell? ((⟨gp, 0, none⟩ : Addr).add j) = some u := fun j u hj => by
  rw [show (⟨gp, 0, none⟩ : Addr).add j = ⟨gp, j, none⟩ by unfold Addr.add; split <;> simp_all]; exact (own_get h hj).1
/-- The search's struct with a new best plan. -/
theorem SS.store {D : SPar} {o : Option Visit} {w : World} {vb v : Value} {P Lf : List Int} (hW : w.heap[D.gW]? = some (.cells (sCells D.A D.B D.nl D.no D.c D.c1 D.what D.keep vb D.f o) 85 (0, 0))) (hv : w.ownsRow D.w0.heap.size 2 1 v P.length (nums .i64 P)) (hb : Below D.w0.heap.size D.w0 w) (hg : D.w0.heap.size ≤ D.gW) :
    SS D (some (P, Lf)) (((w.setCell ⟨D.gW, 4, none⟩ v).setCell ⟨D.gW, 5, none⟩ (.int .i64 (D.f (P, Lf)))).setCell ⟨D.gW, 6, none⟩ (.bool true)) := by
  have n1 := own_ne_blkP hv hW (by decide)
  refine ⟨⟨v, ?_, own_cell (own_cell (own_cell hv n1) n1) n1⟩, ((hb.setCell hg _).setCell hg _).setCell hg _⟩
  exact blk_set (blk_set (blk_set hW 4 v) 5 _) 6 _

theorem six {L : List Int} (h : L.length = 6) : (nums .i64 L).toArray = #[.int .i64 (gi L 0), .int .i64 (gi L 1), .int .i64 (gi L 2), .int .i64 (gi L 3), .int .i64 (gi L 4), .int .i64 (gi L 5)] := by
  match L, h with
  | [a, b, c, d, e, f], _ => rfl
theorem lit_src {w : World} {G : Nat} {u : Value} {t : TypeId} (h : w.heap[G]? = some (.cells #[u] t (0, 0))) : ∀ j y, [u][j]? = some y → w.cell? ((⟨G, 0, none⟩ : Addr).add j) = some y := World.news_of_block (cs := #[u]) h
theorem ne_of_types {w : World} {a b : Nat} {c1 c2 : Array Value} {t1 t2 : TypeId} (h1 : w.heap[a]? = some (.cells c1 t1 (0, 0))) (h2 : w.heap[b]? = some (.cells c2 t2 (0, 0))) (h : t1 ≠ t2) : a ≠ b := fun e => by
  rw [e, h2] at h1
  simp only [Option.some.injEq, Obj.cells.injEq] at h1
  exact h h1.2.1.symm
theorem SS.set6 {D : SPar} {o : Option Visit} {w : World} {b i : Nat} {u : Value} {cs : Array Value} (h : SS D o w) (hb : w.heap[b]? = some (.cells cs 86 (0, 0))) (hlo : D.w0.heap.size ≤ b) : SS D o (w.setCell ⟨b, i, none⟩ u) := by
  obtain ⟨vb, h1, h2⟩ := h.hW
  exact ⟨⟨vb, blk_far h1 (ne_of_types h1 hb (by decide)) _ _, own_cell h2 (own_ne_blkP h2 hb (by decide))⟩, h.b.setCell hlo _⟩
theorem gby_setF {w w1 : World} {g b i : Nat} {u : Value} (h : w.grownBy w1 (some g)) (hb : w.heap.size ≤ b) : w.grownBy (w1.setCell ⟨b, i, none⟩ u) (some g) :=
  ⟨h.os, h.tape, h.output, by simpa using h.size, fun k hk hne => (Below.heap_setCell w1 ⟨b, i, none⟩ u k (by simp; omega)).trans (h.block k hk hne)⟩
theorem grown_below64 {w w1 : World} {B : Nat} {row : Option Nat} {w0 : World} (hb : Below B w0 w) (hg : w.grownBy w1 row) (hrow : ∀ k, row = some k → B ≤ k) (hB : B ≤ w.heap.size) : Below B w0 w1 := hb.grown hg hB hrow
section
variable (wf : World) (K : Value) (t : TypeId)
theorem o1_own : ((wf.alloc (.cells #[] t (0, 0))).drew).ownsRow wf.heap.size t 1 (.slice (some ⟨wf.heap.size, 0, none⟩) 0 0) 0 [] := own_drew (own_empty (heap_alloc_new wf (.cells #[] t (0, 0))) (Nat.le_refl _))
theorem o2_own : (((wf.alloc (.cells #[] t (0, 0))).alloc (.cells #[K] t (0, 0))).drew).ownsRow wf.heap.size t 1 (.slice (some ⟨wf.heap.size, 0, none⟩) 0 0) 0 [] := own_drew (own_empty (blk_alloc (heap_alloc_new wf (.cells #[] t (0, 0))) _) (Nat.le_refl _))
theorem o3_own : (((wf.alloc (.cells #[K] t (0, 0))).alloc (.cells #[] t (0, 0))).drew).ownsRow wf.heap.size t 1 (.slice (some ⟨wf.heap.size + 1, 0, none⟩) 0 0) 0 [] := by
  have := heap_alloc_new (wf.alloc (.cells #[K] t (0, 0))) (.cells #[] t (0, 0))
  rw [World.size_alloc] at this
  exact own_drew (own_empty this (by omega))
variable {wf K t} {w3 : World}
theorem o2_K (hG : (((wf.alloc (.cells #[] t (0, 0))).alloc (.cells #[K] t (0, 0))).drew).grownBy w3 (Value.slice (some ⟨wf.heap.size, 0, none⟩) 0 0).ownBlock) : w3.heap[wf.heap.size + 1]? = some (.cells #[K] t (0, 0)) := by
  have h := heap_alloc_new (wf.alloc (.cells #[] t (0, 0))) (.cells #[K] t (0, 0))
  rw [World.size_alloc] at h
  refine (hG.block (wf.heap.size + 1) ?_ ?_).trans h
  · show wf.heap.size + 1 < ((wf.alloc (.cells #[] t (0, 0))).alloc (.cells #[K] t (0, 0))).heap.size
    simp only [World.size_alloc]; omega
  · simp [Value.ownBlock]
theorem o3_K (hG : (((wf.alloc (.cells #[K] t (0, 0))).alloc (.cells #[] t (0, 0))).drew).grownBy w3 (Value.slice (some ⟨wf.heap.size + 1, 0, none⟩) 0 0).ownBlock) : w3.heap[wf.heap.size]? = some (.cells #[K] t (0, 0)) := by
  have h := blk_alloc (heap_alloc_new wf (.cells #[K] t (0, 0))) (.cells #[] t (0, 0))
  refine (hG.block wf.heap.size ?_ ?_).trans h
  · show wf.heap.size < ((wf.alloc (.cells #[K] t (0, 0))).alloc (.cells #[] t (0, 0))).heap.size
    simp only [World.size_alloc]; omega
  · simp [Value.ownBlock]
theorem o_B {o1 : Obj} (hG : ((wf.alloc o1).drew).grownBy w3 (Value.slice (some ⟨wf.heap.size, 0, none⟩) 0 0).ownBlock) : Below wf.heap.size wf w3 := grown_below64 (below_drew (below_alloc (Below.refl _ _) _)) hG (fun k hk => by simp [Value.ownBlock] at hk; omega) (by show wf.heap.size ≤ (wf.alloc o1).heap.size; simp)
theorem o_B2 {o1 o2 : Obj} (hG : (((wf.alloc o1).alloc o2).drew).grownBy w3 (Value.slice (some ⟨wf.heap.size, 0, none⟩) 0 0).ownBlock) : Below wf.heap.size wf w3 := grown_below64 (below_drew (below_alloc (below_alloc (Below.refl _ _) _) _)) hG (fun k hk => by simp [Value.ownBlock] at hk; omega) (by show wf.heap.size ≤ ((wf.alloc o1).alloc o2).heap.size; simp only [World.size_alloc]; omega)
theorem o_B3 {o1 o2 : Obj} (hG : (((wf.alloc o1).alloc o2).drew).grownBy w3 (Value.slice (some ⟨wf.heap.size + 1, 0, none⟩) 0 0).ownBlock) : Below wf.heap.size wf w3 := grown_below64 (below_drew (below_alloc (below_alloc (Below.refl _ _) _) _)) hG (fun k hk => by simp [Value.ownBlock] at hk; omega) (by show wf.heap.size ≤ ((wf.alloc o1).alloc o2).heap.size; simp only [World.size_alloc]; omega)
end
/-- What the region of a call holds on to. -/
abbrev SX (bx : Nat) (L : List Int) (w' : World) : Prop :=
  (w'.cell? ⟨bx, 0, none⟩ = some (.int .i64 (gi L 0)) ∧ w'.cell? ⟨bx, 1, none⟩ = some (.int .i64 (gi L 1)) ∧ w'.cell? ⟨bx, 2, none⟩ = some (.int .i64 (gi L 2)) ∧ w'.cell? ⟨bx, 3, none⟩ = some (.int .i64 (gi L 3)) ∧ w'.cell? ⟨bx, 4, none⟩ = some (.int .i64 (gi L 4)) ∧ w'.cell? ⟨bx, 5, none⟩ = some (.int .i64 (gi L 5))) ∧ Hid (w'.heap[bx]? = some (.cells (nums .i64 L).toArray 86 (0, 0)))
section
variable {bx : Nat} {L : List Int} {w' w1 : World}
theorem sx_mk (hl : L.length = 6) (h : w'.heap[bx]? = some (.cells (nums .i64 L).toArray 86 (0, 0))) : SX bx L w' :=
  ⟨⟨nums_cell h 0 (by omega), nums_cell h 1 (by omega), nums_cell h 2 (by omega), nums_cell h 3 (by omega), nums_cell h 4 (by omega), nums_cell h 5 (by omega)⟩, h⟩
theorem sx_alloc (hl : L.length = 6) (o : Obj) (h : SX bx L w') : SX bx L (w'.alloc o) := sx_mk hl (blk_alloc h.2.out o)
theorem sx_allocd (hl : L.length = 6) (o : Obj) (h : SX bx L w'.drew) : SX bx L (w'.alloc o).drew := sx_mk hl (blk_alloc (w := w'.drew) h.2.out o)
theorem sx_list (hl : L.length = 6) {v : Value} {b n : Nat} {ys : List Value} (hG : w'.grownBy w1 v.ownBlock) (hN : w'.ownsRow b 2 1 v n ys) (h : SX bx L w') : SX bx L w1 := sx_mk hl (blk_grownT h.2.out hG hN (by decide))
theorem sx_call (hl : L.length = 6) {g : Nat} (hne : bx ≠ g) (hG : w'.grownBy w1 (some g)) (h : SX bx L w') : SX bx L w1 := sx_mk hl (gby_blk hG h.2.out hne)
end

set_option maxHeartbeats 16000000 in
theorem c_from (D : SPar) {s g so go : Nat → Int} (hwh : D.what = 0 ∨ D.what = 1 ∨ D.what = 2) (nl6 : D.nl ≤ 6) (no7 : D.no ≤ 7) (bo : ∀ j, j < D.no → 1 ≤ go j ∧ go j ≤ 5000) (hgW : D.w0.heap.size ≤ D.gW) (hL : LotsAt D.w0 D.A D.nl s g) (hO : LotsAt D.w0 D.B D.no so go) :
    ∀ (rem i : Nat) (plan Lf : List Int) (o : Option Visit) (gp cp : Nat) (w : World), i + rem = D.no → SS D o w → w.ownsRow D.w0.heap.size 2 1 (.slice (some ⟨gp, 0, none⟩) i cp) i (nums .i64 plan) → GoodV D.nl D.all plan Lf →
    Calls Try.prog 60 #[.pointer (some ⟨D.gW, 0, none⟩), .slice (some ⟨gp, 0, none⟩) i cp, .agg (nums .i64 (pad Lf)).toArray, .int .i64 (negs plan)] w fun e w' => e = .returned (.tuple #[]) ∧ SS D (bestV D.f o (visits D.nl s so go D.all rem i plan Lf)) w' ∧ w.grownBy w' (some D.gW) := by
  intro rem
  induction rem with
  | zero =>
    intro i plan Lf o gp cp w hi h hp hv
    obtain rfl : i = D.no := by omega
    have hlp : plan.length = D.no := by have := hp.1; simpa [nums] using this
    have hlL : Lf.length ≤ 6 := by rw [hv.l.len]; exact nl6
    have hn0 := negs_nonneg plan
    have hn1 := negs_le plan
    have HS := Lib.hid (h.below (below_alloc (Below.refl _ _) (.cells (nums .i64 (pad Lf)).toArray 86 (0, 0))))
    have HP := Lib.hid (hp.alloc (.cells (nums .i64 (pad Lf)).toArray 86 (0, 0)))
    have HBX := Lib.hid (heap_alloc_new w (.cells (nums .i64 (pad Lf)).toArray 86 (0, 0)))
    have HG1 := Lib.hid (gby_below (g := D.gW) (below_alloc (Below.refl w.heap.size w) (.cells (nums .i64 (pad Lf)).toArray 86 (0, 0))))
    have HIA := Lib.hid (pad_info hlL)
    have HV := Lib.hid hv
    have HGW := Lib.hid hgW
    have HWH := Lib.hid hwh
    have HLEN : Hid ((nums .i64 plan).length = D.no * 1) := by rw [Hid]; simp [nums, hlp]
    have HONE : Hid (∀ u ∈ nums .i64 plan, u.oneCell' = true) := fun u hu => List.all_eq_true.1 (nums_oneL .i64 plan) u hu
    have m1 : Hid (0 + D.no ≤ maxLen) := by rw [Hid]; simp only [maxLen]; omega
    have m2 : Hid ((0 + D.no) * 8 ≤ 140737488355328) := by rw [Hid]; omega
    have hsrc := fun (wq : World) (hq : wq.ownsRow D.w0.heap.size 2 1 (.slice (some ⟨gp, 0, none⟩) D.no cp) D.no (nums .i64 plan)) => own_src hq
    have HSRC := Lib.hid hsrc
    have HLP := Lib.hid hlp
    have HW0 := Lib.hid (Nat.le_refl w.heap.size)
    clear h hp hv hL hO bo hsrc hgW hlp
    obtain ⟨vb, hW, hbest⟩ := HS.out.hW
    have HWb := Lib.hid hW
    have HBE := Lib.hid hbest
    have hEP : o.isSome = true ∧ D.what = 0 ∧ leastL D.f o ≤ negs plan → bestV D.f o (visits D.nl s so go D.all 0 D.no plan Lf) = o := fun ⟨p1, p2, p3⟩ => by
      obtain ⟨b, rfl⟩ := Option.isSome_iff_exists.1 p1
      exact bestV_prune (fun v => by rw [SPar.f, p2, costF_zero]) p3
    have HEP := Lib.hid hEP
    have a0 : (w.alloc (.cells (nums .i64 (pad Lf)).toArray 86 (0, 0))).cell? ⟨D.gW, 0, none⟩ = some (.slice D.A D.nl D.c) := cell_of_row _ D.gW 0 _ _ _ hW
    have a1 : (w.alloc (.cells (nums .i64 (pad Lf)).toArray 86 (0, 0))).cell? ⟨D.gW, 1, none⟩ = some (.slice D.B D.no D.c1) := cell_of_row _ D.gW 1 _ _ _ hW
    have a2 : (w.alloc (.cells (nums .i64 (pad Lf)).toArray 86 (0, 0))).cell? ⟨D.gW, 2, none⟩ = some (.int .i64 (D.what : Int)) := cell_of_row _ D.gW 2 _ _ _ hW
    have a5 : (w.alloc (.cells (nums .i64 (pad Lf)).toArray 86 (0, 0))).cell? ⟨D.gW, 5, none⟩ = some (.int .i64 (leastL D.f o)) := cell_of_row _ D.gW 5 _ _ _ hW
    have a6 : (w.alloc (.cells (nums .i64 (pad Lf)).toArray 86 (0, 0))).cell? ⟨D.gW, 6, none⟩ = some (.bool o.isSome) := cell_of_row _ D.gW 6 _ _ _ hW
    clear hW hbest hEP
    go_enter Try.func60, Try.ntmps60
    go_upto_region 1 with fail
    generalize hb6 : w.heap.size = b6 at *
    have HB6 := Lib.hid hb6
    clear hb6
    generalize w.alloc (.cells (nums .i64 (pad Lf)).toArray 86 (0, 0)) = wb at *
    by_cases hpr : o.isSome = true ∧ D.what = 0 ∧ leastL D.f o ≤ negs plan
    · have HEQ := Lib.hid (HEP.out hpr)
      obtain ⟨p1, p2, p3⟩ := hpr
      have dw : ((D.what : Int) == 0) = true := by rw [p2]; rfl
      have dl : decide (leastL D.f o ≤ negs plan) = true := by simpa using p3
      rw [p1] at a6
      clear p2 p3
      go_wp2
      exact bodyPost_ret (v := .tuple #[]) (by simp [results, Try.results60, go_sem]) rfl ⟨rfl, by rw [HEQ.out]; exact HS.out, HG1.out⟩
    · go_cut [30] (fun p wx => p = .bool false ∧ wx = wb)
      case first =>
        cases h1 : o.isSome
        · rw [h1] at a6
          clear h1 hpr
          go_wp2
          go_meet
          exact ⟨rfl, rfl⟩
        · rw [h1] at a6 hpr
          by_cases p2 : D.what = 0
          · have dw : ((D.what : Int) == 0) = true := by rw [p2]; rfl
            have dl : decide (leastL D.f o ≤ negs plan) = false := decide_eq_false (fun h => hpr ⟨rfl, p2, h⟩)
            clear p2 hpr h1
            go_wp2
            go_meet
            exact ⟨rfl, rfl⟩
          · have dw : ((D.what : Int) == 0) = false := beq_eq_false_iff_ne.2 (by omega)
            clear p2 hpr h1
            go_wp2
            go_meet
            exact ⟨rfl, rfl⟩
      case rest =>
        obtain ⟨rfl, rfl⟩ := hcut
        clear hpr
        have CK := Lib.hid (c_cost D.gW D.nl D.no D.c D.c1 D.what D.keep D.A D.B vb D.f o plan Lf (.slice (some ⟨gp, 0, none⟩) D.no cp) D.w0.heap.size _ HWb.out HWH.out HP.out no7 nl6 HV.out.l)
        have HCF : Hid (costF D.what D.keep D.nl (plan, Lf) = D.f (plan, Lf)) := rfl
        rw [HCF.out] at CK
        have hvis : visits D.nl s so go D.all 0 D.no plan Lf = [(plan, Lf)] := rfl
        have HVIS := Lib.hid hvis
        clear a0 a2 a5 a6 hvis
        cases h1 : o.isSome
        · have HIS := Lib.hid h1
          have HLO : Hid (lessO D.f o (plan, Lf) = some (plan, Lf)) := by cases o with
            | none => rfl
            | some b => cases h1
          clear h1
          go_wp2_with (first
            | (refine wpList_load_row rfl 86 (.tmp 6) rfl b6 rfl 86 (nums .i64 (pad Lf)).toArray (0, 0) _ ?_ Try.underlying86 rfl HIA.out ?_; (with_reducible exact HBX.out))
            | (go_at_call 70; ((with_reducible refine CK.out.mono ?_); rintro e w2 ⟨rfl, hb2⟩; have hWb2 := Lib.hid (blk_below HWb.out hb2); have HP2 := Lib.hid (own_below HP.out hb2); have HBE2 := Lib.hid (own_below HBE.out hb2); have hB2 := Lib.hid (below_then HS.out.b hb2); have hG2 := Lib.hid (gby_below (g := D.gW) hb2); have hSS2 := Lib.hid (HS.out.below hb2); clear hb2 CK; have b5 : w2.cell? ⟨D.gW, 5, none⟩ = some (.int .i64 (leastL D.f o)) := cell_of_row _ D.gW 5 _ _ _ hWb2.out; have b6' : w2.cell? ⟨D.gW, 6, none⟩ = some (.bool false) := by rw [← HIS.out]; exact cell_of_row _ D.gW 6 _ _ _ hWb2.out))
            | (at_builtin; refine ev_append_own64 rfl (.tmp 57) (.tmp 58) 29 rfl 2 (.int .i64 0) 1 8 Try.underlying29 (by kernel_rfl) rfl (by decide) (w2.heap.size) (.slice (some ⟨w2.heap.size, 0, none⟩) 0 0) 0 [] rfl (own_empty (size := 1) (heap_alloc_new w2 (.cells #[] 2 (0, 0))) (Nat.le_refl _)) ⟨gp, 0, none⟩ D.no cp (nums .i64 plan) rfl HLEN.out (HSRC.out _ (HP2.out.alloc _)) HONE.out m1.out m2.out (by simp) ?_; intro v3 w3 hO3 hG3; obtain ⟨A3, c3, rfl, _⟩ := own_form hO3; have HO3 := Lib.hid hO3; have HG3 := Lib.hid hG3; have HW3 := Lib.hid (blk_grownT (blk_alloc hWb2.out (.cells #[] 2 (0, 0))) hG3 (own_empty (base := w2.heap.size) (size := 1) (heap_alloc_new w2 (.cells #[] 2 (0, 0))) (Nat.le_refl _)) (by decide)); clear hO3 hG3 b5 b6'; have z4 := cell_of_row w3 D.gW 4 _ _ _ HW3.out; have y4 := blk_frozen HW3.out 4; have z5 := cell_of_row w3 D.gW 5 _ _ _ HW3.out; have y5 := blk_frozen HW3.out 5; have z6 := cell_of_row w3 D.gW 6 _ _ _ HW3.out; have y6 := blk_frozen HW3.out 6))
          have hB3 := below_grown (below_alloc hB2.out (.cells #[] 2 (0, 0))) HG3.out (own_empty (base := w2.heap.size) (size := 1) (heap_alloc_new w2 (.cells #[] 2 (0, 0))) (Nat.le_refl _)) hB2.out.size (by have := hB2.out.size; simp; omega)
          have hO4 : w3.ownsRow D.w0.heap.size 2 1 (.slice A3 D.no c3) plan.length (nums .i64 plan) := by
            have := own_mono HO3.out hB2.out.size
            rw [Nat.zero_add] at this
            rw [HLP.out]
            simpa using this
          have hS5 := SS.store (Lf := Lf) HW3.out hO4 hB3 HGW.out
          have hG5 := gby_set (gby_set (gby_set (gby_fresh ((gby_below (below_alloc (Below.refl w2.heap.size w2) (.cells #[] 2 (0, 0)))) : w2.grownBy _ (some D.gW)) HG3.out (fun k hk => by simp [Value.ownBlock] at hk; omega)) 4 (.slice A3 D.no c3)) 5 (.int .i64 (D.f (plan, Lf)))) 6 (.bool true)
          exact bodyPost_ret (v := .tuple #[]) (by simp [results, Try.results60, go_sem]) rfl ⟨rfl, by rw [HVIS.out, bestV_one, HLO.out]; exact hS5, World.grownBy.trans HG1.out (World.grownBy.trans hG2.out hG5)⟩
        · have HIS := Lib.hid h1
          by_cases hlt : D.f (plan, Lf) < leastL D.f o
          · have dl : decide (D.f (plan, Lf) < leastL D.f o) = true := by simpa using hlt
            have HLO : Hid (lessO D.f o (plan, Lf) = some (plan, Lf)) := by cases o with
              | none => rfl
              | some b => exact if_pos hlt
            clear h1 hlt
            go_wp2_with (first
              | (refine wpList_load_row rfl 86 (.tmp 6) rfl b6 rfl 86 (nums .i64 (pad Lf)).toArray (0, 0) _ ?_ Try.underlying86 rfl HIA.out ?_; (with_reducible exact HBX.out))
              | (go_at_call 70; ((with_reducible refine CK.out.mono ?_); rintro e w2 ⟨rfl, hb2⟩; have hWb2 := Lib.hid (blk_below HWb.out hb2); have HP2 := Lib.hid (own_below HP.out hb2); have HBE2 := Lib.hid (own_below HBE.out hb2); have hB2 := Lib.hid (below_then HS.out.b hb2); have hG2 := Lib.hid (gby_below (g := D.gW) hb2); have hSS2 := Lib.hid (HS.out.below hb2); clear hb2 CK; have b5 : w2.cell? ⟨D.gW, 5, none⟩ = some (.int .i64 (leastL D.f o)) := cell_of_row _ D.gW 5 _ _ _ hWb2.out; have b6' : w2.cell? ⟨D.gW, 6, none⟩ = some (.bool true) := by rw [← HIS.out]; exact cell_of_row _ D.gW 6 _ _ _ hWb2.out))
              | (at_builtin; refine ev_append_own64 rfl (.tmp 57) (.tmp 58) 29 rfl 2 (.int .i64 0) 1 8 Try.underlying29 (by kernel_rfl) rfl (by decide) (w2.heap.size) (.slice (some ⟨w2.heap.size, 0, none⟩) 0 0) 0 [] rfl (own_empty (size := 1) (heap_alloc_new w2 (.cells #[] 2 (0, 0))) (Nat.le_refl _)) ⟨gp, 0, none⟩ D.no cp (nums .i64 plan) rfl HLEN.out (HSRC.out _ (HP2.out.alloc _)) HONE.out m1.out m2.out (by simp) ?_; intro v3 w3 hO3 hG3; obtain ⟨A3, c3, rfl, _⟩ := own_form hO3; have HO3 := Lib.hid hO3; have HG3 := Lib.hid hG3; have HW3 := Lib.hid (blk_grownT (blk_alloc hWb2.out (.cells #[] 2 (0, 0))) hG3 (own_empty (base := w2.heap.size) (size := 1) (heap_alloc_new w2 (.cells #[] 2 (0, 0))) (Nat.le_refl _)) (by decide)); clear hO3 hG3 b5 b6'; have z4 := cell_of_row w3 D.gW 4 _ _ _ HW3.out; have y4 := blk_frozen HW3.out 4; have z5 := cell_of_row w3 D.gW 5 _ _ _ HW3.out; have y5 := blk_frozen HW3.out 5; have z6 := cell_of_row w3 D.gW 6 _ _ _ HW3.out; have y6 := blk_frozen HW3.out 6))
            have hB3 := below_grown (below_alloc hB2.out (.cells #[] 2 (0, 0))) HG3.out (own_empty (base := w2.heap.size) (size := 1) (heap_alloc_new w2 (.cells #[] 2 (0, 0))) (Nat.le_refl _)) hB2.out.size (by have := hB2.out.size; simp; omega)
            have hO4 : w3.ownsRow D.w0.heap.size 2 1 (.slice A3 D.no c3) plan.length (nums .i64 plan) := by
              have := own_mono HO3.out hB2.out.size
              rw [Nat.zero_add] at this
              rw [HLP.out]
              simpa using this
            have hS5 := SS.store (Lf := Lf) HW3.out hO4 hB3 HGW.out
            have hG5 := gby_set (gby_set (gby_set (gby_fresh ((gby_below (below_alloc (Below.refl w2.heap.size w2) (.cells #[] 2 (0, 0)))) : w2.grownBy _ (some D.gW)) HG3.out (fun k hk => by simp [Value.ownBlock] at hk; omega)) 4 (.slice A3 D.no c3)) 5 (.int .i64 (D.f (plan, Lf)))) 6 (.bool true)
            exact bodyPost_ret (v := .tuple #[]) (by simp [results, Try.results60, go_sem]) rfl ⟨rfl, by rw [HVIS.out, bestV_one, HLO.out]; exact hS5, World.grownBy.trans HG1.out (World.grownBy.trans hG2.out hG5)⟩
          · have dl : decide (D.f (plan, Lf) < leastL D.f o) = false := by simpa using hlt
            have HLO : Hid (lessO D.f o (plan, Lf) = o) := by cases o with
              | none => cases h1
              | some b => exact if_neg hlt
            clear h1 hlt
            go_wp2_with (first
              | (refine wpList_load_row rfl 86 (.tmp 6) rfl b6 rfl 86 (nums .i64 (pad Lf)).toArray (0, 0) _ ?_ Try.underlying86 rfl HIA.out ?_; (with_reducible exact HBX.out))
              | (go_at_call 70; ((with_reducible refine CK.out.mono ?_); rintro e w2 ⟨rfl, hb2⟩; have hWb2 := Lib.hid (blk_below HWb.out hb2); have HP2 := Lib.hid (own_below HP.out hb2); have HBE2 := Lib.hid (own_below HBE.out hb2); have hB2 := Lib.hid (below_then HS.out.b hb2); have hG2 := Lib.hid (gby_below (g := D.gW) hb2); have hSS2 := Lib.hid (HS.out.below hb2); clear hb2 CK; have b5 : w2.cell? ⟨D.gW, 5, none⟩ = some (.int .i64 (leastL D.f o)) := cell_of_row _ D.gW 5 _ _ _ hWb2.out; have b6' : w2.cell? ⟨D.gW, 6, none⟩ = some (.bool true) := by rw [← HIS.out]; exact cell_of_row _ D.gW 6 _ _ _ hWb2.out)))
            exact bodyPost_ret (v := .tuple #[]) (by simp [results, Try.results60, go_sem]) rfl ⟨rfl, by rw [HVIS.out, bestV_one, HLO.out]; exact hSS2.out, World.grownBy.trans HG1.out hG2.out⟩
  | succ rem ih =>
    intro i plan Lf o gp cp w hi h hp hv
    have hin : i < D.no := by omega
    have hlp : plan.length = i := by have := hp.1; simpa [nums] using this
    have hlL : Lf.length ≤ 6 := by rw [hv.l.len]; exact nl6
    have hLl : Lf.length = D.nl := hv.l.len
    have hn0 := negs_nonneg plan
    have hn1 := negs_le plan
    have HS := Lib.hid (h.below (below_alloc (Below.refl _ _) (.cells (nums .i64 (pad Lf)).toArray 86 (0, 0))))
    have HP := Lib.hid (hp.alloc (.cells (nums .i64 (pad Lf)).toArray 86 (0, 0)))
    have HBX := Lib.hid (heap_alloc_new w (.cells (nums .i64 (pad Lf)).toArray 86 (0, 0)))
    have HG1 := Lib.hid (gby_below (g := D.gW) (below_alloc (Below.refl w.heap.size w) (.cells (nums .i64 (pad Lf)).toArray 86 (0, 0))))
    have HIA := Lib.hid (pad_info hlL)
    have HV := Lib.hid hv
    have HGW := Lib.hid hgW
    have HWH := Lib.hid hwh
    have HL := Lib.hid hL
    have HO := Lib.hid hO
    have HBO := Lib.hid bo
    have HLEN : Hid ((nums .i64 plan).length = i * 1) := by rw [Hid]; simp [nums, hlp]
    have HONE : Hid (∀ u ∈ nums .i64 plan, u.oneCell' = true) := fun u hu => List.all_eq_true.1 (nums_oneL .i64 plan) u hu
    have m1 : Hid (0 + i ≤ maxLen) := by rw [Hid]; simp only [maxLen]; omega
    have m2 : Hid ((0 + i) * 8 ≤ 140737488355328) := by rw [Hid]; omega
    have hsrc := fun (wq : World) (hq : wq.ownsRow D.w0.heap.size 2 1 (.slice (some ⟨gp, 0, none⟩) i cp) i (nums .i64 plan)) => own_src hq
    have HSRC := Lib.hid hsrc
    have HLP := Lib.hid hlp
    have HLL := Lib.hid hLl
    have HPL6 := Lib.hid (pad_len hlL)
    have HIH := Lib.hid (fun plan Lf o gp cp w => ih (i + 1) plan Lf o gp cp w (by omega))
    obtain ⟨gp1, gp2⟩ := bo i hin
    clear h hp hv hL hO bo hsrc hgW hlp ih hLl hi
    obtain ⟨vb, hW, hbest⟩ := HS.out.hW
    have HWb := Lib.hid hW
    have HBE := Lib.hid hbest
    have hEP : o.isSome = true ∧ D.what = 0 ∧ leastL D.f o ≤ negs plan → bestV D.f o (visits D.nl s so go D.all (rem + 1) i plan Lf) = o := fun ⟨p1, p2, p3⟩ => by
      obtain ⟨b, rfl⟩ := Option.isSome_iff_exists.1 p1
      exact bestV_prune (fun v => by rw [SPar.f, p2, costF_zero]) p3
    have HEP := Lib.hid hEP
    have a0 : (w.alloc (.cells (nums .i64 (pad Lf)).toArray 86 (0, 0))).cell? ⟨D.gW, 0, none⟩ = some (.slice D.A D.nl D.c) := cell_of_row _ D.gW 0 _ _ _ hW
    have a1 : (w.alloc (.cells (nums .i64 (pad Lf)).toArray 86 (0, 0))).cell? ⟨D.gW, 1, none⟩ = some (.slice D.B D.no D.c1) := cell_of_row _ D.gW 1 _ _ _ hW
    have a2 : (w.alloc (.cells (nums .i64 (pad Lf)).toArray 86 (0, 0))).cell? ⟨D.gW, 2, none⟩ = some (.int .i64 (D.what : Int)) := cell_of_row _ D.gW 2 _ _ _ hW
    have a5 : (w.alloc (.cells (nums .i64 (pad Lf)).toArray 86 (0, 0))).cell? ⟨D.gW, 5, none⟩ = some (.int .i64 (leastL D.f o)) := cell_of_row _ D.gW 5 _ _ _ hW
    have a6 : (w.alloc (.cells (nums .i64 (pad Lf)).toArray 86 (0, 0))).cell? ⟨D.gW, 6, none⟩ = some (.bool o.isSome) := cell_of_row _ D.gW 6 _ _ _ hW
    clear hW hbest hEP
    go_enter Try.func60, Try.ntmps60
    go_upto_region 1 with fail
    generalize hb6 : w.heap.size = b6 at *
    have HB6 := Lib.hid hb6
    clear hb6
    generalize w.alloc (.cells (nums .i64 (pad Lf)).toArray 86 (0, 0)) = wb at *
    by_cases hpr : o.isSome = true ∧ D.what = 0 ∧ leastL D.f o ≤ negs plan
    · have HEQ := Lib.hid (HEP.out hpr)
      obtain ⟨p1, p2, p3⟩ := hpr
      have dw : ((D.what : Int) == 0) = true := by rw [p2]; rfl
      have dl : decide (leastL D.f o ≤ negs plan) = true := by simpa using p3
      rw [p1] at a6
      clear p2 p3
      go_wp2
      exact bodyPost_ret (v := .tuple #[]) (by simp [results, Try.results60, go_sem]) rfl ⟨rfl, by rw [HEQ.out]; exact HS.out, HG1.out⟩
    · go_cut [30] (fun p wx => p = .bool false ∧ wx = wb)
      case first =>
        cases h1 : o.isSome
        · rw [h1] at a6
          clear h1 hpr
          go_wp2
          go_meet
          exact ⟨rfl, rfl⟩
        · rw [h1] at a6 hpr
          by_cases p2 : D.what = 0
          · have dw : ((D.what : Int) == 0) = true := by rw [p2]; rfl
            have dl : decide (leastL D.f o ≤ negs plan) = false := decide_eq_false (fun h => hpr ⟨rfl, p2, h⟩)
            clear p2 hpr h1
            go_wp2
            go_meet
            exact ⟨rfl, rfl⟩
          · have dw : ((D.what : Int) == 0) = false := beq_eq_false_iff_ne.2 (by omega)
            clear p2 hpr h1
            go_wp2
            go_meet
            exact ⟨rfl, rfl⟩
      case rest =>
        obtain ⟨rfl, rfl⟩ := hcut
        clear hpr
        have dne : ((i : Int) == (D.no : Int)) = false := beq_eq_false_iff_ne.2 (by omega)
        obtain ⟨ao, hBo, o0, o1⟩ := (HO.out.below HS.out.b).at_ i hin
        rw [hBo] at a1
        have hne6 : b6 ≠ D.gW := fun e => by
          have h1 := HBX.out; have h2 := HWb.out
          rw [e, h2] at h1
          simp only [Option.some.injEq, Obj.cells.injEq] at h1
          exact absurd h1.2.1 (by decide)
        have i0 : (0 : Int) ≤ (i : Int) := by omega
        have i1 : (i : Int) < (D.no : Int) := by omega
        have hAL : ∀ (wq : World), ((wq.alloc (.cells #[.int .i8 (so i), .int .i16 (go i)] 45 (0, 0))).heap[wq.heap.size]? = some (.cells #[.int .i8 (so i), .int .i16 (go i)] 45 (0, 0))) := fun wq => heap_alloc_new wq _
        clear a0 a2 a5 a6 hBo HEP
        have HS9 := Lib.hid (HS.out.below (below_alloc (Below.refl _ _) (.cells #[.int .i8 (so i), .int .i16 (go i)] 45 (0, 0))))
        have HP9 := Lib.hid (HP.out.alloc (.cells #[.int .i8 (so i), .int .i16 (go i)] 45 (0, 0)))
        have HX9k := Lib.hid (blk_alloc HBX.out (.cells #[.int .i8 (so i), .int .i16 (go i)] 45 (0, 0)))
        have HW9 := Lib.hid (blk_alloc HWb.out (.cells #[.int .i8 (so i), .int .i16 (go i)] 45 (0, 0)))
        have HG9 := Lib.hid (World.grownBy.trans HG1.out (gby_below (g := D.gW) (below_alloc (Below.refl _ _) (.cells #[.int .i8 (so i), .int .i16 (go i)] 45 (0, 0)))))
        go_wp2
        -- LOOPSTART
        have hR9 := hAL wc
        generalize hb9 : wc.heap.size = b9 at *
        generalize wc.alloc (.cells #[.int .i8 (so i), .int .i16 (go i)] 45 (0, 0)) = w9 at *
        have HR9 := Lib.hid hR9
        have hne9 : b9 ≠ D.gW := ne_of_types hR9 HW9.out (by decide)
        clear hR9 hAL hb9 o0 o1 a1
        have m3 : Hid (i + 1 ≤ maxLen) := by rw [Hid]; simp only [maxLen]; omega
        have m4 : Hid ((i + 1) * 8 ≤ 140737488355328) := by rw [Hid]; omega
        have HWb9 := Lib.hid HW9.out
        clear HW9 HWb HBE
        have HX9 : Hid (w9.heap[b6]? = some (.cells (nums .i64 (pad Lf)).toArray 86 (0, 0))) := HX9k.out
        clear HX9k
        go_loopw [10] (fun iv wr => ∃ k : Nat, iv = .int .i64 k ∧ k ≤ D.nl ∧ Hid (SS D (bestV D.f o (visK D.nl s so go D.all rem i plan Lf k)) wr) ∧ Hid (wr.ownsRow D.w0.heap.size 2 1 (.slice (some ⟨gp, 0, none⟩) i cp) i (nums .i64 plan)) ∧ Hid (wr.heap[b6]? = some (.cells (nums .i64 (pad Lf)).toArray 86 (0, 0))) ∧ Hid (wr.heap[b9]? = some (.cells #[.int .i8 (so i), .int .i16 (go i)] 45 (0, 0))) ∧ Hid (w.grownBy wr (some D.gW))) (fun iv _ => D.nl - (intOf iv).toNat)
        case atStart => exact ⟨0, rfl, by omega, HS9, HP9, HX9, HR9, HG9⟩
        case round =>
          obtain ⟨k, rfl, hk, hS, hP, hX, hR, hG⟩ := hrel
          obtain ⟨vb2, hW2, _⟩ := hS.out.hW
          have a0 : wr.cell? ⟨D.gW, 0, none⟩ = some (.slice D.A D.nl D.c) := cell_of_row wr D.gW 0 _ _ _ hW2
          have a2 : wr.cell? ⟨D.gW, 2, none⟩ = some (.int .i64 (D.what : Int)) := cell_of_row wr D.gW 2 _ _ _ hW2
          clear hW2
          by_cases hlt : k < D.nl
          · have d1 : decide ((k : Int) < (D.nl : Int)) = true := by simp; omega
            have k0 : (0 : Int) ≤ (k : Int) := by omega
            have k1 : (k : Int) < (D.nl : Int) := by omega
            have k6 : (k : Int) < 6 := by omega
            obtain ⟨al, hAl, s0, s1⟩ := (HL.out.below hS.out.b).at_ k hlt
            rw [hAl] at a0
            have c90 : wr.cell? ⟨b9, 0, none⟩ = some (.int .i8 (so i)) := cell_of_row wr b9 0 _ _ _ hR.out
            have c91 : wr.cell? ⟨b9, 1, none⟩ = some (.int .i16 (go i)) := cell_of_row wr b9 1 _ _ _ hR.out
            have xk : wr.cell? ⟨b6, k, none⟩ = some (.int .i64 (gi Lf k)) := by
              have := nums_cell hX.out k (by rw [pad_len (by rw [HLL.out]; exact nl6)]; omega)
              rw [pad_gi] at this; exact this
            obtain ⟨v0, v1⟩ := HV.out.l.bd k
            clear s1 hAl a2
            go_wp2
            by_cases hs : s k = so i
            · have ds : (s k == so i) = true := by simpa using hs
              by_cases hge : go i ≤ gi Lf k
              · have dg : decide (go i ≤ gi Lf k) = true := by simpa using hge
                have hfit : fitB s so go Lf i k = true := by simp [fitB, hs, hge]
                have VN := Lib.hid (visK_yes (nl := D.nl) (all := D.all) (rem := rem) (plan := plan) hfit)
                have HGV : Hid (GoodV D.nl D.all (plan ++ [(k : Int)]) (less1 go Lf i k)) := HV.out.snoc ⟨by omega, by omega, fun _ => by omega⟩ (HV.out.l.set hlt (by omega) (by omega))
                have HLS : Hid (less1 go Lf i k = Lf.set k (gi Lf k - go i)) := rfl
                have HPS : Hid ((pad Lf).set k (gi Lf k - go i) = (pad (Lf.set k (gi Lf k - go i)))) := pad_set (by rw [HLL.out]; exact hlt) _
                have HL6 : Hid ((pad (Lf.set k (gi Lf k - go i))).length = 6) := pad_len (by rw [List.length_set, HLL.out]; exact nl6)
                have HNG : Hid (negs (plan ++ [(k : Int)]) = negs plan) := by rw [Hid, negs_snoc, if_neg (by omega), Int.add_zero]
                clear hs hge hfit
                go_quiet (fail)
                rename_i nq
                have hS1 := Lib.hid (hS.out.drewN nq)
                have hP1 : Hid ((wr.drewN nq).ownsRow D.w0.heap.size 2 1 (.slice (some ⟨gp, 0, none⟩) i cp) i (nums .i64 plan)) := hP.out
                have hX1 : Hid ((wr.drewN nq).heap[b6]? = some (.cells (nums .i64 (pad Lf)).toArray 86 (0, 0))) := hX.out
                have hR1 : Hid ((wr.drewN nq).heap[b9]? = some (.cells #[.int .i8 (so i), .int .i16 (go i)] 45 (0, 0))) := hR.out
                have hG1 := Lib.hid (gby_drewN hG.out nq)
                clear a0 s0 c90 c91 xk hS hP hX hR hG
                generalize wr.drewN nq = wd at *
                go_wp2_with (first
                  | (refine wpList_load_row rfl 86 (.tmp 6) rfl b6 rfl 86 (nums .i64 (pad Lf)).toArray (0, 0) _ ?_ Try.underlying86 rfl HIA.out ?_; (with_reducible exact hX1.out))
                  | (refine ev_store_row rfl 86 (.tmp 11) (.tmp 106) rfl (wd.heap.size) (nums .i64 (pad Lf)).toArray rfl rfl 86 _ (heap_alloc_new wd _) HIA.out (by simp [nums, HPL6.out]) (nums_one _ _) ?_; intro we hblk ht; have hb := (below_alloc (Below.refl _ _) _).trans (ht.below (Nat.le_refl _)); clear ht; have hT2 := Lib.hid hblk; have hS2 := Lib.hid (hS1.out.below hb); have hP2 := Lib.hid (own_below hP1.out hb); have hX2 := Lib.hid (blk_below hX1.out hb); have hR2 := Lib.hid (blk_below hR1.out hb); have hG2 := Lib.hid (World.grownBy.trans hG1.out (gby_below hb)); clear hblk hb))
                generalize hb11 : wd.heap.size = b11 at *
                have HLT := Lib.hid (show b6 < b11 by rw [← hb11]; exact blk_lt hX1.out)
                have hlt6 := HLT.out
                have hlt9 : b9 < b11 := by rw [← hb11]; exact blk_lt hR1.out
                have hlo11 : D.w0.heap.size ≤ b11 := by rw [← hb11]; exact hS1.out.b.size
                have hwo11 : w.heap.size ≤ b11 := by rw [← hb11]; exact hG1.out.size
                clear hb11
                have zk : we.cell? ⟨b11, k, none⟩ = some (.int .i64 (gi Lf k)) := by
                  have := nums_cell hT2.out k (by rw [HPL6.out]; omega)
                  rw [pad_gi] at this; exact this
                have fk := blk_frozen hT2.out k
                have c91 : we.cell? ⟨b9, 1, none⟩ = some (.int .i16 (go i)) := cell_of_row we b9 1 _ _ _ hR2.out
                go_still_tail 8, (by kernel_rfl)
                change wpList _ _ _ _ _ we.drew
                have hT3 : Hid (we.drew.heap[b11]? = some (.cells (nums .i64 (pad Lf)).toArray 86 (0, 0))) := hT2.out
                have hS3 : Hid (SS D (bestV D.f o (visK D.nl s so go D.all rem i plan Lf k)) we.drew) := hS2.out.drewN 1
                have hP3 : Hid (we.drew.ownsRow D.w0.heap.size 2 1 (.slice (some ⟨gp, 0, none⟩) i cp) i (nums .i64 plan)) := hP2.out
                have hX3' : Hid (we.drew.heap[b6]? = some (.cells (nums .i64 (pad Lf)).toArray 86 (0, 0))) := hX2.out
                have hR3 : Hid (we.drew.heap[b9]? = some (.cells #[.int .i8 (so i), .int .i16 (go i)] 45 (0, 0))) := hR2.out
                have hG3' : Hid (w.grownBy we.drew (some D.gW)) := gby_drewN hG2.out 1
                have zk' : we.drew.cell? ⟨b11, k, none⟩ = some (.int .i64 (gi Lf k)) := zk
                have fk' : we.drew.frozen? ⟨b11, k, none⟩ = false := fk
                clear zk fk c91 hT2 hS2 hP2 hX2 hR2 hG2
                generalize we.drew = wg at *
                go_wp2
                have hTf := blk_set hT3.out k (.int .i64 (gi Lf k - go i))
                rw [nums_set, HPS.out] at hTf
                have HTf := Lib.hid hTf
                have HSf := Lib.hid (hS3.out.set6 (i := k) (u := .int .i64 (gi Lf k - go i)) hT3.out hlo11)
                have HPf := Lib.hid (own_cell (i := k) (u := .int .i64 (gi Lf k - go i)) hP3.out (own_ne_blkP hP3.out hT3.out (by decide)))
                have HXf := Lib.hid (blk_far hX3'.out (show b6 ≠ b11 by omega) k (.int .i64 (gi Lf k - go i)))
                have HRf := Lib.hid (blk_far hR3.out (show b9 ≠ b11 by omega) k (.int .i64 (gi Lf k - go i)))
                have HGf := Lib.hid (gby_setF (i := k) (u := .int .i64 (gi Lf k - go i)) hG3'.out hwo11)
                have hneX : b11 ≠ D.gW := by
                  obtain ⟨vb4, hW4, _⟩ := HSf.out.hW
                  exact ne_of_types hTf hW4 (by decide)
                clear hTf hT3 hS3 hP3 hX3' hR3 hG3' zk' fk'
                generalize wg.setCell ⟨b11, k, none⟩ (.int .i64 (gi Lf k - go i)) = wf at *
                have HB0f := Lib.hid HSf.out.b.size
                have HIH2 := Lib.hid (fun (g4 c4 : Nat) (wq : World) (hS4 : SS D (bestV D.f o (visK D.nl s so go D.all rem i plan Lf k)) wq) (hO4 : wq.ownsRow D.w0.heap.size 2 1 (.slice (some ⟨g4, 0, none⟩) (i + 1) c4) (i + 1) (nums .i64 plan ++ [.int .i64 (k : Int)])) => (by
                  have := HIH.out (plan ++ [(k : Int)]) (Lf.set k (gi Lf k - go i)) _ g4 c4 wq hS4 (by simpa [nums] using hO4) (by have := HGV.out; rw [HLS.out] at this; exact this)
                  rw [six HL6.out, HNG.out] at this
                  exact Lib.hid this))
                have HBq : Hid (Below wf.heap.size wf wf) := Below.refl _ _
                go_region_held3 (fun w' => (w'.cell? ⟨b11, 0, none⟩ = some (.int .i64 (gi (pad (Lf.set k (gi Lf k - go i))) 0)) ∧ w'.cell? ⟨b11, 1, none⟩ = some (.int .i64 (gi (pad (Lf.set k (gi Lf k - go i))) 1)) ∧ w'.cell? ⟨b11, 2, none⟩ = some (.int .i64 (gi (pad (Lf.set k (gi Lf k - go i))) 2)) ∧ w'.cell? ⟨b11, 3, none⟩ = some (.int .i64 (gi (pad (Lf.set k (gi Lf k - go i))) 3)) ∧ w'.cell? ⟨b11, 4, none⟩ = some (.int .i64 (gi (pad (Lf.set k (gi Lf k - go i))) 4)) ∧ w'.cell? ⟨b11, 5, none⟩ = some (.int .i64 (gi (pad (Lf.set k (gi Lf k - go i))) 5))) ∧ Hid (w'.heap[b11]? = some (.cells (nums .i64 (pad (Lf.set k (gi Lf k - go i)))).toArray 86 (0, 0))))
                  (first
                    | exact sx_mk HL6.out (show wf.drew.heap[b11]? = _ from HTf.out)
                    | (with_reducible exact sx_alloc HL6.out _ (by assumption))
                    | (with_reducible exact sx_allocd HL6.out _ (by assumption))
                    | exact hX5
                    | exact hX4
                    | exact hX3)
                  (first
                    | ((refine step_append_own64 (by rfl) (.tmp 116) (.tmp 117) 29 (by rfl) 2 (.int .i64 0) 1 8 Try.underlying29 (by kernel_rfl) rfl (by decide) wf.heap.size _ 0 [] (by rfl) ?_ ⟨gp, 0, none⟩ i cp (nums .i64 plan) (by rfl) HLEN.out ?_ HONE.out m1.out m2.out ?_ ?_); (· first | exact o1_own _ _ | exact o2_own _ _ _ | exact o3_own _ _ _); (· refine own_src (own_below HPf.out ?_); (repeat (first | with_reducible exact Below.refl _ _ | with_reducible exact HBq.out | with_reducible refine below_alloc ?_ _ | with_reducible refine below_drew ?_ | with_reducible refine below_drewN ?_ _))); (· first | (simp; done) | (simp only [World.size_drew, World.size_alloc]; omega) | (simp; omega)); intro v3 w3 hO3 hG3; (first | (have hb3 := o_B hG3; have hX3 := sx_list HL6.out hG3 (o1_own _ _) (by assumption)) | (have HK := Lib.hid (o2_K hG3); have hb3 := o_B2 hG3; have hX3 := sx_list HL6.out hG3 (o2_own _ _ _) (by assumption)) | (have HK := Lib.hid (o3_K hG3); have hb3 := o_B3 hG3; have hX3 := sx_list HL6.out hG3 (o3_own _ _ _) (by assumption))); rw [Nat.zero_add, List.nil_append] at hO3; have HO3 := Lib.hid hO3; have HBq := Lib.hid hb3; clear hO3 hG3 hb3)
                    | ((refine step_append_keep (by rfl) (.tmp 118) (.tmp 120) 29 (by rfl) 2 (.int .i64 0) 1 8 Try.underlying29 (by kernel_rfl) rfl (by decide) wf.heap.size v3 i (nums .i64 plan) (by rfl) ?_ _ 1 1 [.int .i64 (k : Int)] (by rfl) rfl ?_ (by simp [Value.oneCell']) (by decide) m3.out m4.out ?_ ?_); (· first | exact HO3.out | exact HO3.out.alloc _); (· first | exact lit_src (heap_alloc_new _ (.cells #[.int .i64 (k : Int)] 2 (0, 0))) | exact lit_src HK.out); (· exact Nat.le_trans HBq.out.size (by simp)); intro g4 c4 w4 hO4 hG4 hat4 hold4; (first | have hX4 := sx_list HL6.out hG4 HO3.out (by assumption); have hb4 := below_grown HBq.out hG4 HO3.out (Nat.le_refl _) HBq.out.size | have hX4 := sx_list HL6.out hG4 (HO3.out.alloc _) (by assumption); have hb4 := below_grown (below_alloc HBq.out _) hG4 (HO3.out.alloc _) (Nat.le_refl _) (by have := HBq.out.size; simp; omega)); have HB4 := Lib.hid hb4; have HO4 := Lib.hid (own_mono hO4 HB0f.out); have HS4 := Lib.hid (HSf.out.below HB4.out); clear hO4 hG4 hb4)
                    | (go_at_call 60; ((refine ((HIH2.out g4 c4 w4 HS4.out HO4.out).out).mono ?_); rintro e w5 ⟨rfl, hS5, hG5⟩; have HS5 := Lib.hid hS5; have HG5 := Lib.hid hG5; have hX5 := sx_call HL6.out hneX hG5 (by assumption); clear hS5 hG5)))
                all_goals
                  have hPf5 := own_below HPf.out HB4.out
                  obtain ⟨vb4, hW4, _⟩ := HS4.out.hW
                  have HP5 := Lib.hid (hPf5.kept HG5.out (own_ne_blkP hPf5 hW4 (by decide)))
                  have HXX := Lib.hid (gby_blk HG5.out (blk_below HXf.out HB4.out) hne6)
                  have HRR := Lib.hid (gby_blk HG5.out (blk_below HRf.out HB4.out) hne9)
                  have HGG := Lib.hid (World.grownBy.trans HGf.out (World.grownBy.trans (gby_below (g := D.gW) HB4.out) HG5.out))
                  clear hPf5 hW4
                  go_wp2
                  go_roundw
                  first
                    | exact ⟨k + 1, by go_num, by omega, by rw [Hid, VN.out, bestV_app, HLS.out]; exact HS5.out, HP5, HXX, HRR, HGG⟩
                    | skip
                all_goals first
                  | exact ⟨k + 1, by go_num, by omega, by rw [Hid, VN.out, bestV_app, HLS.out]; exact HS5.out, HP5, HXX, HRR, HGG⟩
                  | (simp [intOf]; omega)
              · have dg : decide (go i ≤ gi Lf k) = false := by simpa using hge
                have hfit : fitB s so go Lf i k = false := by simp [fitB, hge]
                have VN := Lib.hid (visK_no (nl := D.nl) (all := D.all) (rem := rem) (plan := plan) hfit)
                clear hs hge hfit
                go_quiet (fail)
                go_wp2
                go_roundw
                case rel => exact ⟨k + 1, by go_num, by omega, by rw [Hid, VN.out]; exact hS.out.drewN _, (show (wr.drewN _).ownsRow _ _ _ _ _ _ from hP.out), hX.out, hR.out, gby_drewN hG.out _⟩
                case measure => simp [intOf]; omega
            · have ds : (s k == so i) = false := by simpa using hs
              have hfit : fitB s so go Lf i k = false := by simp [fitB, hs]
              have VN := Lib.hid (visK_no (nl := D.nl) (all := D.all) (rem := rem) (plan := plan) hfit)
              clear hs hfit
              go_quiet (fail)
              go_wp2
              go_roundw
              case rel => exact ⟨k + 1, by go_num, by omega, by rw [Hid, VN.out]; exact hS.out.drewN _, (show (wr.drewN _).ownsRow _ _ _ _ _ _ from hP.out), hX.out, hR.out, gby_drewN hG.out _⟩
              case measure => simp [intOf]; omega
          · obtain hkl : k = D.nl := by omega
            have d1 : decide ((k : Int) < (D.nl : Int)) = false := by simp; omega
            rw [hkl] at hS
            clear hkl hk
            have HALL : Hid (D.all = !(D.what == 0)) := rfl
            by_cases hw0 : D.what = 0
            · have dw : ((D.what : Int) == 0) = true := by rw [hw0]; rfl
              have hall : D.all = false := by rw [HALL.out, hw0]; rfl
              have VA := Lib.hid (visits_some (nl := D.nl) (s := s) (so := so) (go := go) rem i plan Lf hall)
              have HGV : Hid (GoodV D.nl D.all (plan ++ [-1]) Lf) := HV.out.snoc ⟨by omega, by omega, fun h => by rw [hall] at h; cases h⟩ HV.out.l
              have HNG : Hid (negs (plan ++ [-1]) = negs plan + 1) := by rw [Hid, negs_snoc, if_pos (by decide)]
              have hw1 : IntKind.i64.wrap (negs plan + 1) = negs plan + 1 := IntWalk.i64_in _ (by have := HLP.out; omega)
              have HL6 := HPL6
              clear hall hw0
              go_wp2
              have HTf := hX
              have HSf := hS
              have HPf := hP
              have HGf := hG
              have hneX := hne6
              clear a2 a0
              generalize wr = wf at *
              have HB0f := Lib.hid HSf.out.b.size
              have HIH2 := Lib.hid (fun (g4 c4 : Nat) (wq : World) (hS4 : SS D (bestV D.f o (visK D.nl s so go D.all rem i plan Lf D.nl)) wq) (hO4 : wq.ownsRow D.w0.heap.size 2 1 (.slice (some ⟨g4, 0, none⟩) (i + 1) c4) (i + 1) (nums .i64 plan ++ [.int .i64 (-1)])) => (by
                have := HIH.out (plan ++ [-1]) Lf _ g4 c4 wq hS4 (by simpa [nums] using hO4) HGV.out
                rw [six HL6.out, HNG.out] at this
                exact Lib.hid this))
              have HBq : Hid (Below wf.heap.size wf wf) := Below.refl _ _
              go_region_held3 (fun w' => (w'.cell? ⟨b6, 0, none⟩ = some (.int .i64 (gi (pad Lf) 0)) ∧ w'.cell? ⟨b6, 1, none⟩ = some (.int .i64 (gi (pad Lf) 1)) ∧ w'.cell? ⟨b6, 2, none⟩ = some (.int .i64 (gi (pad Lf) 2)) ∧ w'.cell? ⟨b6, 3, none⟩ = some (.int .i64 (gi (pad Lf) 3)) ∧ w'.cell? ⟨b6, 4, none⟩ = some (.int .i64 (gi (pad Lf) 4)) ∧ w'.cell? ⟨b6, 5, none⟩ = some (.int .i64 (gi (pad Lf) 5))) ∧ Hid (w'.heap[b6]? = some (.cells (nums .i64 (pad Lf)).toArray 86 (0, 0))))
                (first
                  | exact sx_mk HL6.out (show wf.drew.heap[b6]? = _ from HTf.out)
                  | (with_reducible exact sx_alloc HL6.out _ (by assumption))
                  | (with_reducible exact sx_allocd HL6.out _ (by assumption))
                  | exact hX5
                  | exact hX4
                  | exact hX3)
                (first
                  | ((refine step_append_own64 (by rfl) (.tmp 131) (.tmp 132) 29 (by rfl) 2 (.int .i64 0) 1 8 Try.underlying29 (by kernel_rfl) rfl (by decide) wf.heap.size _ 0 [] (by rfl) ?_ ⟨gp, 0, none⟩ i cp (nums .i64 plan) (by rfl) HLEN.out ?_ HONE.out m1.out m2.out ?_ ?_); (· first | exact o1_own _ _ | exact o2_own _ _ _ | exact o3_own _ _ _); (· refine own_src (own_below HPf.out ?_); (repeat (first | with_reducible exact Below.refl _ _ | with_reducible exact HBq.out | with_reducible refine below_alloc ?_ _ | with_reducible refine below_drew ?_ | with_reducible refine below_drewN ?_ _))); (· first | (simp; done) | (simp only [World.size_drew, World.size_alloc]; omega) | (simp; omega)); intro v3 w3 hO3 hG3; (first | (have hb3 := o_B hG3; have hX3 := sx_list HL6.out hG3 (o1_own _ _) (by assumption)) | (have HK := Lib.hid (o2_K hG3); have hb3 := o_B2 hG3; have hX3 := sx_list HL6.out hG3 (o2_own _ _ _) (by assumption)) | (have HK := Lib.hid (o3_K hG3); have hb3 := o_B3 hG3; have hX3 := sx_list HL6.out hG3 (o3_own _ _ _) (by assumption))); rw [Nat.zero_add, List.nil_append] at hO3; have HO3 := Lib.hid hO3; have HBq := Lib.hid hb3; clear hO3 hG3 hb3)
                  | ((refine step_append_keep (by rfl) (.tmp 133) (.tmp 134) 29 (by rfl) 2 (.int .i64 0) 1 8 Try.underlying29 (by kernel_rfl) rfl (by decide) wf.heap.size v3 i (nums .i64 plan) (by rfl) ?_ _ 1 1 [.int .i64 (-1)] (by rfl) rfl ?_ (by simp [Value.oneCell']) (by decide) m3.out m4.out ?_ ?_); (· first | exact HO3.out | exact HO3.out.alloc _); (· first | exact lit_src (heap_alloc_new _ (.cells #[.int .i64 (-1)] 2 (0, 0))) | exact lit_src HK.out); (· exact Nat.le_trans HBq.out.size (by simp)); intro g4 c4 w4 hO4 hG4 hat4 hold4; (first | have hX4 := sx_list HL6.out hG4 HO3.out (by assumption); have hb4 := below_grown HBq.out hG4 HO3.out (Nat.le_refl _) HBq.out.size | have hX4 := sx_list HL6.out hG4 (HO3.out.alloc _) (by assumption); have hb4 := below_grown (below_alloc HBq.out _) hG4 (HO3.out.alloc _) (Nat.le_refl _) (by have := HBq.out.size; simp; omega)); have HB4 := Lib.hid hb4; have HO4 := Lib.hid (own_mono hO4 HB0f.out); have HS4 := Lib.hid (HSf.out.below HB4.out); clear hO4 hG4 hb4)
                  | (go_at_call 60; ((refine ((HIH2.out g4 c4 w4 HS4.out HO4.out).out).mono ?_); rintro e w5 ⟨rfl, hS5, hG5⟩; have HS5 := Lib.hid hS5; have HG5 := Lib.hid hG5; have hX5 := sx_call HL6.out hneX hG5 (by assumption); clear hS5 hG5)))
              all_goals
                have HGG := Lib.hid (World.grownBy.trans HGf.out (World.grownBy.trans (gby_below (g := D.gW) HB4.out) HG5.out))
                go_wp2
                go_end0
                exact ⟨rfl, by rw [VA.out, bestV_app]; exact HS5.out, HGG.out⟩
            · have dw : ((D.what : Int) == 0) = false := beq_eq_false_iff_ne.2 (by omega)
              have hall : D.all = true := by rw [HALL.out]; simp [hw0]
              have VA := Lib.hid (visits_all (nl := D.nl) (s := s) (so := so) (go := go) rem i plan Lf hall)
              clear hw0 hall
              go_wp2
              go_end0
              exact ⟨rfl, by rw [VA.out]; exact hS.out, hG.out⟩
end Go.Proofs.Ytfdljhepfoppaaa
