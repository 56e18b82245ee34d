/- The first of the cheapest plans: plans, leastPlan. -/
import Derived.Test.YtfdljhepfoppaaaPlanServe
import Derived.Laws.EntriesVeiled
namespace Go.Proofs.Ytfdljhepfoppaaa
open Go.RowKit
set_option linter.unusedVariables false
set_option linter.unusedSimpArgs false
set_option maxRecDepth 100000

theorem made_nums (n : Nat) : madeCells #[.int .i64 0] (n * 1) = (nums .i64 (List.replicate n 0)).toArray := by
  apply Array.ext
  · simp [size_madeCells, nums]
  · intro i h1 h2
    simp [madeCells, nums, Nat.mod_one]
/-- All right plans, in order, of lots and orders. -/
def allPlans (nl no : Nat) (s g so go : Nat → Int) (all : Bool) : List Visit := visits nl s so go all no 0 [] ((List.range nl).map g)

section
variable (f : Visit → Int) (A B AV : Option Addr) (nl no c c1 cV : Nat) (all : Bool) (F : Nat) (caps : Array Value) (gN gF gL gB H q : Nat) (S0 : List (Nat × Obj)) (w0 : World)
def mkS : List (Nat × Obj) := [(gN, Obj.cells #[.func (.func F) #[] caps] 63 (0, 0)), (H, Obj.cells #[.slice A nl c] 24 (0, 0)), (H + 1, Obj.cells #[.slice B no c1] 26 (0, 0)), (H + 1 + 1, Obj.cells #[.bool all] 4 (0, 0)), (H + 1 + 1 + 1, Obj.cells #[.func (.func 58) #[] #[.pointer (some ⟨gN, 0, none⟩), .pointer (some ⟨gF, 0, none⟩), .pointer (some ⟨gL, 0, none⟩), .pointer (some ⟨gB, 0, none⟩)]] 82 (0, 0)), (q, Obj.cells #[.slice AV nl cV] 29 (0, 0)), (q + 1 + 1, Obj.cells #[.slice (some ⟨q + 1, 0, none⟩) no no] 29 (0, 0)), (q + 1 + 1 + 1, Obj.cells #[.func (.func 69) #[] #[.pointer (some ⟨H + 1, 0, none⟩), .pointer (some ⟨H + 1 + 1 + 1, 0, none⟩), .pointer (some ⟨q + 1 + 1, 0, none⟩), .pointer (some ⟨q, 0, none⟩), .pointer (some ⟨H, 0, none⟩), .pointer (some ⟨q + 1 + 1 + 1, 0, none⟩), .pointer (some ⟨H + 1 + 1, 0, none⟩)]] 94 (0, 0))] ++ S0
def mkD : PLay := ⟨q + 1, gF, gL, gB, q + 1 + 1 + 1 + 1, .slice AV nl cV, mkS A B AV nl no c c1 cV all F caps gN gF gL gB H q S0, w0, no, nl, f⟩
variable {f A B AV nl no c c1 cV all F caps gN gF gL gB H q S0 w0}
theorem mkS_all {P : Nat × Obj → Prop} (h0 : P (gN, Obj.cells #[.func (.func F) #[] caps] 63 (0, 0))) (h1 : P (H, Obj.cells #[.slice A nl c] 24 (0, 0))) (h2 : P (H + 1, Obj.cells #[.slice B no c1] 26 (0, 0))) (h3 : P (H + 1 + 1, Obj.cells #[.bool all] 4 (0, 0))) (h4 : P (H + 1 + 1 + 1, Obj.cells #[.func (.func 58) #[] #[.pointer (some ⟨gN, 0, none⟩), .pointer (some ⟨gF, 0, none⟩), .pointer (some ⟨gL, 0, none⟩), .pointer (some ⟨gB, 0, none⟩)]] 82 (0, 0))) (h5 : P (q, Obj.cells #[.slice AV nl cV] 29 (0, 0))) (h6 : P (q + 1 + 1, Obj.cells #[.slice (some ⟨q + 1, 0, none⟩) no no] 29 (0, 0))) (h7 : P (q + 1 + 1 + 1, Obj.cells #[.func (.func 69) #[] #[.pointer (some ⟨H + 1, 0, none⟩), .pointer (some ⟨H + 1 + 1 + 1, 0, none⟩), .pointer (some ⟨q + 1 + 1, 0, none⟩), .pointer (some ⟨q, 0, none⟩), .pointer (some ⟨H, 0, none⟩), .pointer (some ⟨q + 1 + 1 + 1, 0, none⟩), .pointer (some ⟨H + 1 + 1, 0, none⟩)]] 94 (0, 0))) (hS : ∀ p ∈ S0, P p) : ∀ p ∈ mkS A B AV nl no c c1 cV all F caps gN gF gL gB H q S0, P p := by
  intro p hp
  rw [mkS, List.mem_append] at hp
  rcases hp with hp | hp
  · simp only [List.mem_cons, List.not_mem_nil, or_false] at hp
    rcases hp with rfl | rfl | rfl | rfl | rfl | rfl | rfl | rfl
    · exact h0
    · exact h1
    · exact h2
    · exact h3
    · exact h4
    · exact h5
    · exact h6
    · exact h7
  · exact hS p hp
theorem mkD_ok (hg : gN < H ∧ gF < H ∧ gL < H ∧ gB < H) (hq : H + 1 + 1 + 1 < q) (hd : gN ≠ gF ∧ gN ≠ gL ∧ gN ≠ gB ∧ gF ≠ gL ∧ gF ≠ gB ∧ gL ≠ gB) (hlo : w0.heap.size ≤ gF ∧ w0.heap.size ≤ gL ∧ w0.heap.size ≤ gB) (hv : ∀ k, (Value.slice AV nl cV).ownBlock = some k → H + 1 + 1 + 1 + 1 ≤ k ∧ k < q)
    (hS : ∀ p ∈ S0, p.1 < H ∧ p.1 ≠ gF ∧ p.1 ≠ gL ∧ p.1 ≠ gB) : (mkD f A B AV nl no c c1 cV all F caps gN gF gL gB H q S0 w0).Ok := by
  obtain ⟨g1, g2, g3, g4⟩ := hg
  obtain ⟨d1, d2, d3, d4, d5, d6⟩ := hd
  obtain ⟨l1, l2, l3⟩ := hlo
  have nv : ∀ k, (k < H + 1 + 1 + 1 + 1 ∨ q ≤ k) → (Value.slice AV nl cV).ownBlock ≠ some k := fun k hk e => by have := hv k e; omega
  have mk : ∀ k, (k ≠ q + 1 ∧ k ≠ gF ∧ k ≠ gL ∧ k ≠ gB ∧ (k < H + 1 + 1 + 1 + 1 ∨ q ≤ k)) → k ≠ q + 1 ∧ k ≠ gF ∧ k ≠ gL ∧ k ≠ gB ∧ (Value.slice AV nl cV).ownBlock ≠ some k := fun k h => ⟨h.1, h.2.1, h.2.2.1, h.2.2.2.1, nv k h.2.2.2.2⟩
  exact ⟨mkS_all (mk gN (by omega)) (mk H (by omega)) (mk (H + 1) (by omega)) (mk (H + 1 + 1) (by omega)) (mk (H + 1 + 1 + 1) (by omega)) (mk q (by omega)) (mk (q + 1 + 1) (by omega)) (mk (q + 1 + 1 + 1) (by omega)) (fun p hp => mk p.1 (by have := hS p hp; omega)),
    show q + 1 ≠ gF by omega, show q + 1 ≠ gL by omega, show q + 1 ≠ gB by omega, d4, d5, d6, nv (q + 1) (by omega), nv gF (by omega), nv gL (by omega), nv gB (by omega),
    ⟨show w0.heap.size ≤ q + 1 by omega, show q + 1 < q + 1 + 1 + 1 + 1 by omega⟩, ⟨l1, show gF < q + 1 + 1 + 1 + 1 by omega⟩, ⟨l2, show gL < q + 1 + 1 + 1 + 1 by omega⟩, ⟨l3, show gB < q + 1 + 1 + 1 + 1 by omega⟩,
    fun k hk => (show w0.heap.size ≤ k ∧ k < q + 1 + 1 + 1 + 1 by have := hv k hk; omega)⟩
theorem mkD_box {s g so go : Nat → Int} (hok : (mkD f A B AV nl no c c1 cV all F caps gN gF gL gB H q S0 w0).Ok) (hL : LotsAt w0 A nl s g) (hO : LotsAt w0 B no so go) (nl6 : nl ≤ 6) (no7 : no ≤ 7) (bg : ∀ j, j < nl → 0 ≤ g j ∧ g j ≤ 5000) (bo : ∀ j, j < no → 1 ≤ go j ∧ go j ≤ 5000) :
    PBox (mkD f A B AV nl no c c1 cV all F caps gN gF gL gB H q S0 w0) A B c c1 all s g so go F caps gN (H + 1) (H + 1 + 1 + 1) (q + 1 + 1) q H (q + 1 + 1 + 1) (H + 1 + 1) :=
  ⟨hok, List.mem_append_left _ (by simp), List.mem_append_left _ (by simp [mkD]), List.mem_append_left _ (by simp [mkD]), List.mem_append_left _ (by simp [mkD]), List.mem_append_left _ (by simp [mkD]), List.mem_append_left _ (by simp [mkD]), List.mem_append_left _ (by simp [mkD]), List.mem_append_left _ (by simp), hL, hO, nl6, no7, bg, bo⟩
end
set_option maxHeartbeats 8000000 in
theorem c_plans (f : Visit → Int) (A B : Option Addr) (nl no c c1 : Nat) (all : Bool) (s g so go : Nat → Int) (F : Nat) (caps : Array Value) (gN gF gL gB : Nat) (S0 : List (Nat × Obj)) (w0 w : World)
    (heF : ∀ args w, (callFunc F args).run Try.prog w = .ok (.enter F args) w)
    (hnum : ∀ (D : PLay) P Lf o w, D.f = f → D.no = no → D.nl = nl → (∀ p ∈ S0, p ∈ D.S) → PS D P Lf o w → GoodV nl all P Lf → Calls Try.prog F (#[.slice (some ⟨D.bp, 0, none⟩) no no, D.vl] ++ caps) w fun e w' => e = .returned (.int .i64 (f (P, Lf))) ∧ Below w.heap.size w w')
    (hL : LotsAt w0 A nl s g) (hO : LotsAt w0 B no so go) (nl6 : nl ≤ 6) (no7 : no ≤ 7) (bg : ∀ j, j < nl → 0 ≤ g j ∧ g j ≤ 5000) (bo : ∀ j, j < no → 1 ≤ go j ∧ go j ≤ 5000)
    (hN : w.heap[gN]? = some (.cells #[.func (.func F) #[] caps] 63 (0, 0)))
    (hF : w.heap[gF]? = some (.cells #[.bool false] 4 (0, 0))) (hLe : w.heap[gL]? = some (.cells #[.int .i64 0] 2 (0, 0))) (hB : w.heap[gB]? = some (.cells #[.slice none 0 0] 29 (0, 0)))
    (hS0 : ∀ p ∈ S0, w.heap[p.1]? = some p.2 ∧ p.1 ≠ gF ∧ p.1 ≠ gL ∧ p.1 ≠ gB) (hd : gN ≠ gF ∧ gN ≠ gL ∧ gN ≠ gB ∧ gF ≠ gL ∧ gF ≠ gB ∧ gL ≠ gB) (hlo : w0.heap.size ≤ gF ∧ w0.heap.size ≤ gL ∧ w0.heap.size ≤ gB) (hb : Below w0.heap.size w0 w) :
    Calls Try.prog 57 #[.slice A nl c, .slice B no c1, .bool all, .func (.func 58) #[] #[.pointer (some ⟨gN, 0, none⟩), .pointer (some ⟨gF, 0, none⟩), .pointer (some ⟨gL, 0, none⟩), .pointer (some ⟨gB, 0, none⟩)]] w fun e w' => e = .returned (.tuple #[]) ∧
      (∃ vb, w'.heap[gB]? = some (.cells #[vb] 29 (0, 0)) ∧ w'.ownsRow w0.heap.size 2 1 vb (bestL (bestV f none (allPlans nl no s g so go all))).length (nums .i64 (bestL (bestV f none (allPlans nl no s g so go all))))) ∧
      w'.heap[gL]? = some (.cells #[.int .i64 (leastL f (bestV f none (allPlans nl no s g so go all)))] 2 (0, 0)) ∧ w'.heap[gF]? = some (.cells #[.bool (bestV f none (allPlans nl no s g so go all)).isSome] 4 (0, 0)) ∧ Below w0.heap.size w0 w' := by
  have HNUM := Lib.hid hnum
  have heC : ∀ args w, (callFunc 58 args).run Try.prog w = .ok (.enter 58 args) w := enters_of Try.func58 (by kernel_rfl) rfl
  have heS : ∀ args w, (callFunc 69 args).run Try.prog w = .ok (.enter 69 args) w := enters_of Try.func69 (by kernel_rfl) rfl
  have lN := blk_lt hN
  have lF := blk_lt hF
  have lL := blk_lt hLe
  have lB := blk_lt hB
  have hz0 := hb.size
  have HHN := Lib.hid hN
  have HHF := Lib.hid hF
  have HHL := Lib.hid hLe
  have HHB := Lib.hid hB
  have HHS := Lib.hid hS0
  have HHD := Lib.hid hd
  have HLO := Lib.hid hlo
  have HBB := Lib.hid hb
  have HL := Lib.hid hL
  have HO := Lib.hid hO
  have HBG := Lib.hid bg
  have HBO := Lib.hid bo
  have hB4 : Below w.heap.size w ((((w.alloc (.cells #[.slice A nl c] 24 (0, 0))).alloc (.cells #[.slice B no c1] 26 (0, 0))).alloc (.cells #[.bool all] 4 (0, 0))).alloc (.cells #[.func (.func 58) #[] #[.pointer (some ⟨gN, 0, none⟩), .pointer (some ⟨gF, 0, none⟩), .pointer (some ⟨gL, 0, none⟩), .pointer (some ⟨gB, 0, none⟩)]] 82 (0, 0))) := by (repeat (first | with_reducible exact Below.refl _ _ | with_reducible refine below_alloc ?_ _ | with_reducible refine below_drew ?_ | with_reducible refine below_drewN ?_ _ | with_reducible refine below_then ?_ (by assumption)))
  have HB4 := Lib.hid hB4
  have CG := Lib.hid (c_grams A nl c s g _ (hL.below (hb.trans (hB4.mono hz0))) nl6 bg)
  have hmk : ∀ w : World, (Instr.makeSlice 29 (.int .i64 (no : Int)) (.int .i64 (no : Int))).run Try.prog w = .ok (.slice (some ⟨w.heap.size, 0, none⟩) no no) (w.alloc (.cells (nums .i64 (List.replicate no 0)).toArray 2)) := fun w => by
    have hinfo : (Try.prog.info? 2).map (fun i => (i.zero, i.size, i.bytes)) = some (some (.int .i64 0), 1, 8) := by kernel_rfl
    obtain ⟨i, hi, hzz⟩ := Option.map_eq_some_iff.1 hinfo
    simp only [Prod.mk.injEq] at hzz
    obtain ⟨hz, hs, hb⟩ := hzz
    have := run_make (P := Try.prog) w 29 2 i _ Try.underlying29 hi hz .i64 .i64 (no : Int) (no : Int) (by omega) (Int.le_refl _) (by rw [hb]; omega) (by omega)
    rw [hs, Int.toNat_natCast] at this
    rw [← made_nums]
    exact this
  have k0 := blk_alloc (blk_alloc (blk_alloc (heap_alloc_new w (.cells #[.slice A nl c] 24 (0, 0))) (.cells #[.slice B no c1] 26 (0, 0))) (.cells #[.bool all] 4 (0, 0))) (.cells #[.func (.func 58) #[] #[.pointer (some ⟨gN, 0, none⟩), .pointer (some ⟨gF, 0, none⟩), .pointer (some ⟨gL, 0, none⟩), .pointer (some ⟨gB, 0, none⟩)]] 82 (0, 0))
  have k1 := blk_alloc (blk_alloc (heap_alloc_new (w.alloc (.cells #[.slice A nl c] 24 (0, 0))) (.cells #[.slice B no c1] 26 (0, 0))) (.cells #[.bool all] 4 (0, 0))) (.cells #[.func (.func 58) #[] #[.pointer (some ⟨gN, 0, none⟩), .pointer (some ⟨gF, 0, none⟩), .pointer (some ⟨gL, 0, none⟩), .pointer (some ⟨gB, 0, none⟩)]] 82 (0, 0))
  have k2 := blk_alloc (heap_alloc_new ((w.alloc (.cells #[.slice A nl c] 24 (0, 0))).alloc (.cells #[.slice B no c1] 26 (0, 0))) (.cells #[.bool all] 4 (0, 0))) (.cells #[.func (.func 58) #[] #[.pointer (some ⟨gN, 0, none⟩), .pointer (some ⟨gF, 0, none⟩), .pointer (some ⟨gL, 0, none⟩), .pointer (some ⟨gB, 0, none⟩)]] 82 (0, 0))
  have k3 := heap_alloc_new (((w.alloc (.cells #[.slice A nl c] 24 (0, 0))).alloc (.cells #[.slice B no c1] 26 (0, 0))).alloc (.cells #[.bool all] 4 (0, 0))) (.cells #[.func (.func 58) #[] #[.pointer (some ⟨gN, 0, none⟩), .pointer (some ⟨gF, 0, none⟩), .pointer (some ⟨gL, 0, none⟩), .pointer (some ⟨gB, 0, none⟩)]] 82 (0, 0))
  simp only [World.size_alloc] at k1 k2 k3
  have K0 := Lib.hid k0
  have K1 := Lib.hid k1
  have K2 := Lib.hid k2
  have K3 := Lib.hid k3
  clear k0 k1 k2 k3
  clear hN hF hLe hB hS0 hd hlo hb hL hO bg bo hnum hB4
  go_enter Try.func57, Try.ntmps57
  go_wp2_with (first
    | (go_at_call 55; ((with_reducible refine CG.out.mono ?_); rintro e w2 ⟨v, rfl, hV, hb2⟩; obtain ⟨AV, cV, rfl, hAV⟩ := own_form hV; have HV := Lib.hid hV; have HB2 := Lib.hid hb2; have K0 := Lib.hid (blk_below K0.out hb2); have K1 := Lib.hid (blk_below K1.out hb2); have K2 := Lib.hid (blk_below K2.out hb2); have K3 := Lib.hid (blk_below K3.out hb2); have y1 : w2.cell? ⟨w.heap.size + 1, 0, none⟩ = some (.slice B no c1) := cell_of_row w2 (w.heap.size + 1) 0 _ _ _ K1.out; have hz1 := blk_lt K1.out; have hz2 := Nat.ne_of_lt hz1; clear hV hb2)))
  have hW4 : Below w2.heap.size w2 ((((w2.alloc (.cells #[.slice AV nl cV] 29 (0, 0))).alloc (.cells (nums .i64 (List.replicate no 0)).toArray 2 (0, 0))).alloc (.cells #[.slice (some ⟨w2.heap.size + 1, 0, none⟩) no no] 29 (0, 0))).alloc (.cells #[.func (.func 69) #[] #[.pointer (some ⟨w.heap.size + 1, 0, none⟩), .pointer (some ⟨w.heap.size + 1 + 1 + 1, 0, none⟩), .pointer (some ⟨w2.heap.size + 1 + 1, 0, none⟩), .pointer (some ⟨w2.heap.size, 0, none⟩), .pointer (some ⟨w.heap.size, 0, none⟩), .pointer (some ⟨w2.heap.size + 1 + 1 + 1, 0, none⟩), .pointer (some ⟨w.heap.size + 1 + 1, 0, none⟩)]] 94 (0, 0))) := by (repeat (first | with_reducible exact Below.refl _ _ | with_reducible refine below_alloc ?_ _ | with_reducible refine below_drew ?_ | with_reducible refine below_drewN ?_ _ | with_reducible refine below_then ?_ (by assumption)))
  have m1 := blk_alloc (blk_alloc (blk_alloc (heap_alloc_new w2 (.cells #[.slice AV nl cV] 29 (0, 0))) (.cells (nums .i64 (List.replicate no 0)).toArray 2 (0, 0))) (.cells #[.slice (some ⟨w2.heap.size + 1, 0, none⟩) no no] 29 (0, 0))) (.cells #[.func (.func 69) #[] #[.pointer (some ⟨w.heap.size + 1, 0, none⟩), .pointer (some ⟨w.heap.size + 1 + 1 + 1, 0, none⟩), .pointer (some ⟨w2.heap.size + 1 + 1, 0, none⟩), .pointer (some ⟨w2.heap.size, 0, none⟩), .pointer (some ⟨w.heap.size, 0, none⟩), .pointer (some ⟨w2.heap.size + 1 + 1 + 1, 0, none⟩), .pointer (some ⟨w.heap.size + 1 + 1, 0, none⟩)]] 94 (0, 0))
  have m2 := blk_alloc (blk_alloc (heap_alloc_new (w2.alloc (.cells #[.slice AV nl cV] 29 (0, 0))) (.cells (nums .i64 (List.replicate no 0)).toArray 2 (0, 0))) (.cells #[.slice (some ⟨w2.heap.size + 1, 0, none⟩) no no] 29 (0, 0))) (.cells #[.func (.func 69) #[] #[.pointer (some ⟨w.heap.size + 1, 0, none⟩), .pointer (some ⟨w.heap.size + 1 + 1 + 1, 0, none⟩), .pointer (some ⟨w2.heap.size + 1 + 1, 0, none⟩), .pointer (some ⟨w2.heap.size, 0, none⟩), .pointer (some ⟨w.heap.size, 0, none⟩), .pointer (some ⟨w2.heap.size + 1 + 1 + 1, 0, none⟩), .pointer (some ⟨w.heap.size + 1 + 1, 0, none⟩)]] 94 (0, 0))
  have m3 := blk_alloc (heap_alloc_new ((w2.alloc (.cells #[.slice AV nl cV] 29 (0, 0))).alloc (.cells (nums .i64 (List.replicate no 0)).toArray 2 (0, 0))) (.cells #[.slice (some ⟨w2.heap.size + 1, 0, none⟩) no no] 29 (0, 0))) (.cells #[.func (.func 69) #[] #[.pointer (some ⟨w.heap.size + 1, 0, none⟩), .pointer (some ⟨w.heap.size + 1 + 1 + 1, 0, none⟩), .pointer (some ⟨w2.heap.size + 1 + 1, 0, none⟩), .pointer (some ⟨w2.heap.size, 0, none⟩), .pointer (some ⟨w.heap.size, 0, none⟩), .pointer (some ⟨w2.heap.size + 1 + 1 + 1, 0, none⟩), .pointer (some ⟨w.heap.size + 1 + 1, 0, none⟩)]] 94 (0, 0))
  have m4 := heap_alloc_new (((w2.alloc (.cells #[.slice AV nl cV] 29 (0, 0))).alloc (.cells (nums .i64 (List.replicate no 0)).toArray 2 (0, 0))).alloc (.cells #[.slice (some ⟨w2.heap.size + 1, 0, none⟩) no no] 29 (0, 0))) (.cells #[.func (.func 69) #[] #[.pointer (some ⟨w.heap.size + 1, 0, none⟩), .pointer (some ⟨w.heap.size + 1 + 1 + 1, 0, none⟩), .pointer (some ⟨w2.heap.size + 1 + 1, 0, none⟩), .pointer (some ⟨w2.heap.size, 0, none⟩), .pointer (some ⟨w.heap.size, 0, none⟩), .pointer (some ⟨w2.heap.size + 1 + 1 + 1, 0, none⟩), .pointer (some ⟨w.heap.size + 1 + 1, 0, none⟩)]] 94 (0, 0))
  simp only [World.size_alloc] at m2 m3 m4
  have hsz : ((((w2.alloc (.cells #[.slice AV nl cV] 29 (0, 0))).alloc (.cells (nums .i64 (List.replicate no 0)).toArray 2 (0, 0))).alloc (.cells #[.slice (some ⟨w2.heap.size + 1, 0, none⟩) no no] 29 (0, 0))).alloc (.cells #[.func (.func 69) #[] #[.pointer (some ⟨w.heap.size + 1, 0, none⟩), .pointer (some ⟨w.heap.size + 1 + 1 + 1, 0, none⟩), .pointer (some ⟨w2.heap.size + 1 + 1, 0, none⟩), .pointer (some ⟨w2.heap.size, 0, none⟩), .pointer (some ⟨w.heap.size, 0, none⟩), .pointer (some ⟨w2.heap.size + 1 + 1 + 1, 0, none⟩), .pointer (some ⟨w.heap.size + 1 + 1, 0, none⟩)]] 94 (0, 0))).heap.size = w2.heap.size + 4 := by simp only [World.size_alloc]
  have hlt3 := blk_lt K3.out
  have hww : Below w.heap.size w ((((w2.alloc (.cells #[.slice AV nl cV] 29 (0, 0))).alloc (.cells (nums .i64 (List.replicate no 0)).toArray 2 (0, 0))).alloc (.cells #[.slice (some ⟨w2.heap.size + 1, 0, none⟩) no no] 29 (0, 0))).alloc (.cells #[.func (.func 69) #[] #[.pointer (some ⟨w.heap.size + 1, 0, none⟩), .pointer (some ⟨w.heap.size + 1 + 1 + 1, 0, none⟩), .pointer (some ⟨w2.heap.size + 1 + 1, 0, none⟩), .pointer (some ⟨w2.heap.size, 0, none⟩), .pointer (some ⟨w.heap.size, 0, none⟩), .pointer (some ⟨w2.heap.size + 1 + 1 + 1, 0, none⟩), .pointer (some ⟨w.heap.size + 1 + 1, 0, none⟩)]] 94 (0, 0))) := below_then (below_then HB4.out HB2.out) hW4
  have hvl := HV.out.lt
  simp only [World.size_alloc] at hvl
  have hV4 := own_below HV.out hW4
  generalize hWd : ((((w2.alloc (.cells #[.slice AV nl cV] 29 (0, 0))).alloc (.cells (nums .i64 (List.replicate no 0)).toArray 2 (0, 0))).alloc (.cells #[.slice (some ⟨w2.heap.size + 1, 0, none⟩) no no] 29 (0, 0))).alloc (.cells #[.func (.func 69) #[] #[.pointer (some ⟨w.heap.size + 1, 0, none⟩), .pointer (some ⟨w.heap.size + 1 + 1 + 1, 0, none⟩), .pointer (some ⟨w2.heap.size + 1 + 1, 0, none⟩), .pointer (some ⟨w2.heap.size, 0, none⟩), .pointer (some ⟨w.heap.size, 0, none⟩), .pointer (some ⟨w2.heap.size + 1 + 1 + 1, 0, none⟩), .pointer (some ⟨w.heap.size + 1 + 1, 0, none⟩)]] 94 (0, 0))) = W at *
  have hgs : ∀ p ∈ S0, p.1 < w.heap.size := fun p hp => blk_lt (HHS.out p hp).1
  have HOK := mkD_ok (f := f) (A := A) (B := B) (AV := AV) (nl := nl) (no := no) (c := c) (c1 := c1) (cV := cV) (all := all) (F := F) (caps := caps) (gN := gN) (gF := gF) (gL := gL) (gB := gB) (H := w.heap.size) (q := w2.heap.size) (S0 := S0) (w0 := w0) ⟨lN, lF, lL, lB⟩ hlt3 HHD.out HLO.out hvl (fun p hp => ⟨hgs p hp, (HHS.out p hp).2⟩)
  have HBX := mkD_box (s := s) (g := g) (so := so) (go := go) HOK HL.out HO.out nl6 no7 HBG.out HBO.out
  have HPS : PS (mkD f A B AV nl no c c1 cV all F caps gN gF gL gB w.heap.size w2.heap.size S0 w0) (List.replicate no 0) ((List.range nl).map g) none W :=
    ⟨mkS_all (blk_below HHN.out hww) (blk_below K0.out hW4) (blk_below K1.out hW4) (blk_below K2.out hW4) (blk_below K3.out hW4) m1 m3 m4 (fun p hp => blk_below (HHS.out p hp).1 hww), m2, own_mono hV4 (by simp only [World.size_alloc, mkD]; omega), blk_below HHF.out hww, blk_below HHL.out hww, ⟨_, blk_below HHB.out hww, own_nil _ _ _ _⟩, below_then HBB.out hww, by rw [hsz]; exact Nat.le_refl _, by simp [mkD]⟩
  have HC := c_serve HBX heF heC heS (fun P Lf o w hP hG => HNUM.out _ P Lf o w rfl rfl rfl (fun p hp => List.mem_append_right _ hp) hP hG) no 0 (List.replicate no 0) ((List.range nl).map g) none W (by simp [mkD]) HPS ⟨by simp, LeftOk.first (fun j hj => by have := HBG.out j hj; omega)⟩
  have HCC := Lib.hid HC
  clear HC HPS HBX HOK m1 m2 m3 m4 hV4 hww hvl hW4 hsz hWd
  refine HCC.out.mono ?_
  rintro e w3 ⟨rfl, P', _, hS⟩
  have HS := Lib.hid hS
  clear hS HCC
  go_wp2
  go_end0
  obtain ⟨vb, h1, h2⟩ := HS.out.bB
  exact ⟨rfl, ⟨vb, h1, own_mono h2 (by simp only [mkD]; omega)⟩, HS.out.bL, HS.out.bF, HS.out.b⟩
end Go.Proofs.Ytfdljhepfoppaaa
