/- How things lie in the law on ladders, and what is called there. -/
import Derived.Test.YtepdgbgolopejaaLdFrom
import Derived.Test.YtepdgbgolopejaaLdGo
import Derived.Test.YtepdgbgolopejaaLdEnd
namespace Go.Proofs.Ytepdgbgolopejaa
open Go.RowKit
set_option linter.unusedVariables false
set_option linter.unusedSimpArgs false
set_option maxRecDepth 100000

/-- A row: element's type, cells of one, the slice, how many, the cells. -/
structure Lrw where
  t : TypeId
  s : Nat
  v : Value
  n : Nat
  xs : List Value
/-- The fabric in its block, and rows. -/
structure FL (W : World) (G : Nat) (cast : Int) (A : Option Addr) (c : Nat) (L : List (List UInt8)) (R : List Lrw) (w : World) : Prop where
  b : Below W.heap.size W w
  f : w.heap[G]? = some (.cells #[.int .i16 cast, .slice A L.length c] 27 (0, 0))
  o : w.ownsRow W.heap.size 9 1 (.slice A L.length c) L.length (strs L)
  r : ∀ x ∈ R, w.ownsRow W.heap.size x.t x.s x.v x.n x.xs
/-- A row of loops. -/
abbrev lpR (v : Value) (P : List (Nat × Nat)) : Lrw := ⟨39, 2, v, P.length, lpRow (P.map ii)⟩
/-- A row of numbers. -/
abbrev nmR (v : Value) (F : List Nat) : Lrw := ⟨2, 1, v, F.length, nums .i64 (natL F)⟩
/-- The row of the widths. -/
abbrev wdR (v : Value) (cast : Int) (L : List (List UInt8)) : Lrw := ⟨2, 1, v, L.length + 1, nums .i64 (widL cast L (L.length + 1))⟩
section
variable {W : World} {G : Nat} {cast : Int} {A : Option Addr} {c : Nat} {L : List (List UInt8)} {R : List Lrw} {w w1 : World}
theorem FL.below (h : FL W G cast A c L R w) (hb : Below w.heap.size w w1) : FL W G cast A c L R w1 := ⟨below_then h.b hb, blk_below h.f hb, own_below h.o hb, fun x hx => own_below (h.r x hx) hb⟩
theorem FL.addR (h : FL W G cast A c L R w) (x : Lrw) (hv : w.ownsRow W.heap.size x.t x.s x.v x.n x.xs) : FL W G cast A c L (x :: R) w :=
  ⟨h.b, h.f, h.o, fun y hy => by rcases List.mem_cons.1 hy with rfl | hy; exact hv; exact h.r y hy⟩
theorem FL.drew (h : FL W G cast A c L R w) : FL W G cast A c L R w.drew := ⟨below_drew h.b, h.f, h.o, h.r⟩
theorem FL.drewN (h : FL W G cast A c L R w) (n : Nat) : FL W G cast A c L R (w.drewN n) := ⟨below_drewN h.b n, h.f, h.o, h.r⟩
theorem FL.sub {R' : List Lrw} (h : FL W G cast A c L R w) (hs : ∀ p ∈ R', p ∈ R) : FL W G cast A c L R' w := ⟨h.b, h.f, h.o, fun p hp => h.r p (hs p hp)⟩
theorem FL.tail {x : Lrw} (h : FL W G cast A c L (x :: R) w) : FL W G cast A c L R w := h.sub fun p hp => List.mem_cons_of_mem _ hp
theorem FL.row (h : FL W G cast A c L R w) {x : Lrw} (hm : x ∈ R) : w.ownsRow W.heap.size x.t x.s x.v x.n x.xs := h.r _ hm
theorem FL.f0 (h : FL W G cast A c L R w) : w.cell? ⟨G, 0, none⟩ = some (.int .i16 cast) := blk_cell h.f 0
theorem FL.f1 (h : FL W G cast A c L R w) : w.cell? ⟨G, 1, none⟩ = some (.slice A L.length c) := blk_cell h.f 1
theorem FL.fab (h : FL W G cast A c L R w) (hV : FabV cast L) : FabAt w cast A c L := by
  refine ⟨by have := hV.num; omega, fun l hl => ?_, own_rd h.o, by have := hV.csb; omega⟩
  obtain ⟨k, hk, rfl⟩ := List.getElem_of_mem hl
  have := hV.len k hk
  simp [List.getD_eq_getElem?_getD, hk] at this
  omega
theorem FL.loop (h : FL W G cast A c L R w) {g cc : Nat} {P : List (Nat × Nat)} (hm : lpR (.slice (some ⟨g, 0, none⟩) P.length cc) P ∈ R) {i : Nat} (hi : i < P.length) :
    w.cell? ⟨g, i * 2, none⟩ = some (.int .i16 ((P.getD i (0, 0)).1 : Int)) ∧ w.cell? ⟨g, i * 2 + 1, none⟩ = some (.int .i16 ((P.getD i (0, 0)).2 : Int)) := by
  have hl : i < (P.map ii).length := by rw [List.length_map]; exact hi
  have h0 := lpRow_get hl
  rw [List.getElem_map, ← getD_pair hi] at h0
  exact ⟨(own_get (h.r _ hm) h0.1).1, (own_get (h.r _ hm) h0.2).1⟩
theorem FL.num (h : FL W G cast A c L R w) {g cc : Nat} {F : List Nat} (hm : nmR (.slice (some ⟨g, 0, none⟩) F.length cc) F ∈ R) {i : Nat} (hi : i < F.length) : w.cell? ⟨g, i, none⟩ = some (.int .i64 (F[i] : Int)) :=
  (own_get (h.r _ hm) (natL_get hi)).1
theorem FL.wid (h : FL W G cast A c L R w) {g cc : Nat} (hm : wdR (.slice (some ⟨g, 0, none⟩) (L.length + 1) cc) cast L ∈ R) {r : Nat} (hr : r ≤ L.length) : w.cell? ⟨g, r, none⟩ = some (.int .i64 (widN cast L r : Int)) :=
  (own_get (h.r _ hm) (widL_get (Nat.lt_succ_of_le hr))).1
theorem FL.wform (h : FL W G cast A c L R w) {v : Value} (hm : wdR v cast L ∈ R) : ∃ g cc, v = .slice (some ⟨g, 0, none⟩) (L.length + 1) cc := by
  obtain ⟨A1, c1, e, hA⟩ := own_form (h.r _ hm)
  obtain ⟨g, rfl, _⟩ := hA (Nat.succ_pos _)
  exact ⟨g, c1, e⟩
theorem FL.lform0 (h : FL W G cast A c L R w) {v : Value} {P : List (Nat × Nat)} (hm : lpR v P ∈ R) : ∃ A1 cc, v = .slice A1 P.length cc ∧ (0 < P.length → ∃ g, A1 = some ⟨g, 0, none⟩) := by
  obtain ⟨A1, c1, e, hA⟩ := own_form (h.r _ hm)
  exact ⟨A1, c1, e, fun hp => by obtain ⟨g, e, _⟩ := hA hp; exact ⟨g, e⟩⟩
theorem FL.lform (h : FL W G cast A c L R w) {v : Value} {P : List (Nat × Nat)} (hm : lpR v P ∈ R) (hp : 0 < P.length) : ∃ g cc, v = .slice (some ⟨g, 0, none⟩) P.length cc := by
  obtain ⟨A1, c1, e, hA⟩ := h.lform0 hm
  obtain ⟨g, rfl⟩ := hA hp
  exact ⟨g, c1, e⟩
theorem FL.nform (h : FL W G cast A c L R w) {v : Value} {F : List Nat} (hm : nmR v F ∈ R) : ∃ A1 cc, v = .slice A1 F.length cc ∧ (0 < F.length → ∃ g, A1 = some ⟨g, 0, none⟩) := by
  obtain ⟨A1, c1, e, hA⟩ := own_form (h.r _ hm)
  exact ⟨A1, c1, e, fun hp => by obtain ⟨g, e, _⟩ := hA hp; exact ⟨g, e⟩⟩
theorem FL.had (h : FL W G cast A c L R w) (hb : Below w.heap.size w w1) {t : TypeId} {s n : Nat} {v : Value} {xs : List Value} (ho : w1.ownsRow w.heap.size t s v n xs) : FL W G cast A c L (⟨t, s, v, n, xs⟩ :: R) w1 := (h.below hb).addR ⟨t, s, v, n, xs⟩ (own_mono ho h.b.size)
theorem fl_widthsOf (h : FL W G cast A c L R w) (hok : fabOk cast L = true) :
    Calls Try.prog 6 #[.agg #[.int .i16 cast, .slice A L.length c]] w fun e w' => ∃ v, e = .returned (.tuple #[v, .int .i64 0]) ∧ FL W G cast A c L (wdR v cast L :: R) w' :=
  (c_sWidthsOf cast A c L w (h.fab (fabV_of hok)) hok).mono fun e w' ⟨v, e1, ho, hb⟩ => ⟨v, e1, h.had hb ho⟩
theorem fl_worstS (h : FL W G cast A c L R w) (hok : fabOk cast L = true) {k : Int} (hk : k = if widN cast L L.length = 0 then 6 else 0) {p : Nat × Nat} (hp : worstP (ladN L) (widN cast L L.length) = p) :
    Calls Try.prog 8 #[.agg #[.int .i16 cast, .slice A L.length c]] w fun e w' => e = .returned (.tuple #[.int .i64 (p.1 : Int), .int .i64 (p.2 : Int), .int .i64 k]) ∧ FL W G cast A c L R w' :=
  (c_sWorstLoop cast A c L w (h.fab (fabV_of hok)) hok k hk).mono fun e w' ⟨e1, hb⟩ => ⟨by rw [e1, hp], h.below hb⟩
theorem fl_worstI (h : FL W G cast A c L R w) (hok : fabOk cast L = true) {k : Int} (hk : k = if widN cast L L.length = 0 then 6 else 0) {p : Nat × Nat} (hp : worstP (ladN L) (widN cast L L.length) = p) :
    Calls Try.prog 7 #[.agg #[.int .i16 cast, .slice A L.length c]] w fun e w' => e = .returned (.tuple #[.int .i64 (p.1 : Int), .int .i64 (p.2 : Int), .int .i64 k]) ∧ FL W G cast A c L R w' :=
  (c_iWorstLoop cast A c L w (h.fab (fabV_of hok)) hok k hk).mono fun e w' ⟨e1, hb⟩ => ⟨by rw [e1, hp], h.below hb⟩
theorem fl_ladI (h : FL W G cast A c L R w) (hok : fabOk cast L = true) {a : Nat} (ha : a < widN cast L L.length) {P : List (Nat × Nat)} (hP : ladP L a (L.length + 1) = P) :
    Calls Try.prog 9 #[.agg #[.int .i16 cast, .slice A L.length c], .int .i64 (a : Int)] w fun e w' => ∃ v, e = .returned (.tuple #[v, .int .i64 0]) ∧ FL W G cast A c L (lpR v P :: R) w' :=
  (c_iLadderOf a cast A c L w (h.fab (fabV_of hok)) hok ha).mono fun e w' ⟨v, e1, ho, hb⟩ => ⟨v, e1, h.had hb (by rw [ladU_P, hP, List.length_map] at ho; exact ho)⟩
theorem fl_ladS (h : FL W G cast A c L R w) (hok : fabOk cast L = true) {a : Nat} (ha : a < widN cast L L.length) {P : List (Nat × Nat)} (hP : ladP L a (L.length + 1) = P) :
    Calls Try.prog 10 #[.agg #[.int .i16 cast, .slice A L.length c], .int .i64 (a : Int)] w fun e w' => ∃ v, e = .returned (.tuple #[v, .int .i64 0]) ∧ FL W G cast A c L (lpR v P :: R) w' :=
  (c_sLadderOf a cast A c L w (h.fab (fabV_of hok)) hok ha).mono fun e w' ⟨v, e1, ho, hb⟩ => ⟨v, e1, h.had hb (by rw [ladU_P, hP, List.length_map] at ho; exact ho)⟩
theorem fl_same (h : FL W G cast A c L R w) {v u : Value} {P : List (Nat × Nat)} (hv : lpR v P ∈ R) (hu : lpR u P ∈ R) (hn : P.length ≤ 1860) :
    Calls Try.prog 11 #[v, u] w fun e w' => e = .returned (.bool true) ∧ FL W G cast A c L R w' := by
  have h1 := h.r _ hv
  have h2 := h.r _ hu
  rw [← List.length_map (f := ii)] at hn
  exact (c_SameLoops v u W.heap.size W.heap.size (P.map ii) w (by rw [List.length_map]; exact h1) (by rw [List.length_map]; exact h2) (by omega)).mono fun e w' ⟨e1, hb⟩ => ⟨e1, h.below hb⟩
theorem fl_goesTo (h : FL W G cast A c L R w) (hok : fabOk cast L = true) {r x : Nat} (hr : r < L.length) (hx : x < widN cast L r) :
    Calls Try.prog 12 #[.agg #[.int .i16 cast, .slice A L.length c], .agg #[.int .i16 (r : Int), .int .i16 (x : Int)]] w fun e w' => ∃ z : Int, e = .returned (.tuple #[.int .i64 z, .int .i64 0]) ∧ 0 ≤ z ∧ FL W G cast A c L R w' ∧ Below w.heap.size w w' :=
  (c_iGoesTo r x cast A c L w (h.fab (fabV_of hok)) hok hr hx).mono fun e w' ⟨z, e1, hz, hb⟩ => ⟨z, e1, hz, h.below hb, hb⟩
theorem fl_fromOf (h : FL W G cast A c L R w) (hok : fabOk cast L = true) {r x : Nat} (hr : r ≤ L.length) (hx : x < widN cast L r) :
    Calls Try.prog 13 #[.agg #[.int .i16 cast, .slice A L.length c], .agg #[.int .i16 (r : Int), .int .i16 (x : Int)]] w fun e w' => ∃ v, e = .returned (.tuple #[v, .int .i64 0]) ∧ FL W G cast A c L (nmR v (frm L r x) :: R) w' ∧ Below w.heap.size w w' :=
  (c_sFromOf r x cast A c L w (h.fab (fabV_of hok)) hok hr hx).mono fun e w' ⟨v, e1, ho, hb⟩ => ⟨v, e1, h.had hb ho, hb⟩
theorem natL_mem {F : List Nat} {x : Nat} : decide ((x : Int) ∈ natL F) = F.contains x := by
  rw [Bool.eq_iff_iff, decide_eq_true_eq, List.contains_iff_mem, natL, List.mem_map]
  constructor
  · rintro ⟨y, hy, e⟩
    have : y = x := by omega
    exact this ▸ hy
  · intro hx; exact ⟨x, hx, rfl⟩
theorem fl_hasNumber (h : FL W G cast A c L R w) {v : Value} {F : List Nat} (hv : nmR v F ∈ R) (hn : F.length ≤ 60) (x : Nat) :
    Calls Try.prog 14 #[v, .int .i64 (x : Int)] w fun e w' => e = .returned (.bool (F.contains x)) ∧ w = w' := by
  have := c_HasNumber (natL F) (x : Int) v W.heap.size F.length w (h.r _ hv) (by omega)
  rwa [natL_mem] at this
theorem fl_hasLoop (h : FL W G cast A c L R w) {v : Value} {P : List (Nat × Nat)} (hv : lpR v P ∈ R) (hn : P.length ≤ 1860) (r x : Nat) :
    Calls Try.prog 15 #[v, .agg #[.int .i16 (r : Int), .int .i16 (x : Int)]] w fun e w' => e = .returned (.bool (decide ((r, x) ∈ P))) ∧ FL W G cast A c L R w' ∧ Below w.heap.size w w' :=
  (c_HasLoop P r x v W.heap.size w (h.r _ hv) (by omega)).mono fun e w' ⟨e1, hb⟩ => ⟨e1, h.below hb, hb⟩
/-- The upper part of a ladder, as it is caught. -/
theorem catch_part (hok : fabOk cast L = true) {a row : Nat} (ha : a < widN cast L L.length) (hr : row ≤ L.length) {P : List (Nat × Nat)} (hP : ladP L a (L.length + 1) = P) :
    ∃ m, m ≤ P.length ∧ catchF cast L (a : Int) (row : Int) = ((P.take m).map ii, 0) ∧ ∀ i, i < P.length → (i < m ↔ row < (P.getD i (0, 0)).1) := by
  obtain ⟨m, h1, h2, h3⟩ := ladP_part (L := L) (a := a) hr
  rw [hP] at h1 h2 h3
  refine ⟨m, h2, ?_, h3⟩
  rw [catch_in hok (by simp [inB]; omega) (by simp [inB]; omega)]
  rw [show (a : Int).toNat = a by simp, show (row : Int).toNat = row by simp, ladU_P, h1]
theorem fl_catchI (h : FL W G cast A c L R w) (hok : fabOk cast L = true) {a row : Nat} {U : List (Nat × Nat)} (hU : catchF cast L (a : Int) (row : Int) = (U.map ii, 0)) :
    Calls Try.prog 17 #[.agg #[.int .i16 cast, .slice A L.length c], .int .i64 (a : Int), .int .i64 (row : Int)] w fun e w' => ∃ v, e = .returned (.tuple #[v, .int .i64 0]) ∧ FL W G cast A c L (lpR v U :: R) w' :=
  (c_iCatchLoop cast (a : Int) (row : Int) A c L w (h.fab (fabV_of hok))).mono fun e w' ⟨v, e1, ho, hb⟩ => ⟨v, by rw [hU] at e1; exact e1, h.had hb (by rw [hU] at ho; dsimp only at ho; rw [List.length_map] at ho; exact ho)⟩
theorem fl_catchS (h : FL W G cast A c L R w) (hok : fabOk cast L = true) {a row : Nat} {U : List (Nat × Nat)} (hU : catchF cast L (a : Int) (row : Int) = (U.map ii, 0)) :
    Calls Try.prog 18 #[.agg #[.int .i16 cast, .slice A L.length c], .int .i64 (a : Int), .int .i64 (row : Int)] w fun e w' => ∃ v, e = .returned (.tuple #[v, .int .i64 0]) ∧ FL W G cast A c L (lpR v U :: R) w' :=
  (c_sCatchLoop cast (a : Int) (row : Int) A c L w (h.fab (fabV_of hok))).mono fun e w' ⟨v, e1, ho, hb⟩ => ⟨v, by rw [hU] at e1; exact e1, h.had hb (by rw [hU] at ho; dsimp only at ho; rw [List.length_map] at ho; exact ho)⟩
theorem fl_graft (h : FL W G cast A c L R w) (hok : fabOk cast L = true) {M : Nat} (hM : widN cast L L.length = M) (h0 : 0 < M) :
    Calls Try.prog 19 #[.agg #[.int .i16 cast, .slice A L.length c], .agg #[.int .i16 (M : Int), .slice none 0 0], .int .i64 2] w fun e w' => e = .returned (.tuple #[.int .i64 (6 * (M : Int)), .int .i64 0]) ∧ FL W G cast A c L R w' ∧ Below w.heap.size w w' := by
  subst hM
  exact (c_iGraftLength cast A c L w (h.fab (fabV_of hok)) hok h0).mono fun e w' ⟨e1, hb⟩ => ⟨e1, h.below hb, hb⟩
theorem fl_repeat (h : FL W G cast A c L R w) (hok : fabOk cast L = true) {M : Nat} (hM : widN cast L L.length = M) :
    Calls Try.prog 20 #[.agg #[.int .i16 cast, .slice A L.length c], .string ⟨#[107]⟩] w fun e w' => e = .returned (.tuple #[.string (str (List.replicate M 107)), .int .i64 0]) ∧ FL W G cast A c L R w' := by
  subst hM
  exact (c_iRepeatRow cast A c L w (h.fab (fabV_of hok)) hok).mono fun e w' ⟨e1, hb⟩ => ⟨e1, h.below hb⟩
end
/-- Whether a loop hangs on one of so many. -/
def hangB (L : List (List UInt8)) (P : List (Nat × Nat)) (r x j : Nat) : Bool := (List.range j).any fun a => decide ((P.getD a (0, 0)).1 = r + 1) && (frm L (P.getD a (0, 0)).1 (P.getD a (0, 0)).2).contains x
theorem hangB_succ (L : List (List UInt8)) (P : List (Nat × Nat)) (r x j : Nat) : hangB L P r x (j + 1) = (hangB L P r x j || (decide ((P.getD j (0, 0)).1 = r + 1) && (frm L (P.getD j (0, 0)).1 (P.getD j (0, 0)).2).contains x)) := by
  simp only [hangB, List.range_succ, List.any_append, List.any_cons, List.any_nil, Bool.or_false]
/-- Whether one of so many keeps a loop. -/
def keptB (L : List (List UInt8)) (P : List (Nat × Nat)) (r y o : Nat) : Bool := (List.range o).any fun o => (frm L r o).contains y && !decide ((r, o) ∈ P)
theorem keptB_succ (L : List (List UInt8)) (P : List (Nat × Nat)) (r y o : Nat) : keptB L P r y (o + 1) = (keptB L P r y o || ((frm L r o).contains y && !decide ((r, o) ∈ P))) := by
  simp only [keptB, List.range_succ, List.any_append, List.any_cons, List.any_nil, Bool.or_false]
/-- The cells that a region reads: the fabric's, and some others. -/
abbrev LS3 (G : Nat) (cast : Int) (A : Option Addr) (n c : Nat) (g i : Nat) (v : Value) (w' : World) : Prop := (w'.cell? ⟨G, 0, none⟩ = some (.int .i16 cast) ∧ w'.cell? ⟨G, 1, none⟩ = some (.slice A n c)) ∧ w'.cell? ⟨g, i, none⟩ = some v
theorem ls3_below {G n c g i : Nat} {cast : Int} {A : Option Addr} {v : Value} {w' w1 : World} (hb : Below w'.heap.size w' w1) (hc : LS3 G cast A n c g i v w') : LS3 G cast A n c g i v w1 :=
  ⟨⟨(hb.cell (World.block_lt_of_cell? w' _ hc.1.1)).trans hc.1.1, (hb.cell (World.block_lt_of_cell? w' _ hc.1.2)).trans hc.1.2⟩, (hb.cell (World.block_lt_of_cell? w' _ hc.2)).trans hc.2⟩
abbrev LS2 (g i : Nat) (v : Value) (g' i' : Nat) (u : Value) (w' : World) : Prop := w'.cell? ⟨g, i, none⟩ = some v ∧ w'.cell? ⟨g', i', none⟩ = some u
theorem ls2_alloc {g i g' i' : Nat} {v u : Value} {w' : World} (o : Obj) (h : LS2 g i v g' i' u w') : LS2 g i v g' i' u (w'.alloc o) :=
  ⟨((below_alloc (Below.refl w'.heap.size w') o).cell (World.block_lt_of_cell? w' _ h.1)).trans h.1, ((below_alloc (Below.refl w'.heap.size w') o).cell (World.block_lt_of_cell? w' _ h.2)).trans h.2⟩
abbrev LS4 (G : Nat) (cast : Int) (A : Option Addr) (n c : Nat) (g i : Nat) (v u : Value) (w' : World) : Prop := (w'.cell? ⟨G, 0, none⟩ = some (.int .i16 cast) ∧ w'.cell? ⟨G, 1, none⟩ = some (.slice A n c)) ∧ w'.cell? ⟨g, i * 2, none⟩ = some v ∧ w'.cell? ⟨g, i * 2 + 1, none⟩ = some u
theorem ls4_below {G n c g i : Nat} {cast : Int} {A : Option Addr} {v u : Value} {w' w1 : World} (hb : Below w'.heap.size w' w1) (hc : LS4 G cast A n c g i v u w') : LS4 G cast A n c g i v u w1 :=
  ⟨⟨(hb.cell (World.block_lt_of_cell? w' _ hc.1.1)).trans hc.1.1, (hb.cell (World.block_lt_of_cell? w' _ hc.1.2)).trans hc.1.2⟩, (hb.cell (World.block_lt_of_cell? w' _ hc.2.1)).trans hc.2.1, (hb.cell (World.block_lt_of_cell? w' _ hc.2.2)).trans hc.2.2⟩
end Go.Proofs.Ytepdgbgolopejaa
