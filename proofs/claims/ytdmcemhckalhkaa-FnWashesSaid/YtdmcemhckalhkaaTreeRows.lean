/- Nodes of the tree of washes as they lie in memory; lists of washes copied. -/
import Derived.Test.YtdmcemhckalhkaaTreePure
import Derived.Test.YtdmcemhckalhkaaWashAll
import Derived.Deep.AppendLies
import Derived.Deep.RegionLaw
import Derived.Deep.DeepAppendWide
import Derived.Lib.SliceRun
import Derived.Laws.IdiomCopy
namespace Go.Proofs.Ytdmcemhckalhkaa
open Go.RowKit
set_option linter.unusedVariables false
set_option linter.unusedSimpArgs false
set_option maxRecDepth 100000

structure Nd where
  c : Cl
  o : List Int
def kidN (p q r : Nat → Int) (x : Nd) (k : Nat) : Nd := ⟨washC x.c (p k) (q k) (r k), x.o ++ [(k : Int)]⟩
def kidsN (n : Nat) (p q r : Nat → Int) (x : Nd) : List Nd := (List.range n).map (kidN p q r x)
theorem kidsN_len (n : Nat) (p q r : Nat → Int) (x : Nd) : (kidsN n p q r x).length = n := by simp [kidsN]
/-- A node m levels below the root. -/
structure NdOk (n m : Nat) (x : Nd) : Prop where
  c : x.c.Ok
  o : x.o.length = m
theorem kidsN_ok {n : Nat} {p q r : Nat → Int} (hg : ∀ j, j < n → (0 ≤ p j ∧ p j ≤ 9) ∧ (0 ≤ q j ∧ q j ≤ 9) ∧ (0 ≤ r j ∧ r j ≤ 9)) : ∀ m x, NdOk n m x → ∀ y ∈ kidsN n p q r x, NdOk n (m + 1) y := by
  intro m x hx y hy
  obtain ⟨k, hk, rfl⟩ := List.mem_map.1 hy
  obtain ⟨g1, g2, g3⟩ := hg k (List.mem_range.1 hk)
  exact ⟨washC_ok hx.c g1 g2 g3, by simp [kidN, hx.o]⟩
theorem kids_take (p q r : Nat → Int) (x : Nd) (k : Nat) : (List.range (k + 1)).map (kidN p q r x) = (List.range k).map (kidN p q r x) ++ [kidN p q r x k] := by
  simp [List.range_succ]

/-- The cells of a node: of the reference (the cloth first), of the program (the list first). -/
def cellsS (x : Nd × Value) : List Value := [.int .i16 x.1.c.a, .int .i16 x.1.c.b, .int .i8 x.1.c.c, .int .i8 x.1.c.d, .int .i8 x.1.c.e, x.2]
def cellsI (x : Nd × Value) : List Value := [x.2, .int .i16 x.1.c.a, .int .i16 x.1.c.b, .int .i8 x.1.c.c, .int .i8 x.1.c.d, .int .i8 x.1.c.e]
def rowS (L : List (Nd × Value)) : List Value := (L.map cellsS).flatten
def rowI (L : List (Nd × Value)) : List Value := (L.map cellsI).flatten
theorem rowS_snoc (L : List (Nd × Value)) (x : Nd × Value) : rowS (L ++ [x]) = rowS L ++ cellsS x := by simp [rowS]
theorem rowI_snoc (L : List (Nd × Value)) (x : Nd × Value) : rowI (L ++ [x]) = rowI L ++ cellsI x := by simp [rowI]
theorem rowS_get {L : List (Nd × Value)} {k : Nat} {x : Nd × Value} (hk : L[k]? = some x) {j : Nat} {u : Value} (hj : (cellsS x)[j]? = some u) : (rowS L)[k * 6 + j]? = some u := by
  have hl := (List.getElem?_eq_some_iff.1 hk).1
  have hj6 : j < 6 := (List.getElem?_eq_some_iff.1 hj).1
  have h := flatten_get (sz := 6) (es := L.map cellsS) (by intro c hc; obtain ⟨z, hz, rfl⟩ := List.mem_map.1 hc; rfl) k (by simpa using hl) j hj6
  rw [rowS, h]
  simpa [hk] using hj
theorem rowI_get {L : List (Nd × Value)} {k : Nat} {x : Nd × Value} (hk : L[k]? = some x) {j : Nat} {u : Value} (hj : (cellsI x)[j]? = some u) : (rowI L)[k * 6 + j]? = some u := by
  have hl := (List.getElem?_eq_some_iff.1 hk).1
  have hj6 : j < 6 := (List.getElem?_eq_some_iff.1 hj).1
  have h := flatten_get (sz := 6) (es := L.map cellsI) (by intro c hc; obtain ⟨z, hz, rfl⟩ := List.mem_map.1 hc; rfl) k (by simpa using hl) j hj6
  rw [rowI, h]
  simpa [hk] using hj

/-- Each node's list lies in a row of the call's own. -/
def Orders (w : World) (base : Nat) (L : List (Nd × Value)) : Prop := ∀ x ∈ L, w.ownsRow base 2 1 x.2 x.1.o.length (nums .i64 x.1.o)
def Filled (L : List (Nd × Value)) : Prop := ∀ x ∈ L, ∃ g c, x.2 = .slice (some ⟨g, 0, none⟩) x.1.o.length c
theorem Orders.below {w w1 : World} {base : Nat} {L : List (Nd × Value)} (h : Orders w base L) (hb : Below w.heap.size w w1) : Orders w1 base L := fun x hx => own_below (h x hx) hb
theorem Orders.alloc {w : World} {base : Nat} {L : List (Nd × Value)} (h : Orders w base L) (o : Obj) : Orders (w.alloc o) base L := fun x hx => (h x hx).alloc o
theorem Orders.drew {w : World} {base : Nat} {L : List (Nd × Value)} (h : Orders w base L) : Orders w.drew base L := fun x hx => own_drew (h x hx)
theorem Orders.tou {w w1 : World} {base g : Nat} {L : List (Nd × Value)} (h : Orders w base L) (ht : Tou g w w1) (hg : ∀ x ∈ L, x.2.ownBlock ≠ some g) : Orders w1 base L := fun x hx =>
  (h x hx).kept (row := some g) ⟨ht.os, ht.tape, ht.output, by rw [ht.size]; exact Nat.le_refl _, fun k _ hk => ht.block k (fun he => hk (by rw [he]))⟩ (.inr (hg x hx))
theorem own_differ {w : World} {b b' e e' s s' n n' : Nat} {v u : Value} {xs ys : List Value} (h : w.ownsRow b e s v n xs) (h' : w.ownsRow b' e' s' u n' ys) (he : e ≠ e') : v.ownBlock = none ∨ v.ownBlock ≠ u.ownBlock := by
  rcases h.2 with ⟨rfl, _⟩ | ⟨g, c, cur, rfl, _, hg, _⟩
  · exact .inl rfl
  · rcases h'.2 with ⟨rfl, _⟩ | ⟨g', c', cur', rfl, _, hg', _⟩
    · exact .inr (by simp [Value.ownBlock])
    · refine .inr ?_
      simp only [Value.ownBlock, ne_eq, Option.some.injEq]
      intro e1
      subst e1
      rw [hg] at hg'
      simp only [Option.some.injEq, Obj.cells.injEq] at hg'
      exact he hg'.2.1
/-- A row of nodes has grown. -/
theorem Orders.row {w w1 : World} {base b e s n : Nat} {v : Value} {xs : List Value} {L : List (Nd × Value)} (h : Orders w base L) (hv : w.ownsRow b e s v n xs) (hg : w.grownBy w1 v.ownBlock) (he : e ≠ 2) : Orders w1 base L := fun x hx =>
  (h x hx).kept hg (own_differ (h x hx) hv (Ne.symm he))
/-- A younger list has grown. -/
theorem Orders.list {w w1 : World} {base N : Nat} {v : Value} {L : List (Nd × Value)} (h : Orders w base L) (hn : ∀ x ∈ L, apart x.2 v) (hg : w.grownBy w1 v.ownBlock) : Orders w1 base L := fun x hx =>
  (h x hx).kept hg (hn x hx).ne
theorem Orders.apart {w : World} {base N : Nat} {v : Value} {L : List (Nd × Value)} (h : Orders w base L) (hN : w.heap.size ≤ N) (hv : ∀ k, v.ownBlock = some k → N ≤ k) : ∀ x ∈ L, apart x.2 v := fun x hx => apart_of (own_lo (h x hx) hN) hv
theorem Orders.snoc {w : World} {base : Nat} {L : List (Nd × Value)} {x : Nd × Value} (h : Orders w base L) (hx : w.ownsRow base 2 1 x.2 x.1.o.length (nums .i64 x.1.o)) : Orders w base (L ++ [x]) := fun y hy => by
  rcases List.mem_append.1 hy with hy | hy
  · exact h y hy
  · obtain rfl : y = x := by simpa using hy
    exact hx
theorem Filled.snoc {L : List (Nd × Value)} {x : Nd × Value} (h : Filled L) (hx : ∃ g c, x.2 = .slice (some ⟨g, 0, none⟩) x.1.o.length c) : Filled (L ++ [x]) := fun y hy => by
  rcases List.mem_append.1 hy with hy | hy
  · exact h y hy
  · obtain rfl : y = x := by simpa using hy
    exact hx
theorem row_grown {w w1 : World} {b e s n b' e' s' n' : Nat} {v u : Value} {xs ys : List Value} (h : w.ownsRow b e s v n xs) (h' : w.ownsRow b' e' s' u n' ys) (he : e ≠ e') (hg : w.grownBy w1 u.ownBlock) : w1.ownsRow b e s v n xs := h.kept hg (own_differ h h' he)

/-- 'append', as a row of the walk. -/
theorem ev_append_own64 {P : Program} {ops : Array Oper} {rest : List Oper} {o : Oper} {a : Act} {w : World} {Q : Exit → Act → World → Prop} (hg : o.guard = none) (s x : Operand) (t : TypeId) (hop : o.op = Op.call { callee := Callee.builtin Builtin.append, args := #[s, x], argTypes := #[t, t] })
    (e : TypeId) (z : Value) (size bytes : Nat) (h1 : P.underlying t = some (.slice e)) (hinfo : (P.info? e).map (fun i => (i.zero, i.size, i.bytes)) = some (some z, size, bytes)) (h6 : z.cells.size = size) (h7 : 0 < size)
    (base : Nat) (v : Value) (n : Nat) (xs : List Value) (hs : a.eval s = v) (hown : w.ownsRow base e size v n xs)
    (ad : Addr) (m c : Nat) (news : List Value) (hx : a.eval x = .slice (some ad) m c) (hn : news.length = m * size) (hc : ∀ j u, news[j]? = some u → w.cell? (ad.add j) = some u) (h1c : ∀ u ∈ news, u.oneCell' = true)
    (b1 : n + m ≤ maxLen) (b2 : (n + m) * bytes ≤ 140737488355328) (hbase : base ≤ w.heap.size)
    (hK : ∀ v' w', w'.ownsRow base e size v' (n + m) (xs ++ news) → w.grownBy w' v.ownBlock → wpList P ops Q rest (a.put o.dst v') w') : wpList P ops Q (o :: rest) a w := by
  obtain ⟨i0, hi, hzz⟩ := Option.map_eq_some_iff.1 hinfo
  simp only [Prod.mk.injEq] at hzz
  obtain ⟨hz0, hz1, hz2⟩ := hzz
  refine wpList_plain hg fun K hK' => ?_
  obtain ⟨v', w', hrun, r1, r2, _⟩ := run_append_own (P := P) w base t o.type e i0 z size bytes h1 hi hz0 hz1 hz2 h6 h7 v n xs hown ad m c news hn hc h1c b1 b2 hbase
  unfold Oper.wp
  simp [execOp, hop, resolve, invoke, builtin, hs, hx, hrun, Result.andThen]
  exact hK' _ _ (hK v' w' r1 r2)

/-- append onto a row of the call's own, as one step of a region that draws. -/
theorem step_append_own64 {P : Program} {ops : Array Oper} {o : Oper} {a : Act} {w : World} {K : Act → World → Prop} {Q : Exit → Act → World → Prop} {E : Prop}
    (hg : o.guard = none) (s x : Operand) (t : TypeId) (hop : o.op = Op.call { callee := Callee.builtin Builtin.append, args := #[s, x], argTypes := #[t, t] })
    (e : TypeId) (z : Value) (size bytes : Nat) (h1 : P.underlying t = some (.slice e)) (hinfo : (P.info? e).map (fun i => (i.zero, i.size, i.bytes)) = some (some z, size, bytes)) (h6 : z.cells.size = size) (h7 : 0 < size)
    (base : Nat) (v : Value) (n : Nat) (xs : List Value) (hs : a.eval s = v) (hown : w.ownsRow base e size v n xs)
    (ad : Addr) (m c : Nat) (news : List Value) (hx : a.eval x = .slice (some ad) m c) (hn : news.length = m * size) (hc : ∀ j u, news[j]? = some u → w.cell? (ad.add j) = some u) (h1c : ∀ u ∈ news, u.oneCell' = true)
    (b1 : n + m ≤ maxLen) (b2 : (n + m) * bytes ≤ 140737488355328) (hbase : base ≤ w.heap.size)
    (hK : ∀ v' w', w'.ownsRow base e size v' (n + m) (xs ++ news) → w.grownBy w' v.ownBlock → K (a.put o.dst v') w') :
    if Region.wanted o (yielded ops a.tmps) = true then Oper.wp P o a w K Q else E := by
  have hw : Region.wanted o (yielded ops a.tmps) = true := by simp [Region.wanted, hg]
  rw [if_pos hw]
  obtain ⟨i0, hi, hzz⟩ := Option.map_eq_some_iff.1 hinfo
  simp only [Prod.mk.injEq] at hzz
  obtain ⟨hz0, hz1, hz2⟩ := hzz
  obtain ⟨v', w', hrun, r1, r2, _⟩ := run_append_own (P := P) w base t o.type e i0 z size bytes h1 hi hz0 hz1 hz2 h6 h7 v n xs hown ad m c news hn hc h1c b1 b2 hbase
  unfold Oper.wp
  simp [execOp, hop, resolve, invoke, builtin, hs, hx, hrun, Result.andThen]
  exact hK v' w' r1 r2

set_option maxHeartbeats 1000000 in
theorem c_l00Own (base g c : Nat) (zs : List Int) (n : Nat) (w : World) (h : w.ownsRow base 2 1 (.slice (some ⟨g, 0, none⟩) n c) n (nums .i64 zs)) (hn : n ≤ 1048576) :
    Calls Try.prog 63 #[.slice (some ⟨g, 0, none⟩) n c] w fun u w' => ∃ v, u = .returned v ∧ w'.ownsRow w.heap.size 2 1 v n (nums .i64 zs) ∧ Below w.heap.size w w' := by
  have HF : Hid (∀ j u, (nums .i64 zs)[j]? = some u → (w.alloc (.cells #[] 2 (0, 0))).cell? ((⟨g, 0, none⟩ : Addr).add j) = some u) := fun j u hu => by
    rw [show (⟨g, 0, none⟩ : Addr).add j = ⟨g, j, none⟩ by unfold Addr.add; split <;> simp_all]; exact (own_get (h.alloc _) hu).1
  have HL : Hid ((nums .i64 zs).length = n * 1) := h.1
  clear h
  have HO := Lib.hid (own_empty (base := w.heap.size) (size := 1) (heap_alloc_new w (.cells #[] 2 (0, 0))) (Nat.le_refl _))
  have HB1 : Hid (Below w.heap.size w (w.alloc (.cells #[] 2 (0, 0)))) := below_alloc (Below.refl _ _) _
  have one1 : Hid (∀ u ∈ nums .i64 zs, u.oneCell' = true) := fun u hu => List.all_eq_true.1 (nums_oneL .i64 zs) u hu
  have m1 : Hid (0 + n ≤ maxLen) := by rw [Hid]; simp only [maxLen]; omega
  have m2 : Hid ((0 + n) * 8 ≤ 140737488355328) := by rw [Hid]; omega
  go_enter Try.func63, Try.ntmps63
  go_wp2_with (at_builtin; go_loud (refine ev_append_own64 rfl (.tmp 3) (.tmp 4) 32 rfl 2 (.int .i64 0) 1 8 Try.underlying32 (by kernel_rfl) rfl (by decide) (w.heap.size) (.slice (some ⟨w.heap.size, 0, none⟩) 0 0) 0 [] rfl HO.out ⟨g, 0, none⟩ n c (nums .i64 zs) rfl HL.out HF.out one1.out m1.out m2.out HB1.out.size ?_; intro v2 w2 hO2 hG2; have HB2 := Lib.hid (below_grown HB1.out hG2 HO.out (Nat.le_refl _) HB1.out.size); have HO2 := Lib.hid hO2; clear hO2 hG2))
  refine bodyPost_ret (v := v2) (by simp [results, Try.results63, go_sem]) rfl ⟨_, rfl, ?_, HB2.out⟩
  have hfin := HO2.out
  rw [List.nil_append, Nat.zero_add] at hfin
  exact hfin
set_option maxHeartbeats 1000000 in
theorem c_clone64 (base : Nat) (v0 : Value) (zs : List Int) (n : Nat) (w : World) (h : w.ownsRow base 2 1 v0 n (nums .i64 zs)) (hn : n ≤ 1048576) :
    Calls Try.prog 69 #[v0] w fun u w' => ∃ v, u = .returned v ∧ w'.ownsRow w.heap.size 2 1 v n (nums .i64 zs) ∧ Below w.heap.size w w' := by
  rcases h.2 with ⟨rfl, rfl⟩ | ⟨g, c, cur, rfl, _⟩
  · obtain rfl : zs = [] := by have := h.1; simpa [nums] using this
    clear h
    have hnil : ∀ w : World, (binOp .eql 32 (.slice none 0 0) (.slice none 0 0)).run Try.prog w = .ok (.bool true) w := fun w => Lib.run_eql_slice_nil w 32 2 none 0 0 0 0 Try.underlying32
    go_enter Try.func69, Try.ntmps69
    go_wp2
    refine bodyPost_ret (v := .slice none 0 0) (by simp [results, Try.results69, go_sem]) rfl ⟨_, rfl, own_nil _ _ _ _, Below.refl _ _⟩
  have HF : Hid (∀ j u, (nums .i64 zs)[j]? = some u → (w.alloc (.cells #[] 2 (0, 0))).cell? ((⟨g, 0, none⟩ : Addr).add j) = some u) := fun j u hu => by
    rw [show (⟨g, 0, none⟩ : Addr).add j = ⟨g, j, none⟩ by unfold Addr.add; split <;> simp_all]; exact (own_get (h.alloc _) hu).1
  have HL : Hid ((nums .i64 zs).length = n * 1) := h.1
  clear h
  have HO := Lib.hid (own_empty (base := w.heap.size) (size := 1) (heap_alloc_new w (.cells #[] 2 (0, 0))) (Nat.le_refl _))
  have HB1 : Hid (Below w.heap.size w (w.alloc (.cells #[] 2 (0, 0)))) := below_alloc (Below.refl _ _) _
  have one1 : Hid (∀ u ∈ nums .i64 zs, u.oneCell' = true) := fun u hu => List.all_eq_true.1 (nums_oneL .i64 zs) u hu
  have m1 : Hid (0 + n ≤ maxLen) := by rw [Hid]; simp only [maxLen]; omega
  have m2 : Hid ((0 + n) * 8 ≤ 140737488355328) := by rw [Hid]; omega
  have hnil : ∀ w : World, (binOp .eql 32 (.slice (some ⟨g, 0, none⟩) n c) (.slice none 0 0)).run Try.prog w = .ok (.bool false) w := fun w => Lib.run_eql_slice_nil w 32 2 (some ⟨g, 0, none⟩) n c 0 0 Try.underlying32
  go_enter Try.func69, Try.ntmps69
  go_wp2_with (at_builtin; go_loud (refine ev_append_own64 rfl (.tmp 5) (.tmp 6) 32 rfl 2 (.int .i64 0) 1 8 Try.underlying32 (by kernel_rfl) rfl (by decide) (w.heap.size) (.slice (some ⟨w.heap.size, 0, none⟩) 0 0) 0 [] rfl HO.out ⟨g, 0, none⟩ n c (nums .i64 zs) rfl HL.out HF.out one1.out m1.out m2.out HB1.out.size ?_; intro v2 w2 hO2 hG2; have HB2 := Lib.hid (below_grown HB1.out hG2 HO.out (Nat.le_refl _) HB1.out.size); have HO2 := Lib.hid hO2; clear hO2 hG2))
  refine bodyPost_ret (v := v2) (by simp [results, Try.results69, go_sem]) rfl ⟨_, rfl, ?_, HB2.out⟩
  have hfin := HO2.out
  rw [List.nil_append, Nat.zero_add] at hfin
  exact hfin
end Go.Proofs.Ytdmcemhckalhkaa
