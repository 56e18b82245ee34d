/- Laws on memory that the walks of this seat use: arrays as values, whole stores, blocks known whole. -/
import Derived.Test.YtepdgbgolopejaaFlat2
import Derived.Maps.AppendAt
import Derived.Deep.AppendLies
namespace Go.Proofs.Ytepdgbgolopejaa
open Go.RowKit
set_option linter.unusedVariables false
set_option linter.unusedSimpArgs false

/-- Number j of a list; 0 behind its end. -/
def gi (xs : List Int) (j : Nat) : Int := xs.getD j 0

section
variable {P : Program}

/-- An element of an array that is a value, read at a number. -/
theorem run_index_arr {t e : TypeId} {n : Nat} {k : IntKind} (ht : P.underlying t = some (.array n e)) (he : P.underlying e = some (.int k)) (hs : (P.info? e).map (·.size) = some 1)
    (w : World) (cs : Array Value) (j : Nat) (hj : j < n) (u : Value) (hu : cs[j]? = some u) (kd : IntKind) : (Instr.index t (.agg cs) (.int kd (j : Int))).run P w = .ok u w := by
  obtain ⟨i0, hi, hsz⟩ := Option.map_eq_some_iff.1 hs
  simp [Instr.index, asIntOf, Sem.run_bind, run_underlying ht, sizeOf, typeInfo, hi, hsz, part, isAgg, run_underlying he, hj, hu]
end

/-- Only block g has been written. -/
structure Tou (g : Nat) (w w1 : World) : Prop where
  os : w1.os = w.os
  tape : w1.tape = w.tape
  output : w1.output = w.output
  size : w1.heap.size = w.heap.size
  block : ∀ k, k ≠ g → w1.heap[k]? = w.heap[k]?
theorem Tou.below {g B : Nat} {w w1 : World} (h : Tou g w w1) (hB : B ≤ g) : Below B w w1 :=
  ⟨h.os, h.tape, h.output, by rw [h.size]; exact Nat.le_refl _, fun k hk => h.block k (by omega)⟩
theorem Tou.setRow (w : World) (g : Nat) (cs : Array Value) : Tou g w (w.setRow g cs) := ⟨rfl, rfl, rfl, by simp, fun k hk => setRow_other w g k cs hk⟩
theorem Tou.setCell (w : World) (g i : Nat) (u : Value) : Tou g w (w.setCell ⟨g, i, none⟩ u) := ⟨rfl, rfl, rfl, by simp, fun k hk => Below.heap_setCell w _ u k hk⟩
theorem blk_tou {g k : Nat} {w w1 : World} {o : Obj} (h : w.heap[k]? = some o) (ht : Tou g w w1) (hk : k ≠ g) : w1.heap[k]? = some o := (ht.block k hk).trans h
theorem blk_lt {w : World} {g : Nat} {o : Obj} (h : w.heap[g]? = some o) : g < w.heap.size := (Array.getElem?_eq_some_iff.1 h).1
theorem blk_below {w w1 : World} {g : Nat} {o : Obj} (h : w.heap[g]? = some o) (hb : Below w.heap.size w w1) : w1.heap[g]? = some o := (hb.block g (blk_lt h)).trans h
theorem blk_alloc {w : World} {g : Nat} {o : Obj} (h : w.heap[g]? = some o) (o' : Obj) : (w.alloc o').heap[g]? = some o := (Below.heap_alloc w o' g (blk_lt h)).trans h
theorem blk_set {w : World} {g : Nat} {t : TypeId} {cs : Array Value} (h : w.heap[g]? = some (.cells cs t (0, 0))) (i : Nat) (u : Value) : (w.setCell ⟨g, i, none⟩ u).heap[g]? = some (.cells (cs.setIfInBounds i u) t (0, 0)) := by
  simp [World.setCell, Array.getElem?_modify, h]
theorem blk_far {w : World} {g k : Nat} {o : Obj} (h : w.heap[k]? = some o) (hk : k ≠ g) (i : Nat) (u : Value) : (w.setCell ⟨g, i, none⟩ u).heap[k]? = some o := (Below.heap_setCell w _ u k hk).trans h
theorem blk_cell {w : World} {g : Nat} {t : TypeId} {fr : Nat × Nat} {cs : Array Value} (h : w.heap[g]? = some (.cells cs t fr)) (i : Nat) : w.cell? ⟨g, i, none⟩ = cs[i]? := cell_of_row w g i cs t fr h
theorem blk_frozen {w : World} {g : Nat} {t : TypeId} {cs : Array Value} (h : w.heap[g]? = some (.cells cs t (0, 0))) (i : Nat) : w.frozen? ⟨g, i, none⟩ = false := by simp [World.frozen?, h]

/-! ### Numbers copied one by one -/
theorem nums_at {k : IntKind} {xs : List Int} (j : Nat) (h : j < xs.length) : (nums k xs)[j]? = some (.int k (gi xs j)) := by
  simp [nums, gi, List.getD_eq_getElem?_getD, List.getElem?_eq_getElem h]
theorem nums_cell {w : World} {g : Nat} {t : TypeId} {fr : Nat × Nat} {k : IntKind} {xs : List Int} (h : w.heap[g]? = some (.cells (nums k xs).toArray t fr)) (j : Nat) (hj : j < xs.length) : w.cell? ⟨g, j, none⟩ = some (.int k (gi xs j)) := by
  rw [blk_cell h]; simpa using nums_at j hj
theorem nums_set (k : IntKind) (xs : List Int) (j : Nat) (v : Int) : (nums k xs).toArray.setIfInBounds j (.int k v) = (nums k (xs.set j v)).toArray := by
  simp [nums, List.map_set]
theorem nums_one (k : IntKind) (xs : List Int) : (nums k xs).toArray.all (·.oneCell') = true := by
  simp [nums, Value.oneCell']
/-- The first k numbers of xs, and 0 behind them. -/
def half (xs : List Int) (k : Nat) : List Int := xs.take k ++ List.replicate (xs.length - k) 0
theorem half_length (xs : List Int) (k : Nat) (h : k ≤ xs.length) : (half xs k).length = xs.length := by
  simp [half]; omega
theorem half_zero (xs : List Int) : half xs 0 = List.replicate xs.length 0 := by simp [half]
theorem half_all (xs : List Int) : half xs xs.length = xs := by simp [half]
theorem half_set (xs : List Int) (k : Nat) (h : k < xs.length) : (half xs k).set k (gi xs k) = half xs (k + 1) := by
  apply List.ext_getElem?
  intro j
  simp only [half, gi, List.getElem?_set, List.getElem?_append, List.length_take, List.length_append, List.length_replicate, List.getElem?_take, List.getElem?_replicate, List.getD_eq_getElem?_getD, List.getElem?_eq_getElem h]
  by_cases h1 : k = j
  · subst h1
    simp [show k < min (k + 1) xs.length by omega, show k < min k xs.length + (xs.length - k) by omega, List.getElem?_eq_getElem h]
  · rw [if_neg h1]
    by_cases h2 : j < k
    · simp [show j < min k xs.length by omega, show j < min (k + 1) xs.length by omega, show j < k + 1 by omega, h2]
    · by_cases h3 : j < xs.length
      · simp [show ¬ j < min k xs.length by omega, show ¬ j < min (k + 1) xs.length by omega]
        have a1 : j - min k xs.length < xs.length - k := by omega
        have a2 : j - min (k + 1) xs.length < xs.length - (k + 1) := by omega
        simp [a1, a2]
      · simp [show ¬ j < min k xs.length by omega, show ¬ j < min (k + 1) xs.length by omega]
        have a1 : ¬ j - min k xs.length < xs.length - k := by omega
        have a2 : ¬ j - min (k + 1) xs.length < xs.length - (k + 1) := by omega
        simp [a1, a2]

/-! ### Rows of the call's own -/
section
variable {w w1 : World} {base n size : Nat} {e : TypeId} {v : Value} {xs : List Value}
theorem own_base (h : w.ownsRow base e size v n xs) (k : Nat) (hk : v.ownBlock = some k) : base ≤ k := (h.lt k hk).1
theorem own_tou {g : Nat} (h : w.ownsRow base e size v n xs) (ht : Tou g w w1) (hb : g < base) : w1.ownsRow base e size v n xs := by
  refine h.kept (row := some g) ⟨ht.os, ht.tape, ht.output, by rw [ht.size]; exact Nat.le_refl _, fun k _ hk => ht.block k (fun he => hk (by rw [he]))⟩ ?_
  cases hv : v.ownBlock with
  | none => exact .inl rfl
  | some k => exact .inr (fun he => by injection he with he; have := own_base h k hv; omega)
theorem own_below (h : w.ownsRow base e size v n xs) (hb : Below w.heap.size w w1) : w1.ownsRow base e size v n xs :=
  h.kept (row := none) ⟨hb.os, hb.tape, hb.output, hb.size, fun k hk _ => hb.block k hk⟩ (by cases v.ownBlock <;> simp)
theorem blk_grown {k : Nat} {o : Obj} (hb : w.heap[k]? = some o) (hg : w.grownBy w1 v.ownBlock) (h : w.ownsRow base e size v n xs) (hk : k < base) : w1.heap[k]? = some o :=
  (hg.block k (blk_lt hb) (fun he => by have := own_base h k he.symm; omega)).trans hb
theorem below_grown {B : Nat} {w0 : World} (hb : Below B w0 w) (hg : w.grownBy w1 v.ownBlock) (h : w.ownsRow base e size v n xs) (hB : B ≤ base) (hs : B ≤ w.heap.size) : Below B w0 w1 :=
  hb.grown hg hs (fun k hk => by have := own_base h k hk; omega)
theorem own_nil (W : World) (base : Nat) (e : TypeId) (size : Nat) : W.ownsRow base e size (.slice none 0 0) 0 [] := ⟨by simp, .inl ⟨rfl, rfl⟩⟩
end

/-- append(v, x): x, laid in a new block, onto a row of the call's own. -/
theorem ap1 {P : Program} {ops : Array Oper} {rest : List Oper} {o : Oper} {a : Act} {Q : Exit → Act → World → Prop} {W : World} (hgd : o.guard = none) (s x : Operand) (t e : TypeId)
    (ho : o.op = .call { callee := .builtin .append, args := #[s, x], argTypes := #[t, t] }) (z : Value) (size bytes base : Nat)
    (ht : P.underlying t = some (.slice e)) (hinfo : (P.info? e).map (fun i => (i.zero, i.size, i.bytes)) = some (some z, size, bytes)) (hz : z.cells.size = size) (hs0 : 0 < size)
    (v : Value) (n : Nat) (xs : List Value) (news : List Value) (hs : a.eval s = v) {gx : Nat} (hx : a.eval x = .slice (some ⟨gx, 0, none⟩) 1 1) (hgx : gx = W.heap.size) (hn : news.length = size) (h1 : news.all (·.oneCell') = true)
    (hown : W.ownsRow base e size v n xs) (hbase : base ≤ W.heap.size) (hl : (n + 1) * bytes ≤ 140737488355328) (hl2 : n + 1 ≤ 140737488355328)
    (h : ∀ g c w1, w1.ownsRow base e size (.slice (some ⟨g, 0, none⟩) (n + 1) c) (n + 1) (xs ++ news) → W.grownBy w1 v.ownBlock → (some g = v.ownBlock ∨ W.heap.size ≤ g) → wpList P ops Q rest (a.put o.dst (.slice (some ⟨g, 0, none⟩) (n + 1) c)) w1) :
    wpList P ops Q (o :: rest) a (W.alloc (.cells news.toArray e (0, 0))) := by
  subst hgx
  obtain ⟨i0, hi, hzz⟩ := Option.map_eq_some_iff.1 hinfo
  simp only [Prod.mk.injEq] at hzz
  obtain ⟨hz0, hz1, hz2⟩ := hzz
  refine wpList_append_own_at (W.alloc (.cells news.toArray e (0, 0))) hgd s x t ho base e i0 z size bytes ht hi hz0 hz1 hz2 hz hs0 v n xs hs (hown.alloc _) ⟨W.heap.size, 0, none⟩ 1 1 news hx (by simp [hn])
    (World.news_of_block (cs := news.toArray) (t := e) (fr := (0, 0)) (heap_alloc_new W _)) (fun u hu => (List.all_eq_true.1 h1) u hu) (by simp only [maxLen]; omega) hl (by simp; omega) ?_
  intro v1 w1 hown1 hg _ hat
  obtain ⟨g, c, rfl, _, _⟩ := hown1.form (by omega)
  refine h g c w1 hown1 (World.grownBy.trans (World.grownBy_alloc W _ _) hg) ?_
  rcases hat with hat | hat
  · exact .inl hat
  · refine .inr ?_
    simp only [Value.ownBlock, Option.some.injEq, World.size_alloc] at hat
    omega

/-! ### Strings as lists of bytes -/
def str (l : List UInt8) : ByteArray := ⟨l.toArray⟩
theorem str_size (l : List UInt8) : (str l).size = l.length := by simp [str, ByteArray.size]
theorem str_append (a b : List UInt8) : str a ++ str b = str (a ++ b) := by
  unfold str
  apply ByteArray.ext
  simp

def bytesV (l : List UInt8) : List Value := l.map fun c => .int .u8 (c.toNat : Int)
theorem bytesV_append (a b : List UInt8) : bytesV (a ++ b) = bytesV a ++ bytesV b := by simp [bytesV]
theorem strOfNums_bytes (l : List UInt8) : strOfNums (l.map fun c => (c.toNat : Int)) = str l := by
  unfold strOfNums str
  congr 2
  rw [List.map_map]
  conv => rhs; rw [← List.map_id l]
  apply List.map_congr_left
  intro c _
  simp
/-- The string of a row of bytes of the call's own. -/
theorem own_string {P : Program} {w : World} {base : Nat} {e' src dst e : TypeId} {v : Value} {l : List UInt8} (hs : P.underlying src = some (.slice e)) (he : P.underlying e = some (.int .u8)) (hd : P.underlying dst = some .string)
    (h : w.ownsRow base e' 1 v l.length (bytesV l)) : (convert src dst v).run P w = .ok (.string (str l)) w := by
  rcases h.2 with ⟨rfl, h0⟩ | ⟨g, cap, cur, rfl, _⟩
  · obtain rfl : l = [] := List.eq_nil_of_length_eq_zero h0
    exact run_convert_bytes_nil w src e hs he 0 0 dst hd
  · have := run_convert_bytes_arg (P := P) w src e hs he g 0 l.length cap (l.map fun c => (c.toNat : Int)) (by simp) (fun i hi => ?_) dst hd
    · rw [strOfNums_bytes] at this
      exact this
    · have hc := h.cells (g := g) rfl i (.int .u8 ((l.map fun c => (c.toNat : Int)).getD i 0)) (by simp [bytesV, List.getElem?_eq_getElem hi, List.getD_eq_getElem?_getD])
      have ha : (⟨g, 0, none⟩ : Addr).add i = ⟨g, 0 + i, none⟩ := by unfold Addr.add; split <;> simp_all
      rwa [ha] at hc

/-! ### Bytes bit by bit -/
theorem u8_and1_fin : ∀ a : Fin 256, bits .and .u8 (a.val : Int) 1 = (a.val : Int) % 2 := by decide +kernel
theorem u8_and1 (a : Int) (h0 : 0 ≤ a) (h1 : a ≤ 255) : bits .and .u8 a 1 = a % 2 := by
  have := u8_and1_fin ⟨a.toNat, by omega⟩
  simp only at this
  rwa [Int.toNat_of_nonneg h0] at this
end Go.Proofs.Ytepdgbgolopejaa
