/- Texts laid together: SameHas, Undo. -/
import Derived.Test.YtjhifpidbobmaaaGreatDoorMg09
import Derived.Test.YtjhifpidbobmaaaGreatDoorMg15
import Derived.Test.YtjhifpidbobmaaaGreatDoorMg05
import Derived.Test.YtjhifpidbobmaaaGreatDoorMg12
import Derived.Deep.RegionLaw
import Derived.Deep.DeepAppendWide
import Derived.Lib.SliceRun
import Derived.Laws.IdiomCopy
/- Lists of numbers compared and searched by the reference. -/
namespace Go.Proofs.YtjhifpidbobmaaaGreatDoor
open Go.RowKit
set_option linter.unusedVariables false
set_option linter.unusedSimpArgs false
set_option maxRecDepth 100000

set_option maxHeartbeats 800000 in
theorem c_l00Same (A B : Option Addr) (n c c' : Nat) (zs : List Int) (w : World) (h : RdRow w A (nums .i64 zs)) (h' : RdRow w B (nums .i64 zs)) (hl : zs.length = n) (hn : n ≤ 1048576) :
    Calls Tryz.prog 57 #[.slice A n c, .slice B n c'] w fun e w' => e = .returned (.bool true) ∧ Below w.heap.size w w' := by
  have H := Lib.hid h
  have H' := Lib.hid h'
  have HL := Lib.hid hl
  clear h h' hl
  have d0 : ((n : Int) != (n : Int)) = false := by simp
  go_enter Tryz.func57, Tryz.ntmps57
  go_wp2
  go_loopw [5] (fun i wr => ∃ k : Nat, k ≤ n ∧ i = .int .i64 k ∧ Hid (Below w.heap.size w wr)) (fun i _ => n - (intOf i).toNat)
  case atStart => exact ⟨0, by omega, rfl, Below.refl _ _⟩
  case round =>
    obtain ⟨k, hk, rfl, hB⟩ := hrel
    by_cases hlt : k < n
    · have d1 : decide ((k : Int) < (n : Int)) = true := by simp; omega
      obtain ⟨ad, rfl, c0⟩ := (H.out.below hB.out) k _ (nums_get (by rw [HL.out]; exact hlt))
      obtain ⟨ad', rfl, c1⟩ := (H'.out.below hB.out) k _ (nums_get (by rw [HL.out]; exact hlt))
      have k0 : (0 : Int) ≤ (k : Int) := by omega
      have k1 : (k : Int) < (n : Int) := by omega
      go_wp2
      go_quiet (fail)
      go_wp2
      go_roundw
      case rel => exact ⟨k + 1, by omega, by go_num, below_drewN hB.out _⟩
      case measure => simp [intOf]; omega
    · obtain rfl : k = n := by omega
      have d1 : decide ((k : Int) < (k : Int)) = false := by simp
      go_wp2
      go_ret
      exact ⟨rfl, hB.out⟩
end Go.Proofs.YtjhifpidbobmaaaGreatDoor
/- Moves without one of them. -/
namespace Go.Proofs.YtjhifpidbobmaaaGreatDoor
open Go.RowKit
set_option linter.unusedVariables false
set_option linter.unusedSimpArgs false
set_option maxRecDepth 100000

/-! ### Rows of the call's own: written in place, shortened -/
theorem own_setCells {base g c : Nat} {e : TypeId} {size n : Nat} : ∀ (vs : List Value) {w : World} {xs : List Value} (o : Nat), w.ownsRow base e size (.slice (some ⟨g, 0, none⟩) n c) n xs → o + vs.length ≤ n * size →
    (w.setCells g o vs).ownsRow base e size (.slice (some ⟨g, 0, none⟩) n c) n (xs.take o ++ vs ++ xs.drop (o + vs.length))
  | [], w, xs, o, h, _ => by simpa [World.setCells] using h
  | v :: r, w, xs, o, h, ho => by
    simp only [List.length_cons] at ho
    have h1 := own_set h o (by omega) v
    have h2 := own_setCells r (o + 1) h1 (by omega)
    have hl := h.1
    rw [World.setCells]
    have e1 : (xs.set o v).take (o + 1) ++ r ++ (xs.set o v).drop (o + 1 + r.length) = xs.take o ++ (v :: r) ++ xs.drop (o + (v :: r).length) := by
      have a1 : (xs.set o v).take (o + 1) = xs.take o ++ [v] := by
        have ho' : o < xs.length := by omega
        rw [List.take_add_one, List.getElem?_set_self ho', List.take_set, List.set_eq_of_length_le (by simp; omega)]
        rfl
      have a2 : (xs.set o v).drop (o + 1 + r.length) = xs.drop (o + (v :: r).length) := by
        rw [List.drop_set, if_pos (by omega)]
        congr 1; simp; omega
      rw [a1, a2]; simp
    rw [e1] at h2
    exact h2
theorem own_set_out {base g c : Nat} {e : TypeId} {size n : Nat} {w : World} {xs : List Value} (h : w.ownsRow base e size (.slice (some ⟨g, 0, none⟩) n c) n xs) (j : Nat) (hj : n * size ≤ j) (u : Value) :
    (w.setCell ⟨g, j, none⟩ u).ownsRow base e size (.slice (some ⟨g, 0, none⟩) n c) n xs := by
  refine ⟨h.1, ?_⟩
  rcases h.2 with ⟨h0, _⟩ | ⟨g', cap, cur, h0, hb, hblk, h1, h2, h3, h4⟩
  · cases h0
  · cases h0
    refine .inr ⟨g, _, cur.setIfInBounds j u, rfl, hb, blk_set hblk j u, h1, h2, by simp [h3], ?_⟩
    rw [Array.toList_setIfInBounds, List.take_set, List.set_eq_of_length_le (by have := h.1; simp; omega)]
    exact h4
theorem own_setCells_out {base g c : Nat} {e : TypeId} {size n : Nat} : ∀ (vs : List Value) {w : World} {xs : List Value} (o : Nat), w.ownsRow base e size (.slice (some ⟨g, 0, none⟩) n c) n xs → n * size ≤ o →
    (w.setCells g o vs).ownsRow base e size (.slice (some ⟨g, 0, none⟩) n c) n xs
  | [], _, _, _, h, _ => h
  | v :: r, w, xs, o, h, ho => own_setCells_out r (o + 1) (own_set_out h o ho v) (by omega)
theorem below_setCells {base g : Nat} {w0 : World} (hg : base ≤ g) : ∀ (vs : List Value) {w : World} (o : Nat), Below base w0 w → Below base w0 (w.setCells g o vs)
  | [], _, _, h => h
  | v :: r, w, o, h => below_setCells hg r (o + 1) (h.setCell (by simpa using hg) v)
theorem own_shrink {w : World} {base g c : Nat} {e : TypeId} {size n m : Nat} {xs : List Value} (h : w.ownsRow base e size (.slice (some ⟨g, 0, none⟩) n c) n xs) (hm : m ≤ n) :
    w.ownsRow base e size (.slice (some ⟨g, 0, none⟩) m c) m (xs.take (m * size)) := by
  have hms : m * size ≤ n * size := Nat.mul_le_mul_right _ hm
  refine ⟨by rw [List.length_take, h.1, Nat.min_eq_left hms], ?_⟩
  rcases h.2 with ⟨h0, _⟩ | ⟨g', cap, cur, h0, hb, hblk, h1, h2, h3, h4⟩
  · cases h0
  · cases h0
    refine .inr ⟨g, _, cur, rfl, hb, hblk, by omega, h2, h3, ?_⟩
    rw [← h4, List.take_take, Nat.min_eq_left hms]
/-- append onto a row of the call's own, as one step of a region that draws. -/
theorem step_append_own {P : Program} {ops : Array Oper} {o : Oper} {a : Act} {w : World} {K : Act → World → Prop} {Q : Exit → Act → World → Prop} {E : Prop}
    (hg : o.guard = none) (s x : Operand) (t : TypeId) (hop : o.op = Op.call { callee := Callee.builtin Builtin.append, args := #[s, x], argTypes := #[t, t] })
    (e : TypeId) (z : Value) (size bytes : Nat) (h1 : P.underlying t = some (.slice e)) (hinfo : (P.info? e).map (fun i => (i.zero, i.size, i.bytes)) = some (some z, size, bytes)) (h6 : z.cells.size = size) (h7 : 0 < size)
    (base : Nat) (v : Value) (n : Nat) (xs : List Value) (hs : a.eval s = v) (hown : w.ownsRow base e size v n xs)
    (ad : Addr) (m c : Nat) (news : List Value) (hx : a.eval x = .slice (some ad) m c) (hn : news.length = m * size) (hc : ∀ j u, news[j]? = some u → w.cell? (ad.add j) = some u) (h1c : ∀ u ∈ news, u.oneCell' = true)
    (b1 : n + m ≤ maxLen) (b2 : (n + m) * bytes ≤ 140737488355328) (hbase : base ≤ w.heap.size)
    (hK : ∀ v' w', w'.ownsRow base e size v' (n + m) (xs ++ news) → w.grownBy w' v.ownBlock → K (a.put o.dst v') w') :
    if Region.wanted o (yielded ops a.tmps) = true then Oper.wp P o a w K Q else E := by
  have hw : Region.wanted o (yielded ops a.tmps) = true := by simp [Region.wanted, hg]
  rw [if_pos hw]
  obtain ⟨i0, hi, hzz⟩ := Option.map_eq_some_iff.1 hinfo
  simp only [Prod.mk.injEq] at hzz
  obtain ⟨hz0, hz1, hz2⟩ := hzz
  obtain ⟨v', w', hrun, r1, r2, _⟩ := run_append_own (P := P) w base t o.type e i0 z size bytes h1 hi hz0 hz1 hz2 h6 h7 v n xs hown ad m c news hn hc h1c b1 b2 hbase
  unfold Oper.wp
  simp [execOp, hop, resolve, invoke, builtin, hs, hx, hrun, Result.andThen]
  exact hK v' w' r1 r2
/-- 'append', as a row of the walk. -/
theorem ev_append_own {P : Program} {ops : Array Oper} {rest : List Oper} {o : Oper} {a : Act} {w : World} {Q : Exit → Act → World → Prop} (hg : o.guard = none) (s x : Operand) (t : TypeId) (hop : o.op = Op.call { callee := Callee.builtin Builtin.append, args := #[s, x], argTypes := #[t, t] })
    (e : TypeId) (z : Value) (size bytes : Nat) (h1 : P.underlying t = some (.slice e)) (hinfo : (P.info? e).map (fun i => (i.zero, i.size, i.bytes)) = some (some z, size, bytes)) (h6 : z.cells.size = size) (h7 : 0 < size)
    (base : Nat) (v : Value) (n : Nat) (xs : List Value) (hs : a.eval s = v) (hown : w.ownsRow base e size v n xs)
    (ad : Addr) (m c : Nat) (news : List Value) (hx : a.eval x = .slice (some ad) m c) (hn : news.length = m * size) (hc : ∀ j u, news[j]? = some u → w.cell? (ad.add j) = some u) (h1c : ∀ u ∈ news, u.oneCell' = true)
    (b1 : n + m ≤ maxLen) (b2 : (n + m) * bytes ≤ 140737488355328) (hbase : base ≤ w.heap.size)
    (hK : ∀ v' w', w'.ownsRow base e size v' (n + m) (xs ++ news) → w.grownBy w' v.ownBlock → wpList P ops Q rest (a.put o.dst v') w') : wpList P ops Q (o :: rest) a w := by
  obtain ⟨i0, hi, hzz⟩ := Option.map_eq_some_iff.1 hinfo
  simp only [Prod.mk.injEq] at hzz
  obtain ⟨hz0, hz1, hz2⟩ := hzz
  refine wpList_plain hg fun K hK' => ?_
  obtain ⟨v', w', hrun, r1, r2, _⟩ := run_append_own (P := P) w base t o.type e i0 z size bytes h1 hi hz0 hz1 hz2 h6 h7 v n xs hown ad m c news hn hc h1c b1 b2 hbase
  unfold Oper.wp
  simp [execOp, hop, resolve, invoke, builtin, hs, hx, hrun, Result.andThen]
  exact hK' _ _ (hK v' w' r1 r2)

/-- 'clear' of a slice of one element of several cells. -/
theorem run_clear1 {P : Program} {w : World} (t e ty : TypeId) (z : Value) (h1 : P.underlying t = some (.slice e)) (hinfo : (P.info? e).map (fun i => i.zero) = some (some z)) (hone : ∀ v ∈ z.cells.toList, v.oneCell' = true)
    (b off c : Nat) (hc : ∀ j, j < z.cells.size → (w.cell? ⟨b, off + j, none⟩).isSome = true ∧ w.frozen? ⟨b, off + j, none⟩ = false) :
    (Builtin.clear_ #[t] ty #[.slice (some ⟨b, off, none⟩) 1 c]).run P w = .ok (.tuple #[]) (w.setCells b off z.cells.toList) := by
  obtain ⟨i0, hi, hz⟩ := Option.map_eq_some_iff.1 hinfo
  have hzc : (Builtin.zeroCells z.cells 1) = z.cells := by
    apply Array.ext
    · simp [Builtin.zeroCells]
    · intro i h1 h2
      simp [Builtin.zeroCells, Nat.mod_eq_of_lt h2, h2]
  have hst := run_storeCells_cells (P := P) b off z.cells.toList 0 w (fun j hj => (hc j (by simpa using hj)).1) (fun j hj => (hc j (by simpa using hj)).2) hone
  simp only [Nat.add_zero] at hst
  simp [Builtin.clear_, run_underlying h1, zeroValue, typeInfo, hi, hz, hzc, hst]

/-! ### The moves as a list -/
def mvL (s t g : Nat → Int) (o n : Nat) : List (Int × Int × Int) := (List.range n).map fun j => (s (o + j), t (o + j), g (o + j))
theorem mvL_len (s t g : Nat → Int) (o n : Nat) : (mvL s t g o n).length = n := by simp [mvL]
def undoF (n : Nat) (s t g : Nat → Int) (k : Int) : List (Int × Int × Int) × Int :=
  if (allB n (fun j => okMove (s j) (t j) (g j)) && decide (n ≤ 60)) = true then (if inB k 0 ((n : Int) - 1) = true then (mvL s t g 0 k.toNat ++ mvL s t g (k.toNat + 1) (n - (k.toNat + 1)), 0) else ([], 2)) else ([], 1)
theorem undoF_le (n : Nat) (s t g : Nat → Int) (k : Int) : (undoF n s t g k).1.length ≤ 1048576 := by
  unfold undoF
  split
  · rename_i h
    simp only [Bool.and_eq_true, decide_eq_true_eq] at h
    split
    · rename_i hk
      simp only [inB, Bool.and_eq_true, decide_eq_true_eq] at hk
      simp [mvL_len]; omega
    · simp
  · simp
theorem mvL_get {s t g : Nat → Int} {o n j : Nat} (hj : j < n) : (mvRow (mvL s t g o n))[j * 3]? = some (.int .i8 (s (o + j))) ∧ (mvRow (mvL s t g o n))[j * 3 + 1]? = some (.int .i8 (t (o + j))) ∧ (mvRow (mvL s t g o n))[j * 3 + 2]? = some (.int .i16 (g (o + j))) := by
  induction n with
  | zero => omega
  | succ n ih =>
    have e : mvL s t g o (n + 1) = mvL s t g o n ++ [(s (o + n), t (o + n), g (o + n))] := by simp [mvL, List.range_succ]
    have hl : (mvRow (mvL s t g o n)).length = n * 3 := by rw [mvRow_len, mvL_len]
    rw [e, mvRow_snoc]
    by_cases h : j < n
    · obtain ⟨a, b, c⟩ := ih h
      rw [List.getElem?_append_left (by omega), List.getElem?_append_left (by omega), List.getElem?_append_left (by omega)]
      exact ⟨a, b, c⟩
    · obtain rfl : j = n := by omega
      rw [List.getElem?_append_right (by omega), List.getElem?_append_right (by omega), List.getElem?_append_right (by omega), hl]
      refine ⟨?_, ?_, ?_⟩ <;> simp [show j * 3 + 1 - j * 3 = 1 by omega, show j * 3 + 2 - j * 3 = 2 by omega]
theorem mvRow_append (a b : List (Int × Int × Int)) : mvRow (a ++ b) = mvRow a ++ mvRow b := by simp [mvRow]
theorem mvRow_one (L : List (Int × Int × Int)) : ∀ u ∈ mvRow L, u.oneCell' = true := by
  intro u hu
  simp only [mvRow, List.mem_flatten, List.mem_map] at hu
  obtain ⟨l, ⟨z, _, rfl⟩, hu⟩ := hu
  simp only [List.mem_cons, List.not_mem_nil, or_false] at hu
  rcases hu with rfl | rfl | rfl <;> rfl
theorem mvL_split (s t g : Nat → Int) (n k : Nat) (h : k ≤ n) : mvL s t g 0 n = mvL s t g 0 k ++ mvL s t g k (n - k) := by
  apply List.ext_getElem?
  intro j
  by_cases h1 : j < k
  · rw [List.getElem?_append_left (by rw [mvL_len]; exact h1)]
    simp [mvL, h1, show j < n by omega]
  · rw [List.getElem?_append_right (by rw [mvL_len]; omega), mvL_len]
    by_cases h2 : j < n
    · simp [mvL, h2, show j - k < n - k by omega, show k + (j - k) = j by omega]
    · simp [mvL, h2, show ¬ j - k < n - k by omega]
/-- The moves from number o on, read where they lie. -/
theorem moves_cells {w : World} {b n : Nat} {s t g : Nat → Int} (h : MovesAt w (some ⟨b, 0, none⟩) n s t g) {o m : Nat} (hm : o + m ≤ n) : ∀ j u, (mvRow (mvL s t g o m))[j]? = some u → w.cell? ⟨b, o * 3 + j, none⟩ = some u := by
  intro j u hj
  have hl : (mvRow (mvL s t g o m)).length = m * 3 := by rw [mvRow_len, mvL_len]
  have hj1 := (List.getElem?_eq_some_iff.1 hj).1
  obtain ⟨q, r, hq, hr⟩ : ∃ q r, j = q * 3 + r ∧ r < 3 := ⟨j / 3, j % 3, by omega, by omega⟩
  subst hq
  have hqm : q < m := by omega
  obtain ⟨ad, ha, c0, c1, c2⟩ := h.at_ (o + q) (by omega)
  cases ha
  have e1 : (Addr.add ⟨b, 0, none⟩ ((o + q) * 3)) = ⟨b, (o + q) * 3, none⟩ := by unfold Addr.add; split <;> simp_all
  rw [e1] at c0 c1 c2
  obtain ⟨g0, g1, g2⟩ := mvL_get (s := s) (t := t) (g := g) (o := o) hqm
  have hcase : r = 0 ∨ r = 1 ∨ r = 2 := by omega
  rcases hcase with rfl | rfl | rfl
  · rw [Nat.add_zero, g0] at hj; cases hj
    rw [show o * 3 + (q * 3 + 0) = (o + q) * 3 by omega]; exact c0
  · rw [g1] at hj; cases hj
    rw [show o * 3 + (q * 3 + 1) = (o + q) * 3 + 1 by omega]; exact c1
  · rw [g2] at hj; cases hj
    rw [show o * 3 + (q * 3 + 2) = (o + q) * 3 + 2 by omega]; exact c2
theorem addr_at (b o j : Nat) : (Addr.add ⟨b, o, none⟩ j) = ⟨b, o + j, none⟩ := by unfold Addr.add; split <;> simp_all

set_option maxHeartbeats 2000000 in
theorem c_sUndoMove (gb : Nat) (n : Nat) (s t g : Nat → Int) (k : Int) (w : World) (h : MovesAt w (some ⟨gb, 0, none⟩) n s t g) (hn : n ≤ 1048576) (hg : ∀ j, j < n → (-32768 ≤ g j ∧ g j ≤ 32767) ∧ (-128 ≤ s j ∧ s j ≤ 127) ∧ (-128 ≤ t j ∧ t j ≤ 127)) :
    Calls Tryz.prog 24 #[.slice (some ⟨gb, 0, none⟩) n n, .int .i64 k] w fun u w' => ∃ v, u = .returned (.tuple #[v, .int .i64 (undoF n s t g k).2]) ∧ w'.ownsRow w.heap.size 46 3 v (undoF n s t g k).1.length (mvRow (undoF n s t g k).1) ∧ Below w.heap.size w w' := by
  have H := Lib.hid h
  have cv := c_l07Moves (some ⟨gb, 0, none⟩) n n s t g w h hn hg
  have w1' : IntKind.i64.wrap ((n : Int) - 1) = (n : Int) - 1 := IntWalk.i64_in _ (by omega)
  have hE := heap_alloc_new w (.cells #[] 46 (0, 0))
  have HE := Lib.hid hE
  clear h hg hE
  cases q1 : (allB n (fun j => okMove (s j) (t j) (g j)) && decide (n ≤ 60))
  · have E : Hid (undoF n s t g k = ([], 1)) := by rw [Hid, undoF, q1]; rfl
    rw [q1] at cv
    have CV := Lib.hid cv
    clear cv q1
    go_enter Tryz.func24, Tryz.ntmps24
    go_wp2_with (go_at_call 36; ((with_reducible refine CV.out.mono ?_); rintro e w1 ⟨rfl, hb⟩))
    have HO := Lib.hid (own_empty (size := 3) (heap_alloc_new w1 (.cells #[] 46 (0, 0))) hb.size)
    refine bodyPost_ret (v := .tuple #[.slice (some ⟨w1.heap.size, 0, none⟩) 0 0, .int .i64 1]) (by simp [results, Tryz.results24, go_sem]) rfl ⟨_, by rw [E.out], by rw [E.out]; exact HO.out, below_alloc hb _⟩
  · have E : Hid (undoF n s t g k = if inB k 0 ((n : Int) - 1) = true then (mvL s t g 0 k.toNat ++ mvL s t g (k.toNat + 1) (n - (k.toNat + 1)), 0) else ([], 2)) := by rw [Hid, undoF, if_pos q1]
    rw [q1] at cv
    have CV := Lib.hid cv
    clear cv
    have hn60 : n ≤ 60 := by simp only [Bool.and_eq_true, decide_eq_true_eq] at q1; exact q1.2
    clear q1
    cases q2 : inB k 0 ((n : Int) - 1)
    · have E2 : Hid (undoF n s t g k = ([], 2)) := by rw [Hid, E.out, q2]; rfl
      have q2' := Lib.hid q2
      clear q2
      go_enter Tryz.func24, Tryz.ntmps24
      go_wp2_with (first
        | (go_at_call 36; ((with_reducible refine CV.out.mono ?_); rintro e w1 ⟨rfl, hb⟩))
        | (go_at_call 50; ((with_reducible refine (c_l00In _ _ _ _).mono ?_); rintro e w2 ⟨rfl, rfl⟩; rw [q2'.out])))
      have HO := Lib.hid (own_empty (size := 3) (heap_alloc_new w1 (.cells #[] 46 (0, 0))) hb.size)
      refine bodyPost_ret (v := .tuple #[.slice (some ⟨w1.heap.size, 0, none⟩) 0 0, .int .i64 2]) (by simp [results, Tryz.results24, go_sem]) rfl ⟨_, by rw [E2.out], by rw [E2.out]; exact HO.out, below_alloc hb _⟩
    · have E2 : Hid (undoF n s t g k = (mvL s t g 0 k.toNat ++ mvL s t g (k.toNat + 1) (n - (k.toNat + 1)), 0)) := by rw [Hid, E.out, q2]; rfl
      have hk := q2
      simp only [inB, Bool.and_eq_true, decide_eq_true_eq] at hk
      obtain ⟨p, rfl⟩ : ∃ p : Nat, k = (p : Int) := ⟨k.toNat, by omega⟩
      have hp : p < n := by omega
      rw [Int.toNat_natCast] at E2
      have q2' := Lib.hid q2
      clear q2 hk E
      have hwr : IntKind.i64.wrap ((p : Int) + 1) = (p : Int) + 1 := by rw [IntKind.wrap_i64]; omega
      have hp0 : (0 : Int) ≤ (p : Int) + 1 := by omega
      have hp1 : (p : Int) + 1 ≤ (n : Int) := by omega
      have hp2 : ((p : Int) + 1).toNat = p + 1 := by omega
      have p0 : (0 : Int) ≤ (p : Int) := by omega
      have p1 : (p : Int) ≤ (n : Int) := by omega
      go_enter Tryz.func24, Tryz.ntmps24
      go_wp2_with (first
        | (go_at_call 36; ((with_reducible refine CV.out.mono ?_); rintro e w1 ⟨rfl, hb⟩))
        | (go_at_call 50; ((with_reducible refine (c_l00In _ _ _ _).mono ?_); rintro e w2 ⟨rfl, rfl⟩; rw [q2'.out])))
      obtain ⟨A, hA, hAc⟩ : ∃ A : Addr, (if n = p + 1 then some (⟨gb, 0, none⟩ : Addr) else some ⟨gb, (p + 1) * 3, none⟩) = some A ∧ Hid (∀ (wq : World), MovesAt wq (some ⟨gb, 0, none⟩) n s t g → ∀ j u, (mvRow (mvL s t g (p + 1) (n - (p + 1))))[j]? = some u → wq.cell? (A.add j) = some u) := by
        by_cases h : n = p + 1
        · refine ⟨⟨gb, 0, none⟩, by simp [h], fun wq _ j u hu => ?_⟩
          have h0 : (mvRow (mvL s t g (p + 1) (n - (p + 1)))).length = 0 := by rw [mvRow_len, mvL_len]; omega
          rw [List.length_eq_zero_iff.1 h0] at hu
          simp at hu
        · refine ⟨⟨gb, (p + 1) * 3, none⟩, by simp [h], fun wq hq j u hu => ?_⟩
          rw [addr_at]
          exact moves_cells hq (by omega) j u hu
      have HF : Hid (∀ (wq : World), MovesAt wq (some ⟨gb, 0, none⟩) n s t g → ∀ j u, (mvRow (mvL s t g 0 p))[j]? = some u → wq.cell? ((⟨gb, 0, none⟩ : Addr).add j) = some u) := fun wq hq j u hu => by
        rw [addr_at]; have := moves_cells hq (o := 0) (by omega) j u hu; rwa [Nat.zero_mul] at this
      have HO := Lib.hid (own_empty (base := w.heap.size) (heap_alloc_new w1.drew (.cells #[] 46 (0, 0))) (show w.heap.size ≤ w1.drew.heap.size from hb.size) (size := 3))
      have HB1 : Hid (Below w.heap.size w (w1.drew.alloc (.cells #[] 46 (0, 0)))) := below_alloc (below_drew hb) _
      have s1 : Hid ((mvRow (mvL s t g 0 p)).length = p * 3) := by rw [Hid, mvRow_len, mvL_len]
      have s2 : Hid ((mvRow (mvL s t g (p + 1) (n - (p + 1)))).length = (n - (p + 1)) * 3) := by rw [Hid, mvRow_len, mvL_len]
      have one1 := Lib.hid (mvRow_one (mvL s t g 0 p))
      have one2 := Lib.hid (mvRow_one (mvL s t g (p + 1) (n - (p + 1))))
      have m1 : Hid (0 + p ≤ maxLen) := by rw [Hid]; simp only [maxLen]; omega
      have m2 : Hid ((0 + p) * 4 ≤ 140737488355328) := by rw [Hid]; omega
      have m3 : Hid (0 + p + (n - (p + 1)) ≤ maxLen) := by rw [Hid]; simp only [maxLen]; omega
      have m4 : Hid ((0 + p + (n - (p + 1))) * 4 ≤ 140737488355328) := by rw [Hid]; omega
      go_region_law (first
        | (refine step_append_own rfl (.tmp 17) (.tmp 20) 24 rfl 46 (.agg #[.int .i8 0, .int .i8 0, .int .i16 0]) 3 4 Tryz.underlying24 (by kernel_rfl) rfl (by decide) (w.heap.size) (.slice (some ⟨w1.heap.size, 0, none⟩) 0 0) 0 [] (by simp [Act.eval, Act.put]) HO.out ⟨gb, 0, none⟩ p n (mvRow (mvL s t g 0 p)) (by simp [Act.eval, Act.put]) s1.out (HF.out _ (H.out.below HB1.out)) one1.out m1.out m2.out HB1.out.size ?_; intro v2 w2 hO2 hG2; have HB2 := Lib.hid (below_grown HB1.out hG2 HO.out (Nat.le_refl _) HB1.out.size); have HO2 := Lib.hid hO2; clear hO2 hG2)
        | (refine step_append_own rfl (.tmp 21) (.tmp 25) 24 rfl 46 (.agg #[.int .i8 0, .int .i8 0, .int .i16 0]) 3 4 Tryz.underlying24 (by kernel_rfl) rfl (by decide) (w.heap.size) v2 (0 + p) ([] ++ mvRow (mvL s t g 0 p)) (by simp [Act.eval, Act.put]) HO2.out A (n - (p + 1)) (n - (p + 1)) (mvRow (mvL s t g (p + 1) (n - (p + 1)))) (by simp [Act.eval, Act.put]) s2.out (hAc.out _ (H.out.below HB2.out)) one2.out m3.out m4.out HB2.out.size ?_; intro v3 w3 hO3 hG3; have HB3 := Lib.hid (below_grown HB2.out hG3 HO2.out (Nat.le_refl _) HB2.out.size); have HO3 := Lib.hid hO3; clear hO3 hG3))
      all_goals go_wp2
      all_goals refine bodyPost_ret (v := .tuple #[v3, .int .i64 0]) (by simp [results, Tryz.results24, go_sem]) rfl ⟨_, by rw [E2.out], ?_, HB3.out⟩
      all_goals rw [E2.out]
      all_goals have hfin := HO3.out
      all_goals rw [List.nil_append, Nat.zero_add, ← mvRow_append] at hfin
      all_goals rw [List.length_append, mvL_len, mvL_len]
      all_goals exact hfin
theorem c_cloneMove (gb : Nat) (n c : Nat) (s t g : Nat → Int) (w : World) (h : MovesAt w (some ⟨gb, 0, none⟩) n s t g) (hn : n ≤ 60) :
    Calls Tryz.prog 49 #[.slice (some ⟨gb, 0, none⟩) n c] w fun u w' => ∃ v, u = .returned v ∧ w'.ownsRow w.heap.size 46 3 v n (mvRow (mvL s t g 0 n)) ∧ Below w.heap.size w w' := by
  have HF : Hid (∀ (wq : World), MovesAt wq (some ⟨gb, 0, none⟩) n s t g → ∀ j u, (mvRow (mvL s t g 0 n))[j]? = some u → wq.cell? ((⟨gb, 0, none⟩ : Addr).add j) = some u) := fun wq hq j u hu => by
    rw [addr_at]; have := moves_cells hq (o := 0) (by omega) j u hu; rwa [Nat.zero_mul] at this
  have H := Lib.hid h
  clear h
  have HO := Lib.hid (own_empty (base := w.heap.size) (size := 3) (heap_alloc_new w (.cells #[] 46 (0, 0))) (Nat.le_refl _))
  have HB1 : Hid (Below w.heap.size w (w.alloc (.cells #[] 46 (0, 0)))) := below_alloc (Below.refl _ _) _
  have s1 : Hid ((mvRow (mvL s t g 0 n)).length = n * 3) := by rw [Hid, mvRow_len, mvL_len]
  have one1 := Lib.hid (mvRow_one (mvL s t g 0 n))
  have m1 : Hid (0 + n ≤ maxLen) := by rw [Hid]; simp only [maxLen]; omega
  have m2 : Hid ((0 + n) * 4 ≤ 140737488355328) := by rw [Hid]; omega
  have hnil : ∀ w : World, (binOp .eql 24 (.slice (some ⟨gb, 0, none⟩) n c) (.slice none 0 0)).run Tryz.prog w = .ok (.bool false) w := fun w => Lib.run_eql_slice_nil w 24 46 (some ⟨gb, 0, none⟩) n c 0 0 Tryz.underlying24
  go_enter Tryz.func49, Tryz.ntmps49
  go_wp2_with (at_builtin; go_loud (refine ev_append_own rfl (.tmp 5) (.tmp 6) 24 rfl 46 (.agg #[.int .i8 0, .int .i8 0, .int .i16 0]) 3 4 Tryz.underlying24 (by kernel_rfl) rfl (by decide) (w.heap.size) (.slice (some ⟨w.heap.size, 0, none⟩) 0 0) 0 [] rfl HO.out ⟨gb, 0, none⟩ n c (mvRow (mvL s t g 0 n)) rfl s1.out (HF.out _ (H.out.below HB1.out)) one1.out m1.out m2.out HB1.out.size ?_; intro v2 w2 hO2 hG2; have HB2 := Lib.hid (below_grown HB1.out hG2 HO.out (Nat.le_refl _) HB1.out.size); have HO2 := Lib.hid hO2; clear hO2 hG2))
  refine bodyPost_ret (v := v2) (by simp [results, Tryz.results49, go_sem]) rfl ⟨_, rfl, ?_, HB2.out⟩
  have hfin := HO2.out
  rw [List.nil_append, Nat.zero_add] at hfin
  exact hfin
set_option maxHeartbeats 2000000 in
theorem c_delMove (base gb n c p : Nat) (xs : List Value) (w : World) (h : w.ownsRow base 46 3 (.slice (some ⟨gb, 0, none⟩) n c) n xs) (hn : n ≤ 60) (hp : p < n) (h1 : ∀ u ∈ xs, u.oneCell' = true) :
    Calls Tryz.prog 48 #[.slice (some ⟨gb, 0, none⟩) n c, .int .i64 (p : Int), .int .i64 ((p : Int) + 1)] w fun u w' => u = .returned (.slice (some ⟨gb, 0, none⟩) (n - 1) c) ∧ w'.ownsRow base 46 3 (.slice (some ⟨gb, 0, none⟩) (n - 1) c) (n - 1) (xs.take (p * 3) ++ xs.drop ((p + 1) * 3)) ∧ Below base w w' := by
  have hxl := h.1
  have H := Lib.hid h
  obtain ⟨hgb, hnc, hcm⟩ : base ≤ gb ∧ n ≤ c ∧ c ≤ maxLen := by
    rcases h.2 with ⟨h0, _⟩ | ⟨g', cap, cur, h0, hb, hblk, h1, h2, h3, h4⟩
    · cases h0
    · cases h0; exact ⟨hb, h1, h2⟩
  have hcm' : c ≤ 9223372036854775807 := by simpa [maxLen] using hcm
  clear hcm
  have hp0 : (0 : Int) ≤ (p : Int) + 1 := by omega
  have hp1 : (p : Int) + 1 ≤ (n : Int) := by omega
  have hp2 : ((p : Int) + 1).toNat = p + 1 := by omega
  have p0 : (0 : Int) ≤ (p : Int) := by omega
  have p1 : (p : Int) ≤ (n : Int) := by omega
  have p2 : (p : Int) ≤ (p : Int) + 1 := by omega
  have p3 : (n : Int) ≤ (c : Int) := by omega
  have p4 : (p : Int) ≤ (c : Int) := by omega
  have dq : decide ((p : Int) = (p : Int) + 1) = false := by simp; omega
  have dq' : ((p : Int) == (p : Int) + 1) = false := by simp; omega
  clear h
  go_enter Tryz.func48, Tryz.ntmps48
  go_wp2
  obtain ⟨A, hA, hAc⟩ : ∃ A : Addr, (if c = p + 1 then some (⟨gb, 0, none⟩ : Addr) else some ⟨gb, (p + 1) * 3, none⟩) = some A ∧ Hid (∀ j u, (xs.drop ((p + 1) * 3))[j]? = some u → w.drew.cell? (A.add j) = some u) := by
    by_cases hh : c = p + 1
    · refine ⟨⟨gb, 0, none⟩, by simp [hh], fun j u hu => ?_⟩
      have h0 : (xs.drop ((p + 1) * 3)).length = 0 := by rw [List.length_drop, hxl]; omega
      rw [List.length_eq_zero_iff.1 h0] at hu
      simp at hu
    · refine ⟨⟨gb, (p + 1) * 3, none⟩, by simp [hh], fun j u hu => ?_⟩
      rw [addr_at]
      rw [List.getElem?_drop] at hu
      exact (own_get H.out hu).1
  have s1 : Hid ((xs.drop ((p + 1) * 3)).length = (n - (p + 1)) * 3) := by rw [Hid, List.length_drop, hxl]; omega
  have s2 : Hid (∀ u ∈ xs.drop ((p + 1) * 3), u.oneCell' = true) := fun u hu => h1 u (List.mem_of_mem_drop hu)
  have HG : Hid (∀ j, j < n * 3 → (w.drew.cell? ⟨gb, j, none⟩).isSome = true ∧ w.drew.frozen? ⟨gb, j, none⟩ = false) := fun j hj => by
    have hj' : j < xs.length := by rw [hxl]; exact hj
    have := own_get H.out (List.getElem?_eq_getElem hj')
    exact ⟨by show (w.cell? _).isSome = true; rw [this.1]; rfl, this.2⟩
  have s3 : Hid (∀ j, j < (xs.drop ((p + 1) * 3)).length → (w.drew.cell? ⟨gb, 0 + p * 3 + j, none⟩).isSome = true ∧ w.drew.frozen? ⟨gb, 0 + p * 3 + j, none⟩ = false) := fun j hj => by
    rw [s1.out] at hj
    exact HG.out _ (by omega)
  obtain ⟨i0, hi0, hz1⟩ : ∃ i0, Tryz.prog.info? 46 = some i0 ∧ i0.size = 3 := by
    have h : (Tryz.prog.info? 46).map (·.size) = some 3 := by kernel_rfl
    obtain ⟨i0, hi, hz⟩ := Option.map_eq_some_iff.1 h
    exact ⟨i0, hi, hz⟩
  go_region_law (refine step_append_room rfl (.tmp 22) (.tmp 25) 24 rfl 46 i0 3 Tryz.underlying24 hi0 hz1 gb 0 p c (by simp [Act.eval, Act.put]) A (n - (p + 1)) (c - (p + 1)) (xs.drop ((p + 1) * 3)) (by simp [Act.eval, Act.put]) s1.out hAc.out s2.out (by omega) s3.out ?_)
  have hO1 := own_setCells (xs.drop ((p + 1) * 3)) (0 + p * 3) (own_drew H.out) (by rw [s1.out]; omega)
  have hB1 : Below base w (w.drew.setCells gb (0 + p * 3) (xs.drop ((p + 1) * 3))) := below_setCells hgb _ _ (below_drew (Below.refl _ _))
  have HG1 : Hid (∀ j, j < n * 3 → ((w.drew.setCells gb (0 + p * 3) (xs.drop ((p + 1) * 3))).cell? ⟨gb, j, none⟩).isSome = true ∧ (w.drew.setCells gb (0 + p * 3) (xs.drop ((p + 1) * 3))).frozen? ⟨gb, j, none⟩ = false) := fun j hj => by
    have hl1 := hO1.1
    have hj' : j < (List.take (0 + p * 3) xs ++ xs.drop ((p + 1) * 3) ++ List.drop (0 + p * 3 + (xs.drop ((p + 1) * 3)).length) xs).length := by rw [hl1]; exact hj
    have := own_get hO1 (List.getElem?_eq_getElem hj')
    exact ⟨by rw [this.1]; rfl, this.2⟩
  have HO1 := Lib.hid hO1
  have HB1 := Lib.hid hB1
  clear hO1 hB1 HG s3 hAc
  rw [Nat.zero_add] at HO1 HB1 HG1
  generalize w.drew.setCells gb (p * 3) (xs.drop ((p + 1) * 3)) = wa at *
  have HO2 := Lib.hid (own_shrink HO1.out (show n - 1 ≤ n by omega))
  have hpn : p + (n - (p + 1)) = n - 1 := by omega
  have hx2 : List.take ((n - 1) * 3) (List.take (p * 3) xs ++ xs.drop ((p + 1) * 3) ++ List.drop (p * 3 + (xs.drop ((p + 1) * 3)).length) xs) = xs.take (p * 3) ++ xs.drop ((p + 1) * 3) := by
    apply List.take_left'
    rw [List.length_append, List.length_take, List.length_drop, hxl]; omega
  rw [hpn]
  have HO3 : Hid (wa.ownsRow base 46 3 (.slice (some ⟨gb, 0, none⟩) (n - 1) c) (n - 1) (xs.take (p * 3) ++ xs.drop ((p + 1) * 3))) := by
    have := HO2.out
    rwa [hx2] at this
  have HC : Hid (∀ j, j < 3 → (wa.cell? ⟨gb, (n - 1) * 3 + j, none⟩).isSome = true ∧ wa.frozen? ⟨gb, (n - 1) * 3 + j, none⟩ = false) := fun j hj => HG1.out _ (by omega)
  clear HO1 HO2 hx2 HG1 hpn
  obtain ⟨m, rfl⟩ : ∃ m, n = m + 1 := ⟨n - 1, by omega⟩
  rw [Nat.add_sub_cancel] at HO3 HC ⊢
  have r0 : (0 : Int) ≤ (m : Int) := by omega
  have r1 : (m : Int) ≤ (m : Int) + 1 := by omega
  have r2 : (m : Int) + 1 ≤ (c : Int) := by omega
  have r3 : (m : Int) ≤ (c : Int) := by omega
  have r4 : ((m : Int) + 1).toNat = m + 1 := by omega
  have hclr := run_clear1 (P := Tryz.prog) (w := wa) 24 46 0 (.agg #[.int .i8 0, .int .i8 0, .int .i16 0]) Tryz.underlying24 (by kernel_rfl) (by decide) gb (m * 3) (c - m) HC.out
  go_wp2
  go_ret
  exact ⟨rfl, own_setCells_out _ _ HO3.out (Nat.le_refl _), below_setCells hgb _ _ HB1.out⟩

theorem c_lenMove (A : Option Addr) (n c : Nat) (w : World) : Calls Tryz.prog 47 #[.slice A n c] w fun u w' => u = .returned (.int .i64 (n : Int)) ∧ w = w' := by
  go_enter Tryz.func47, Tryz.ntmps47
  go_wp2
  go_ret
  exact ⟨rfl, rfl⟩
set_option maxHeartbeats 2000000 in
theorem c_iUndoMove (gb : Nat) (n : Nat) (s t g : Nat → Int) (k : Int) (w : World) (h : MovesAt w (some ⟨gb, 0, none⟩) n s t g) (hn : n ≤ 1048576) (hg : ∀ j, j < n → (-32768 ≤ g j ∧ g j ≤ 32767) ∧ (-128 ≤ s j ∧ s j ≤ 127) ∧ (-128 ≤ t j ∧ t j ≤ 127)) :
    Calls Tryz.prog 23 #[.slice (some ⟨gb, 0, none⟩) n n, .int .i64 k] w fun u w' => ∃ v, u = .returned (.tuple #[v, .int .i64 (undoF n s t g k).2]) ∧ w'.ownsRow w.heap.size 46 3 v (undoF n s t g k).1.length (mvRow (undoF n s t g k).1) ∧ Below w.heap.size w w' := by
  have H := Lib.hid h
  have cv := c_iValidMoves (some ⟨gb, 0, none⟩) n n s t g w h hn hg
  have w1' : IntKind.i64.wrap ((n : Int) - 1) = (n : Int) - 1 := IntWalk.i64_in _ (by omega)
  clear h hg
  cases q1 : (allB n (fun j => okMove (s j) (t j) (g j)) && decide (n ≤ 60))
  · have E : Hid (undoF n s t g k = ([], 1)) := by rw [Hid, undoF, q1]; rfl
    rw [q1] at cv
    have CV := Lib.hid cv
    clear cv q1
    go_enter Tryz.func23, Tryz.ntmps23
    go_wp2_with (go_at_call 18; ((with_reducible refine CV.out.mono ?_); rintro e w1 ⟨rfl, hb⟩))
    refine bodyPost_ret (v := .tuple #[.slice none 0 0, .int .i64 1]) (by simp [results, Tryz.results23, go_sem]) rfl ⟨_, by rw [E.out], by rw [E.out]; exact own_nil _ _ _ _, hb⟩
  · have E : Hid (undoF n s t g k = if inB k 0 ((n : Int) - 1) = true then (mvL s t g 0 k.toNat ++ mvL s t g (k.toNat + 1) (n - (k.toNat + 1)), 0) else ([], 2)) := by rw [Hid, undoF, if_pos q1]
    rw [q1] at cv
    have CV := Lib.hid cv
    clear cv
    have hn60 : n ≤ 60 := by simp only [Bool.and_eq_true, decide_eq_true_eq] at q1; exact q1.2
    clear q1
    cases q2 : inB k 0 ((n : Int) - 1)
    · have E2 : Hid (undoF n s t g k = ([], 2)) := by rw [Hid, E.out, q2]; rfl
      have q2' := Lib.hid q2
      clear q2
      go_enter Tryz.func23, Tryz.ntmps23
      go_wp2_with (first
        | (go_at_call 18; ((with_reducible refine CV.out.mono ?_); rintro e w1 ⟨rfl, hb⟩))
        | (go_at_call 47; ((with_reducible refine (c_lenMove _ _ _ _).mono ?_); rintro e w2 ⟨rfl, rfl⟩))
        | (go_at_call 45; ((with_reducible refine (c_within _ _ _ _).mono ?_); rintro e w2 ⟨rfl, rfl⟩; rw [q2'.out])))
      refine bodyPost_ret (v := .tuple #[.slice none 0 0, .int .i64 2]) (by simp [results, Tryz.results23, go_sem]) rfl ⟨_, by rw [E2.out], by rw [E2.out]; exact own_nil _ _ _ _, hb⟩
    · have E2 : Hid (undoF n s t g k = (mvL s t g 0 k.toNat ++ mvL s t g (k.toNat + 1) (n - (k.toNat + 1)), 0)) := by rw [Hid, E.out, q2]; rfl
      have hk := q2
      simp only [inB, Bool.and_eq_true, decide_eq_true_eq] at hk
      obtain ⟨p, rfl⟩ : ∃ p : Nat, k = (p : Int) := ⟨k.toNat, by omega⟩
      have hp : p < n := by omega
      rw [Int.toNat_natCast] at E2
      have q2' := Lib.hid q2
      clear q2 hk E
      have hwr : IntKind.i64.wrap ((p : Int) + 1) = (p : Int) + 1 := by rw [IntKind.wrap_i64]; omega
      have hsp : (mvRow (mvL s t g 0 n)).take (p * 3) ++ (mvRow (mvL s t g 0 n)).drop ((p + 1) * 3) = mvRow (mvL s t g 0 p ++ mvL s t g (p + 1) (n - (p + 1))) := by
        have e1 := mvL_split s t g n p (by omega)
        have e2 := mvL_split s t g n (p + 1) (by omega)
        rw [mvRow_append]
        congr 1
        · rw [e1, mvRow_append]
          exact List.take_left' (by rw [mvRow_len, mvL_len])
        · rw [e2, mvRow_append]
          exact List.drop_left' (by rw [mvRow_len, mvL_len])
      have HSP := Lib.hid hsp
      clear hsp
      go_enter Tryz.func23, Tryz.ntmps23
      go_wp2_with (first
        | (go_at_call 18; ((with_reducible refine CV.out.mono ?_); rintro e w1 ⟨rfl, hb⟩; have HB1 := Lib.hid hb; clear hb))
        | (go_at_call 47; ((with_reducible refine (c_lenMove _ _ _ _).mono ?_); rintro e w2 ⟨rfl, rfl⟩))
        | (go_at_call 45; ((with_reducible refine (c_within _ _ _ _).mono ?_); rintro e w2 ⟨rfl, rfl⟩; rw [q2'.out]))
        | (go_at_call 49; ((with_reducible refine (c_cloneMove gb n n s t g _ (H.out.below HB1.out) hn60).mono ?_); rintro e w3 ⟨v, rfl, hO, hb⟩; have hO := own_mono hO HB1.out.size; obtain ⟨A1, c1, rfl, hA1⟩ := own_form hO; obtain ⟨g1, rfl, hg1⟩ := hA1 (by omega); have HO := Lib.hid hO; have HB2 := Lib.hid (below_then HB1.out hb); clear hO hb hA1))
        | (go_at_call 48; ((with_reducible refine (c_delMove _ _ _ _ _ _ _ HO.out hn60 hp (mvRow_one _)).mono ?_); rintro e w4 ⟨rfl, hO4, hb⟩; have HO4 := Lib.hid hO4; have HB4 := Lib.hid (Below.trans HB2.out hb); clear hO4 hb)))
      refine bodyPost_ret (v := .tuple #[.slice (some ⟨g1, 0, none⟩) (n - 1) c1, .int .i64 0]) (by simp [results, Tryz.results23, go_sem]) rfl ⟨_, by rw [E2.out], ?_, HB4.out⟩
      rw [E2.out]
      have hfin := HO4.out
      rw [HSP.out] at hfin
      rw [List.length_append, mvL_len, mvL_len, show p + (n - (p + 1)) = n - 1 by omega]
      exact hfin
end Go.Proofs.YtjhifpidbobmaaaGreatDoor
