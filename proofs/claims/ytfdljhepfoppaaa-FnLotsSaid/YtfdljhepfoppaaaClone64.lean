/- Lists of numbers copied: append as an event, slices.Clone. -/
import Derived.Test.YtfdljhepfoppaaaProg
import Derived.Test.YtfdljhepfoppaaaScalars
import Derived.Test.YtfdljhepfoppaaaMem4
import Derived.Deep.AppendLies
import Derived.Deep.RegionLaw
import Derived.Deep.DeepAppendWide
import Derived.Lib.SliceRun
import Derived.Laws.IdiomCopy
namespace Go.Proofs.Ytfdljhepfoppaaa
open Go.RowKit
set_option linter.unusedVariables false
set_option linter.unusedSimpArgs false
set_option maxRecDepth 100000

/-- 'append', as a row of the walk. -/
theorem ev_append_own64 {P : Program} {ops : Array Oper} {rest : List Oper} {o : Oper} {a : Act} {w : World} {Q : Exit → Act → World → Prop} (hg : o.guard = none) (s x : Operand) (t : TypeId) (hop : o.op = Op.call { callee := Callee.builtin Builtin.append, args := #[s, x], argTypes := #[t, t] })
    (e : TypeId) (z : Value) (size bytes : Nat) (h1 : P.underlying t = some (.slice e)) (hinfo : (P.info? e).map (fun i => (i.zero, i.size, i.bytes)) = some (some z, size, bytes)) (h6 : z.cells.size = size) (h7 : 0 < size)
    (base : Nat) (v : Value) (n : Nat) (xs : List Value) (hs : a.eval s = v) (hown : w.ownsRow base e size v n xs)
    (ad : Addr) (m c : Nat) (news : List Value) (hx : a.eval x = .slice (some ad) m c) (hn : news.length = m * size) (hc : ∀ j u, news[j]? = some u → w.cell? (ad.add j) = some u) (h1c : ∀ u ∈ news, u.oneCell' = true)
    (b1 : n + m ≤ maxLen) (b2 : (n + m) * bytes ≤ 140737488355328) (hbase : base ≤ w.heap.size)
    (hK : ∀ v' w', w'.ownsRow base e size v' (n + m) (xs ++ news) → w.grownBy w' v.ownBlock → wpList P ops Q rest (a.put o.dst v') w') : wpList P ops Q (o :: rest) a w := by
  obtain ⟨i0, hi, hzz⟩ := Option.map_eq_some_iff.1 hinfo
  simp only [Prod.mk.injEq] at hzz
  obtain ⟨hz0, hz1, hz2⟩ := hzz
  refine wpList_plain hg fun K hK' => ?_
  obtain ⟨v', w', hrun, r1, r2, _⟩ := run_append_own (P := P) w base t o.type e i0 z size bytes h1 hi hz0 hz1 hz2 h6 h7 v n xs hown ad m c news hn hc h1c b1 b2 hbase
  unfold Oper.wp
  simp [execOp, hop, resolve, invoke, builtin, hs, hx, hrun, Result.andThen]
  exact hK' _ _ (hK v' w' r1 r2)

/-- append onto a row of the call's own, as one step of a region that draws. -/
theorem step_append_own64 {P : Program} {ops : Array Oper} {o : Oper} {a : Act} {w : World} {K : Act → World → Prop} {Q : Exit → Act → World → Prop} {E : Prop}
    (hg : o.guard = none) (s x : Operand) (t : TypeId) (hop : o.op = Op.call { callee := Callee.builtin Builtin.append, args := #[s, x], argTypes := #[t, t] })
    (e : TypeId) (z : Value) (size bytes : Nat) (h1 : P.underlying t = some (.slice e)) (hinfo : (P.info? e).map (fun i => (i.zero, i.size, i.bytes)) = some (some z, size, bytes)) (h6 : z.cells.size = size) (h7 : 0 < size)
    (base : Nat) (v : Value) (n : Nat) (xs : List Value) (hs : a.eval s = v) (hown : w.ownsRow base e size v n xs)
    (ad : Addr) (m c : Nat) (news : List Value) (hx : a.eval x = .slice (some ad) m c) (hn : news.length = m * size) (hc : ∀ j u, news[j]? = some u → w.cell? (ad.add j) = some u) (h1c : ∀ u ∈ news, u.oneCell' = true)
    (b1 : n + m ≤ maxLen) (b2 : (n + m) * bytes ≤ 140737488355328) (hbase : base ≤ w.heap.size)
    (hK : ∀ v' w', w'.ownsRow base e size v' (n + m) (xs ++ news) → w.grownBy w' v.ownBlock → K (a.put o.dst v') w') :
    if Region.wanted o (yielded ops a.tmps) = true then Oper.wp P o a w K Q else E := by
  have hw : Region.wanted o (yielded ops a.tmps) = true := by simp [Region.wanted, hg]
  rw [if_pos hw]
  obtain ⟨i0, hi, hzz⟩ := Option.map_eq_some_iff.1 hinfo
  simp only [Prod.mk.injEq] at hzz
  obtain ⟨hz0, hz1, hz2⟩ := hzz
  obtain ⟨v', w', hrun, r1, r2, _⟩ := run_append_own (P := P) w base t o.type e i0 z size bytes h1 hi hz0 hz1 hz2 h6 h7 v n xs hown ad m c news hn hc h1c b1 b2 hbase
  unfold Oper.wp
  simp [execOp, hop, resolve, invoke, builtin, hs, hx, hrun, Result.andThen]
  exact hK v' w' r1 r2

set_option maxHeartbeats 1000000 in
theorem c_clone64 (base : Nat) (v0 : Value) (zs : List Int) (n : Nat) (w : World) (h : w.ownsRow base 2 1 v0 n (nums .i64 zs)) (hn : n ≤ 1048576) :
    Calls Try.prog 59 #[v0] w fun u w' => ∃ v, u = .returned v ∧ w'.ownsRow w.heap.size 2 1 v n (nums .i64 zs) ∧ Below w.heap.size w w' := by
  rcases h.2 with ⟨rfl, rfl⟩ | ⟨g, c, cur, rfl, _⟩
  · obtain rfl : zs = [] := by have := h.1; simpa [nums] using this
    clear h
    have hnil : ∀ w : World, (binOp .eql 29 (.slice none 0 0) (.slice none 0 0)).run Try.prog w = .ok (.bool true) w := fun w => Lib.run_eql_slice_nil w 29 2 none 0 0 0 0 Try.underlying29
    go_enter Try.func59, Try.ntmps59
    go_wp2
    refine bodyPost_ret (v := .slice none 0 0) (by simp [results, Try.results59, go_sem]) rfl ⟨_, rfl, own_nil _ _ _ _, Below.refl _ _⟩
  have HF : Hid (∀ j u, (nums .i64 zs)[j]? = some u → (w.alloc (.cells #[] 2 (0, 0))).cell? ((⟨g, 0, none⟩ : Addr).add j) = some u) := fun j u hu => by
    rw [show (⟨g, 0, none⟩ : Addr).add j = ⟨g, j, none⟩ by unfold Addr.add; split <;> simp_all]; exact (own_get (h.alloc _) hu).1
  have HL : Hid ((nums .i64 zs).length = n * 1) := h.1
  clear h
  have HO := Lib.hid (own_empty (base := w.heap.size) (size := 1) (heap_alloc_new w (.cells #[] 2 (0, 0))) (Nat.le_refl _))
  have HB1 : Hid (Below w.heap.size w (w.alloc (.cells #[] 2 (0, 0)))) := below_alloc (Below.refl _ _) _
  have one1 : Hid (∀ u ∈ nums .i64 zs, u.oneCell' = true) := fun u hu => List.all_eq_true.1 (nums_oneL .i64 zs) u hu
  have m1 : Hid (0 + n ≤ maxLen) := by rw [Hid]; simp only [maxLen]; omega
  have m2 : Hid ((0 + n) * 8 ≤ 140737488355328) := by rw [Hid]; omega
  have hnil : ∀ w : World, (binOp .eql 29 (.slice (some ⟨g, 0, none⟩) n c) (.slice none 0 0)).run Try.prog w = .ok (.bool false) w := fun w => Lib.run_eql_slice_nil w 29 2 (some ⟨g, 0, none⟩) n c 0 0 Try.underlying29
  go_enter Try.func59, Try.ntmps59
  go_wp2_with (at_builtin; go_loud (refine ev_append_own64 rfl (.tmp 5) (.tmp 6) 29 rfl 2 (.int .i64 0) 1 8 Try.underlying29 (by kernel_rfl) rfl (by decide) (w.heap.size) (.slice (some ⟨w.heap.size, 0, none⟩) 0 0) 0 [] rfl HO.out ⟨g, 0, none⟩ n c (nums .i64 zs) rfl HL.out HF.out one1.out m1.out m2.out HB1.out.size ?_; intro v2 w2 hO2 hG2; have HB2 := Lib.hid (below_grown HB1.out hG2 HO.out (Nat.le_refl _) HB1.out.size); have HO2 := Lib.hid hO2; clear hO2 hG2))
  refine bodyPost_ret (v := v2) (by simp [results, Try.results59, go_sem]) rfl ⟨_, rfl, ?_, HB2.out⟩
  have hfin := HO2.out
  rw [List.nil_append, Nat.zero_add] at hfin
  exact hfin
end Go.Proofs.Ytfdljhepfoppaaa
