/- The program's opened: the lots of a plan, sorted, once each. -/
import Derived.Test.YtfdljhepfoppaaaOpenSort
namespace Go.Proofs.Ytfdljhepfoppaaa
open Go.RowKit Go.Maps Go.Sort Go.Shelf
set_option linter.unusedVariables false
set_option linter.unusedSimpArgs false

theorem heap_put_i {w : World} {g n : Nat} {cur : Array Value} {e : TypeId} {fr : Nat × Nat} (d : Array Int) (hb : w.heap[g]? = some (.cells cur e fr)) :
    (putRow encZ (Sort.ahead w n) g 0 d).heap[g]? = some (.cells (putCells encZ 0 d cur) e fr) := by
  simp [putRow, mapBlock, Sort.ahead, Array.getElem?_modify, hb, onCells]
theorem grownBy_put_i {w : World} {g n : Nat} (d : Array Int) : w.grownBy (putRow encZ (Sort.ahead w n) g 0 d) (some g) := by
  refine ⟨rfl, rfl, rfl, by simp, fun k hk hne => ?_⟩
  have : g ≠ k := fun e => hne (by rw [e])
  simp [putRow, mapBlock, Sort.ahead, Array.getElem?_modify, this]
theorem ownsRow_put_i {w : World} {base g cap n : Nat} {e : TypeId} {cur : Array Value} {pre rest : List Int} (hbase : base ≤ g) (hb : w.heap[g]? = some (.cells cur e (0, 0)))
    (h1 : (pre ++ rest).length ≤ cap) (h2 : cap ≤ maxLen) (h3 : cur.size = cap * 1) :
    (putRow encZ (Sort.ahead w n) g 0 (pre ++ rest).toArray).ownsRow base e 1 (.slice (some ⟨g, 0, none⟩) pre.length cap) pre.length (pre.map encZ) := by
  have ht := take_putCells_i cur (pre ++ rest) (by omega)
  refine ⟨by simp, .inr ⟨g, cap, _, rfl, hbase, heap_put_i _ hb, by simp at h1; omega, h2, by simp [putCells, h3], ?_⟩⟩
  rw [Nat.mul_one]
  have h4 := congrArg (List.take pre.length) ht
  rw [List.take_take, List.map_append, List.take_append_of_le_length (by simp), Nat.min_eq_left (by simp)] at h4
  rw [h4, List.take_of_length_le (by simp)]

set_option maxRecDepth 100000 in
set_option maxHeartbeats 2000000 in
theorem c_opened (b cap : Nat) (zs : List Int) (hN : zs.length ≤ 4000) (w : World)
    (hb : b < w.heap.size) (hc : ∀ j, j < zs.length → w.cell? ⟨b, j, none⟩ = some (.int .i64 (zs[j]?.getD 0))) :
    Calls Try.prog 42 #[.slice (some ⟨b, 0, none⟩) zs.length cap] w fun e w' => ∃ (v : Value), e = .returned v ∧
      w'.ownsRow w.heap.size 2 1 v (Lib.compact (zs.mergeSort (fun x y => decide (x ≤ y)))).length ((Lib.compact (zs.mergeSort (fun x y => decide (x ≤ y)))).map encZ) ∧ Below w.heap.size w w' := by
  refine (callsIn_wide (n := 7)).1 ?_
  have hm : 4000 ≤ maxLen := by decide
  have hbw : Below w.heap.size w (w.alloc (.cells #[.slice (some ⟨b, 0, none⟩) zs.length cap] 29 (0, 0))) := (Below.refl _ w).alloc (Nat.le_refl _) _
  have cV := c_values 6 (some ⟨b, 0, none⟩) zs.length cap w
  have cS := c_sortedV 6 (by omega) w.heap.size b cap zs (by omega) (by omega) (w.alloc (.cells #[.slice (some ⟨b, 0, none⟩) zs.length cap] 29 (0, 0)))
    (by have h9 := World.alloc_heap_new w (.cells #[.slice (some ⟨b, 0, none⟩) zs.length cap] 29 (0, 0)); simp only [World.cell?]; rw [h9]; rfl) (by simp) (by simp; omega) (fun j hj => (hbw.cell (p := ⟨b, j, none⟩) hb).trans (hc j hj))
  have hl : (zs.mergeSort (fun x y => decide (x ≤ y))).length = zs.length := by simp
  generalize zs.mergeSort (fun x y => decide (x ≤ y)) = ms at *
  have hK := AnyG.slices_Compact_int Try.compactA
  have hK0 := AnyG.slices_Compact_int_empty Try.compactA
  change ∀ (blk off cap : Nat) (zs : List Int) (w : World), _ → _ → _ → Calls _ 61 _ _ _ at hK
  change ∀ (a : Option Addr) (cap : Nat) (w : World), Calls _ 61 _ _ _ at hK0
  have hfV : Fence.wide.fn 63 := trivial
  have hfS : Fence.wide.fn 62 := trivial
  have hfK : Fence.wide.fn 61 := trivial
  refine callsIn_of_wp Try.func42 rfl trivial ?_ rfl
  simp only [Try.ntmps42, List.size_toArray, List.length_cons, List.length_nil, Nat.reduceAdd, Nat.reduceSub, Array.replicate_succ, Array.replicate_zero, List.push_toArray, List.append_toArray, List.nil_append, List.cons_append]
  gi_wp2_with (first
    | (gi_at_call 63; refine cV.mono ?_; rintro e w' ⟨rfl, rfl⟩)
    | (gi_at_call 62; refine cS.mono ?_; rintro e w2 ⟨v, rfl, hrow, hnil, hb2⟩))
  have hbB := hbw.trans (hb2.mono (by simp))
  rcases hrow.2 with ⟨rfl, hz⟩ | ⟨gb, cap', cur, rfl, hbase, hgb, r1, r2, r3, r4⟩
  · obtain rfl : ms = [] := List.eq_nil_of_length_eq_zero (by omega)
    refine (callsIn_wide.2 (hK0 none 0 w2)).mono ?_
    rintro e w' ⟨rfl, rfl⟩
    gi_wp2
    go_ret
    exact ⟨.slice none 0 0, rfl, ⟨rfl, .inl ⟨rfl, rfl⟩⟩, hbB⟩
  · have r4' : cur.toList.take ms.length = ms.map encZ := by rw [hl]; simpa using r4
    have hH : Holds encZ w2 gb 0 ms.toArray := holds_of_block_i hgb r4'
    have hcl : (Lib.compact ms).length ≤ ms.length := by
      unfold Lib.compact Lib.compactUpTo
      rw [List.length_map]
      exact Nat.le_trans (List.length_filter_le _ _) (by simp)
    have cK := hK gb 0 cap' ms w2 hH (by omega) (by omega)
    rw [hl] at cK
    have hrl : (Lib.compact ms ++ List.replicate (ms.length - (Lib.compact ms).length) (0 : Int)).length ≤ cap' := by rw [List.length_append, List.length_replicate]; omega
    rw [hl] at hrl
    refine (callsIn_wide.2 cK).mono ?_
    rintro e w' ⟨rfl, q, rfl⟩
    gi_wp2
    go_ret
    exact ⟨_, rfl, ownsRow_put_i (Nat.le_trans (by simp) hbase) hgb hrl r2 r3, hbB.grown (grownBy_put_i _) hbB.size (fun j hj => by cases hj; exact Nat.le_trans (by simp) hbase)⟩
end Go.Proofs.Ytfdljhepfoppaaa
