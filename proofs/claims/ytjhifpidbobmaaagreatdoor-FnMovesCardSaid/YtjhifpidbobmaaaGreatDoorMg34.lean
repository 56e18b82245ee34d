/- Texts laid together: MovLay, UndoC. -/
import Derived.Test.YtjhifpidbobmaaaGreatDoorMg33
import Derived.Test.YtjhifpidbobmaaaGreatDoorMg21
import Derived.Test.YtjhifpidbobmaaaGreatDoorMg22
/- How things lie in the law on moves. -/
namespace Go.Proofs.YtjhifpidbobmaaaGreatDoor
open Go.RowKit
set_option linter.unusedVariables false
set_option linter.unusedSimpArgs false
set_option maxRecDepth 100000

/-- A row: element's type, cells of one, the slice, how many, the cells. -/
structure Rw where
  t : TypeId
  s : Nat
  v : Value
  n : Nat
  xs : List Value
/-- Places in blocks, and rows. -/
structure ML (W : World) (K : List (Nat × List Int)) (R : List Rw) (w : World) : Prop where
  b : Below W.heap.size W w
  k : ∀ p ∈ K, w.heap[p.1]? = some (.cells (nums .i32 p.2).toArray 30 (0, 0))
  r : ∀ x ∈ R, w.ownsRow W.heap.size x.t x.s x.v x.n x.xs
section
variable {W w w1 : World} {K : List (Nat × List Int)} {R : List Rw}
theorem ML.below (h : ML W K R w) (hb : Below w.heap.size w w1) : ML W K R w1 :=
  ⟨below_then h.b hb, fun p hp => blk_below (h.k p hp) hb, fun x hx => own_below (h.r x hx) hb⟩
theorem ML.addK (h : ML W K R w) {g : Nat} (P : List Int) (hg : w.heap[g]? = some (.cells (nums .i32 P).toArray 30 (0, 0))) : ML W ((g, P) :: K) R w :=
  ⟨h.b, fun p hp => by rcases List.mem_cons.1 hp with rfl | hp; exact hg; exact h.k p hp, h.r⟩
theorem ML.addR (h : ML W K R w) (x : Rw) (hv : w.ownsRow W.heap.size x.t x.s x.v x.n x.xs) : ML W K (x :: R) w :=
  ⟨h.b, h.k, fun y hy => by rcases List.mem_cons.1 hy with rfl | hy; exact hv; exact h.r y hy⟩
theorem ML.drew (h : ML W K R w) (n : Nat) : ML W K R (w.drewN n) := ⟨below_drewN h.b n, h.k, h.r⟩
theorem ML.sub {K' : List (Nat × List Int)} (h : ML W K R w) (hs : ∀ p ∈ K', p ∈ K) : ML W K' R w := ⟨h.b, fun p hp => h.k p (hs p hp), h.r⟩
theorem ML.tou (h : ML W K R w) {g : Nat} (ht : Tou g w w1) (hg : W.heap.size ≤ g) (hK : ∀ p ∈ K, p.1 ≠ g) (hR : ∀ x ∈ R, x.v.ownBlock ≠ some g) : ML W K R w1 :=
  ⟨h.b.trans (ht.below hg), fun p hp => blk_tou (h.k p hp) ht (hK p hp), fun x hx => (h.r x hx).kept (row := some g) ⟨ht.os, ht.tape, ht.output, by rw [ht.size]; exact Nat.le_refl _, fun i _ hk => ht.block i (fun he => hk (by rw [he]))⟩ (.inr (hR x hx))⟩
theorem ML.bare (h : ML W K R w) : ML W [] [] w := ⟨h.b, fun p hp => by simp at hp, fun x hx => by simp at hx⟩
theorem ML.fresh (h : ML W K R w) : (∀ p ∈ K, p.1 ≠ w.heap.size) ∧ (∀ x ∈ R, x.v.ownBlock ≠ some w.heap.size) :=
  ⟨fun p hp e => by have := blk_lt (h.k p hp); omega, fun x hx e => by have := own_lo (h.r x hx) (Nat.le_refl _) _ e; omega⟩
theorem ML.blk (h : ML W K R w) {g : Nat} {P : List Int} (hm : (g, P) ∈ K) : w.heap[g]? = some (.cells (nums .i32 P).toArray 30 (0, 0)) := h.k _ hm
theorem ML.cell (h : ML W K R w) {g : Nat} {P : List Int} (hm : (g, P) ∈ K) {k : Nat} (hk : k < P.length) : w.cell? ⟨g, k, none⟩ = some (.int .i32 (gi P k)) := nums_cell (h.k _ hm) k hk
theorem ML.row (h : ML W K R w) {t : TypeId} {s : Nat} {v : Value} {n : Nat} {xs : List Value} (hm : (⟨t, s, v, n, xs⟩ : Rw) ∈ R) : w.ownsRow W.heap.size t s v n xs := h.r _ hm
theorem ML.mov (h : ML W K R w) {A : Option Addr} {c : Nat} {L : List (Int × Int × Int)} (hm : (⟨46, 3, .slice A L.length c, L.length, mvRow L⟩ : Rw) ∈ R) : MovesAt w A L.length (fS L) (fT L) (fG L) := movesAt_of (own_rd (h.r _ hm))
theorem ML.i64 (h : ML W K R w) {A : Option Addr} {n c : Nat} {zs : List Int} (hm : (⟨2, 1, .slice A n c, n, nums .i64 zs⟩ : Rw) ∈ R) : RdRow w A (nums .i64 zs) := own_rd (h.r _ hm)
theorem ML.mv (h : ML W K R w) {g c : Nat} {L : List (Int × Int × Int)} (hm : (⟨46, 3, .slice (some ⟨g, 0, none⟩) L.length c, L.length, mvRow L⟩ : Rw) ∈ R) {i : Nat} (hi : i < L.length) : w.cell? ⟨g, i * 3, none⟩ = some (.int .i8 (fS L i)) ∧ w.cell? ⟨g, i * 3 + 1, none⟩ = some (.int .i8 (fT L i)) ∧ w.cell? ⟨g, i * 3 + 2, none⟩ = some (.int .i16 (fG L i)) := by
  obtain ⟨ad, e, c0, c1, c2⟩ := (h.mov hm).at_ i hi
  cases e
  have ea : (Addr.add ⟨g, 0, none⟩ (i * 3)) = ⟨g, i * 3, none⟩ := by unfold Addr.add; split <;> simp_all
  rw [ea] at c0 c1 c2
  exact ⟨c0, c1, c2⟩
end
theorem own_cap {w : World} {base g c : Nat} {e : TypeId} {size n : Nat} {xs : List Value} (h : w.ownsRow base e size (.slice (some ⟨g, 0, none⟩) n c) n xs) : n ≤ c := by
  rcases h.2 with ⟨e, _⟩ | ⟨gb, cap, cur, e, _, _, hnc, _⟩
  · cases e
  · cases e; exact hnc
theorem sumZ_nb {N : List Int} (h : ∀ i, -60000 ≤ gi N i ∧ gi N i ≤ 60000) : ∀ k : Nat, k ≤ 5 → -60000 * (k : Int) ≤ sumZ N k ∧ sumZ N k ≤ 60000 * (k : Int)
  | 0, _ => by simp [sumZ]
  | k + 1, hk => by
    have ih := sumZ_nb h k (by omega)
    have := h k
    rw [sumZ]
    omega
theorem sz5 {P : List Int} (h : P.length = 5) (x0 x1 x2 x3 x4 : Value) : (#[x0, x1, x2, x3, x4] : Array Value).size = (nums .i32 P).toArray.size := by simp [nums, h]
theorem mrow_snoc (L : List (Int × Int × Int)) : mvRow L = (L.map (fun z => [Value.int .i8 z.1, Value.int .i8 z.2.1, Value.int .i16 z.2.2])).flatten := rfl
theorem tou_newL {w w1 : World} {o : Obj} (ht : Tou w.heap.size (w.alloc o) w1) : Below w.heap.size w w1 := (below_alloc (Below.refl _ _) _).trans (ht.below (Nat.le_refl _))
theorem less_set {w : World} {g i : Nat} {P : List Int} {t : TypeId} (h : w.heap[g]? = some (.cells (nums .i32 P).toArray t (0, 0))) (v : Int) : (w.setCell ⟨g, i, none⟩ (.int .i32 v)).heap[g]? = some (.cells (nums .i32 (P.set i v)).toArray t (0, 0)) := by
  have := blk_set h i (.int .i32 v)
  rw [nums_set] at this
  exact this
end Go.Proofs.YtjhifpidbobmaaaGreatDoor
/- One move undone, in a list with room behind it. -/
namespace Go.Proofs.YtjhifpidbobmaaaGreatDoor
open Go.RowKit
set_option linter.unusedVariables false
set_option linter.unusedSimpArgs false
set_option maxRecDepth 100000

set_option maxHeartbeats 2000000 in
theorem c_sUndoMoveC (gb : Nat) (n c : Nat) (hnc : n ≤ c) (s t g : Nat → Int) (k : Int) (w : World) (h : MovesAt w (some ⟨gb, 0, none⟩) n s t g) (hn : n ≤ 1048576) (hg : ∀ j, j < n → (-32768 ≤ g j ∧ g j ≤ 32767) ∧ (-128 ≤ s j ∧ s j ≤ 127) ∧ (-128 ≤ t j ∧ t j ≤ 127)) :
    Calls Tryz.prog 24 #[.slice (some ⟨gb, 0, none⟩) n c, .int .i64 k] w fun u w' => ∃ v, u = .returned (.tuple #[v, .int .i64 (undoF n s t g k).2]) ∧ w'.ownsRow w.heap.size 46 3 v (undoF n s t g k).1.length (mvRow (undoF n s t g k).1) ∧ Below w.heap.size w w' := by
  have H := Lib.hid h
  have cv := c_l07Moves (some ⟨gb, 0, none⟩) n c s t g w h hn hg
  have w1' : IntKind.i64.wrap ((n : Int) - 1) = (n : Int) - 1 := IntWalk.i64_in _ (by omega)
  have hE := heap_alloc_new w (.cells #[] 46 (0, 0))
  have HE := Lib.hid hE
  clear h hg hE
  cases q1 : (allB n (fun j => okMove (s j) (t j) (g j)) && decide (n ≤ 60))
  · have E : Hid (undoF n s t g k = ([], 1)) := by rw [Hid, undoF, q1]; rfl
    rw [q1] at cv
    have CV := Lib.hid cv
    clear cv q1
    go_enter Tryz.func24, Tryz.ntmps24
    go_wp2_with (go_at_call 36; ((with_reducible refine CV.out.mono ?_); rintro e w1 ⟨rfl, hb⟩))
    have HO := Lib.hid (own_empty (size := 3) (heap_alloc_new w1 (.cells #[] 46 (0, 0))) hb.size)
    refine bodyPost_ret (v := .tuple #[.slice (some ⟨w1.heap.size, 0, none⟩) 0 0, .int .i64 1]) (by simp [results, Tryz.results24, go_sem]) rfl ⟨_, by rw [E.out], by rw [E.out]; exact HO.out, below_alloc hb _⟩
  · have E : Hid (undoF n s t g k = if inB k 0 ((n : Int) - 1) = true then (mvL s t g 0 k.toNat ++ mvL s t g (k.toNat + 1) (n - (k.toNat + 1)), 0) else ([], 2)) := by rw [Hid, undoF, if_pos q1]
    rw [q1] at cv
    have CV := Lib.hid cv
    clear cv
    have hn60 : n ≤ 60 := by simp only [Bool.and_eq_true, decide_eq_true_eq] at q1; exact q1.2
    clear q1
    cases q2 : inB k 0 ((n : Int) - 1)
    · have E2 : Hid (undoF n s t g k = ([], 2)) := by rw [Hid, E.out, q2]; rfl
      have q2' := Lib.hid q2
      clear q2
      go_enter Tryz.func24, Tryz.ntmps24
      go_wp2_with (first
        | (go_at_call 36; ((with_reducible refine CV.out.mono ?_); rintro e w1 ⟨rfl, hb⟩))
        | (go_at_call 50; ((with_reducible refine (c_l00In _ _ _ _).mono ?_); rintro e w2 ⟨rfl, rfl⟩; rw [q2'.out])))
      have HO := Lib.hid (own_empty (size := 3) (heap_alloc_new w1 (.cells #[] 46 (0, 0))) hb.size)
      refine bodyPost_ret (v := .tuple #[.slice (some ⟨w1.heap.size, 0, none⟩) 0 0, .int .i64 2]) (by simp [results, Tryz.results24, go_sem]) rfl ⟨_, by rw [E2.out], by rw [E2.out]; exact HO.out, below_alloc hb _⟩
    · have E2 : Hid (undoF n s t g k = (mvL s t g 0 k.toNat ++ mvL s t g (k.toNat + 1) (n - (k.toNat + 1)), 0)) := by rw [Hid, E.out, q2]; rfl
      have hk := q2
      simp only [inB, Bool.and_eq_true, decide_eq_true_eq] at hk
      obtain ⟨p, rfl⟩ : ∃ p : Nat, k = (p : Int) := ⟨k.toNat, by omega⟩
      have hp : p < n := by omega
      rw [Int.toNat_natCast] at E2
      have q2' := Lib.hid q2
      clear q2 hk E
      have hwr : IntKind.i64.wrap ((p : Int) + 1) = (p : Int) + 1 := by rw [IntKind.wrap_i64]; omega
      have hp0 : (0 : Int) ≤ (p : Int) + 1 := by omega
      have hp1 : (p : Int) + 1 ≤ (n : Int) := by omega
      have hp2 : ((p : Int) + 1).toNat = p + 1 := by omega
      have p0 : (0 : Int) ≤ (p : Int) := by omega
      have p1 : (p : Int) ≤ (c : Int) := by omega
      have p2 : (n : Int) ≤ (c : Int) := by omega
      go_enter Tryz.func24, Tryz.ntmps24
      go_wp2_with (first
        | (go_at_call 36; ((with_reducible refine CV.out.mono ?_); rintro e w1 ⟨rfl, hb⟩))
        | (go_at_call 50; ((with_reducible refine (c_l00In _ _ _ _).mono ?_); rintro e w2 ⟨rfl, rfl⟩; rw [q2'.out])))
      obtain ⟨A, hA, hAc⟩ : ∃ A : Addr, (if c = p + 1 then some (⟨gb, 0, none⟩ : Addr) else some ⟨gb, (p + 1) * 3, none⟩) = some A ∧ Hid (∀ (wq : World), MovesAt wq (some ⟨gb, 0, none⟩) n s t g → ∀ j u, (mvRow (mvL s t g (p + 1) (n - (p + 1))))[j]? = some u → wq.cell? (A.add j) = some u) := by
        by_cases h : c = p + 1
        · refine ⟨⟨gb, 0, none⟩, by simp [h], fun wq _ j u hu => ?_⟩
          have h0 : (mvRow (mvL s t g (p + 1) (n - (p + 1)))).length = 0 := by rw [mvRow_len, mvL_len]; omega
          rw [List.length_eq_zero_iff.1 h0] at hu
          simp at hu
        · refine ⟨⟨gb, (p + 1) * 3, none⟩, by simp [h], fun wq hq j u hu => ?_⟩
          rw [addr_at]
          exact moves_cells hq (by omega) j u hu
      have HF : Hid (∀ (wq : World), MovesAt wq (some ⟨gb, 0, none⟩) n s t g → ∀ j u, (mvRow (mvL s t g 0 p))[j]? = some u → wq.cell? ((⟨gb, 0, none⟩ : Addr).add j) = some u) := fun wq hq j u hu => by
        rw [addr_at]; have := moves_cells hq (o := 0) (by omega) j u hu; rwa [Nat.zero_mul] at this
      have HO := Lib.hid (own_empty (base := w.heap.size) (heap_alloc_new w1.drew (.cells #[] 46 (0, 0))) (show w.heap.size ≤ w1.drew.heap.size from hb.size) (size := 3))
      have HB1 : Hid (Below w.heap.size w (w1.drew.alloc (.cells #[] 46 (0, 0)))) := below_alloc (below_drew hb) _
      have s1 : Hid ((mvRow (mvL s t g 0 p)).length = p * 3) := by rw [Hid, mvRow_len, mvL_len]
      have s2 : Hid ((mvRow (mvL s t g (p + 1) (n - (p + 1)))).length = (n - (p + 1)) * 3) := by rw [Hid, mvRow_len, mvL_len]
      have one1 := Lib.hid (mvRow_one (mvL s t g 0 p))
      have one2 := Lib.hid (mvRow_one (mvL s t g (p + 1) (n - (p + 1))))
      have m1 : Hid (0 + p ≤ maxLen) := by rw [Hid]; simp only [maxLen]; omega
      have m2 : Hid ((0 + p) * 4 ≤ 140737488355328) := by rw [Hid]; omega
      have m3 : Hid (0 + p + (n - (p + 1)) ≤ maxLen) := by rw [Hid]; simp only [maxLen]; omega
      have m4 : Hid ((0 + p + (n - (p + 1))) * 4 ≤ 140737488355328) := by rw [Hid]; omega
      go_region_law (first
        | (refine step_append_own rfl (.tmp 17) (.tmp 20) 24 rfl 46 (.agg #[.int .i8 0, .int .i8 0, .int .i16 0]) 3 4 Tryz.underlying24 (by kernel_rfl) rfl (by decide) (w.heap.size) (.slice (some ⟨w1.heap.size, 0, none⟩) 0 0) 0 [] (by simp [Act.eval, Act.put]) HO.out ⟨gb, 0, none⟩ p c (mvRow (mvL s t g 0 p)) (by simp [Act.eval, Act.put]) s1.out (HF.out _ (H.out.below HB1.out)) one1.out m1.out m2.out HB1.out.size ?_; intro v2 w2 hO2 hG2; have HB2 := Lib.hid (below_grown HB1.out hG2 HO.out (Nat.le_refl _) HB1.out.size); have HO2 := Lib.hid hO2; clear hO2 hG2)
        | (refine step_append_own rfl (.tmp 21) (.tmp 25) 24 rfl 46 (.agg #[.int .i8 0, .int .i8 0, .int .i16 0]) 3 4 Tryz.underlying24 (by kernel_rfl) rfl (by decide) (w.heap.size) v2 (0 + p) ([] ++ mvRow (mvL s t g 0 p)) (by simp [Act.eval, Act.put]) HO2.out A (n - (p + 1)) (c - (p + 1)) (mvRow (mvL s t g (p + 1) (n - (p + 1)))) (by simp [Act.eval, Act.put]) s2.out (hAc.out _ (H.out.below HB2.out)) one2.out m3.out m4.out HB2.out.size ?_; intro v3 w3 hO3 hG3; have HB3 := Lib.hid (below_grown HB2.out hG3 HO2.out (Nat.le_refl _) HB2.out.size); have HO3 := Lib.hid hO3; clear hO3 hG3))
      all_goals go_wp2
      all_goals refine bodyPost_ret (v := .tuple #[v3, .int .i64 0]) (by simp [results, Tryz.results24, go_sem]) rfl ⟨_, by rw [E2.out], ?_, HB3.out⟩
      all_goals rw [E2.out]
      all_goals have hfin := HO3.out
      all_goals rw [List.nil_append, Nat.zero_add, ← mvRow_append] at hfin
      all_goals rw [List.length_append, mvL_len, mvL_len]
      all_goals exact hfin
set_option maxHeartbeats 2000000 in
theorem c_iUndoMoveC (gb : Nat) (n c : Nat) (hnc : n ≤ c) (s t g : Nat → Int) (k : Int) (w : World) (h : MovesAt w (some ⟨gb, 0, none⟩) n s t g) (hn : n ≤ 1048576) (hg : ∀ j, j < n → (-32768 ≤ g j ∧ g j ≤ 32767) ∧ (-128 ≤ s j ∧ s j ≤ 127) ∧ (-128 ≤ t j ∧ t j ≤ 127)) :
    Calls Tryz.prog 23 #[.slice (some ⟨gb, 0, none⟩) n c, .int .i64 k] w fun u w' => ∃ v, u = .returned (.tuple #[v, .int .i64 (undoF n s t g k).2]) ∧ w'.ownsRow w.heap.size 46 3 v (undoF n s t g k).1.length (mvRow (undoF n s t g k).1) ∧ Below w.heap.size w w' := by
  have H := Lib.hid h
  have cv := c_iValidMoves (some ⟨gb, 0, none⟩) n c s t g w h hn hg
  have w1' : IntKind.i64.wrap ((n : Int) - 1) = (n : Int) - 1 := IntWalk.i64_in _ (by omega)
  clear h hg
  cases q1 : (allB n (fun j => okMove (s j) (t j) (g j)) && decide (n ≤ 60))
  · have E : Hid (undoF n s t g k = ([], 1)) := by rw [Hid, undoF, q1]; rfl
    rw [q1] at cv
    have CV := Lib.hid cv
    clear cv q1
    go_enter Tryz.func23, Tryz.ntmps23
    go_wp2_with (go_at_call 18; ((with_reducible refine CV.out.mono ?_); rintro e w1 ⟨rfl, hb⟩))
    refine bodyPost_ret (v := .tuple #[.slice none 0 0, .int .i64 1]) (by simp [results, Tryz.results23, go_sem]) rfl ⟨_, by rw [E.out], by rw [E.out]; exact own_nil _ _ _ _, hb⟩
  · have E : Hid (undoF n s t g k = if inB k 0 ((n : Int) - 1) = true then (mvL s t g 0 k.toNat ++ mvL s t g (k.toNat + 1) (n - (k.toNat + 1)), 0) else ([], 2)) := by rw [Hid, undoF, if_pos q1]
    rw [q1] at cv
    have CV := Lib.hid cv
    clear cv
    have hn60 : n ≤ 60 := by simp only [Bool.and_eq_true, decide_eq_true_eq] at q1; exact q1.2
    clear q1
    cases q2 : inB k 0 ((n : Int) - 1)
    · have E2 : Hid (undoF n s t g k = ([], 2)) := by rw [Hid, E.out, q2]; rfl
      have q2' := Lib.hid q2
      clear q2
      go_enter Tryz.func23, Tryz.ntmps23
      go_wp2_with (first
        | (go_at_call 18; ((with_reducible refine CV.out.mono ?_); rintro e w1 ⟨rfl, hb⟩))
        | (go_at_call 47; ((with_reducible refine (c_lenMove _ _ _ _).mono ?_); rintro e w2 ⟨rfl, rfl⟩))
        | (go_at_call 45; ((with_reducible refine (c_within _ _ _ _).mono ?_); rintro e w2 ⟨rfl, rfl⟩; rw [q2'.out])))
      refine bodyPost_ret (v := .tuple #[.slice none 0 0, .int .i64 2]) (by simp [results, Tryz.results23, go_sem]) rfl ⟨_, by rw [E2.out], by rw [E2.out]; exact own_nil _ _ _ _, hb⟩
    · have E2 : Hid (undoF n s t g k = (mvL s t g 0 k.toNat ++ mvL s t g (k.toNat + 1) (n - (k.toNat + 1)), 0)) := by rw [Hid, E.out, q2]; rfl
      have hk := q2
      simp only [inB, Bool.and_eq_true, decide_eq_true_eq] at hk
      obtain ⟨p, rfl⟩ : ∃ p : Nat, k = (p : Int) := ⟨k.toNat, by omega⟩
      have hp : p < n := by omega
      rw [Int.toNat_natCast] at E2
      have q2' := Lib.hid q2
      clear q2 hk E
      have hwr : IntKind.i64.wrap ((p : Int) + 1) = (p : Int) + 1 := by rw [IntKind.wrap_i64]; omega
      have hsp : (mvRow (mvL s t g 0 n)).take (p * 3) ++ (mvRow (mvL s t g 0 n)).drop ((p + 1) * 3) = mvRow (mvL s t g 0 p ++ mvL s t g (p + 1) (n - (p + 1))) := by
        have e1 := mvL_split s t g n p (by omega)
        have e2 := mvL_split s t g n (p + 1) (by omega)
        rw [mvRow_append]
        congr 1
        · rw [e1, mvRow_append]
          exact List.take_left' (by rw [mvRow_len, mvL_len])
        · rw [e2, mvRow_append]
          exact List.drop_left' (by rw [mvRow_len, mvL_len])
      have HSP := Lib.hid hsp
      clear hsp
      go_enter Tryz.func23, Tryz.ntmps23
      go_wp2_with (first
        | (go_at_call 18; ((with_reducible refine CV.out.mono ?_); rintro e w1 ⟨rfl, hb⟩; have HB1 := Lib.hid hb; clear hb))
        | (go_at_call 47; ((with_reducible refine (c_lenMove _ _ _ _).mono ?_); rintro e w2 ⟨rfl, rfl⟩))
        | (go_at_call 45; ((with_reducible refine (c_within _ _ _ _).mono ?_); rintro e w2 ⟨rfl, rfl⟩; rw [q2'.out]))
        | (go_at_call 49; ((with_reducible refine (c_cloneMove gb n c s t g _ (H.out.below HB1.out) hn60).mono ?_); rintro e w3 ⟨v, rfl, hO, hb⟩; have hO := own_mono hO HB1.out.size; obtain ⟨A1, c1, rfl, hA1⟩ := own_form hO; obtain ⟨g1, rfl, hg1⟩ := hA1 (by omega); have HO := Lib.hid hO; have HB2 := Lib.hid (below_then HB1.out hb); clear hO hb hA1))
        | (go_at_call 48; ((with_reducible refine (c_delMove _ _ _ _ _ _ _ HO.out hn60 hp (mvRow_one _)).mono ?_); rintro e w4 ⟨rfl, hO4, hb⟩; have HO4 := Lib.hid hO4; have HB4 := Lib.hid (Below.trans HB2.out hb); clear hO4 hb)))
      refine bodyPost_ret (v := .tuple #[.slice (some ⟨g1, 0, none⟩) (n - 1) c1, .int .i64 0]) (by simp [results, Tryz.results23, go_sem]) rfl ⟨_, by rw [E2.out], ?_, HB4.out⟩
      rw [E2.out]
      have hfin := HO4.out
      rw [HSP.out] at hfin
      rw [List.length_append, mvL_len, mvL_len, show p + (n - (p + 1)) = n - 1 by omega]
      exact hfin
end Go.Proofs.YtjhifpidbobmaaaGreatDoor
