/- Programs drawn from bytes. -/
import Derived.Test.YtdmcemhckalhkaaDrawWash
import Derived.Test.YtdmcemhckalhkaaMem4
namespace Go.Proofs.Ytdmcemhckalhkaa
open Go.RowKit
set_option linter.unusedVariables false
set_option linter.unusedSimpArgs false
set_option maxRecDepth 100000

theorem Drawn.below {g k B : Nat} {w w1 : World} (h : Drawn g k w w1) (hg : B ≤ g) (hk : B ≤ k) : Below B w w1 := ⟨h.os, h.tape, h.output, h.size, fun i hi => h.block i (by omega) (by omega)⟩
theorem own_drawn {g : Nat} {w w1 : World} {base : Nat} {e : TypeId} {size : Nat} {v : Value} {n : Nat} {xs : List Value} (h : w.ownsRow base e size v n xs) (hD : Drawn g w.heap.size w w1) (hne : v.ownBlock ≠ some g) : w1.ownsRow base e size v n xs :=
  h.kept (row := some g) ⟨hD.os, hD.tape, hD.output, hD.size, fun i hi hi2 => hD.block i hi (fun e => hi2 (by rw [e]))⟩ (.inr hne)
theorem Src.belowB {g N B : Nat} {A : Option Addr} {cap : Nat} {xs : List Int} {w w1 : World} (h : Src g N A cap xs w) (hb : Below B w w1) (hg : g < B) (hA : ∀ ad, A = some ad → xs ≠ [] → ad.block < B) : Src g N A cap xs w1 := by
  obtain ⟨⟨at_, sd, ha, hs, hk⟩, hB, hp⟩ := h
  refine ⟨⟨at_, sd, ha, hs, (hb.block g hg).trans hk⟩, ⟨fun j u hj => ?_, hB.bd, hB.num⟩, hp⟩
  obtain ⟨ad, e, hc⟩ := hB.row j u hj
  have hne : xs ≠ [] := fun e2 => by rw [e2] at hj; simp [nums] at hj
  refine ⟨ad, e, (World.cell?_of_block ?_).trans hc⟩
  show w1.heap[(ad.add j).block]? = w.heap[(ad.add j).block]?
  have : (ad.add j).block = ad.block := by unfold Addr.add; split <;> rfl
  rw [this]
  exact hb.block _ (hA ad e hne)
theorem one3 {k0 k1 k2 : IntKind} {x0 x1 x2 : Int} : (#[Value.int k0 x0, .int k1 x1, .int k2 x2].all (·.oneCell')) = true := by simp [Value.oneCell']
theorem one3L {k0 k1 k2 : IntKind} {x0 x1 x2 : Int} : ([Value.int k0 x0, .int k1 x1, .int k2 x2].all (·.oneCell')) = true := by simp [Value.oneCell']
def cells3 (t : Int × Int × Int) : List Value := [.int .i8 t.1, .int .i8 t.2.1, .int .i8 t.2.2]
def rowP (L : List (Int × Int × Int)) : List Value := (L.map cells3).flatten
theorem rowP_snoc (L : List (Int × Int × Int)) (t : Int × Int × Int) : rowP (L ++ [t]) = rowP L ++ cells3 t := by simp [rowP]
structure PrOk (t : Int × Int × Int) : Prop where
  p : 0 ≤ t.1 ∧ t.1 ≤ 9
  q : 0 ≤ t.2.1 ∧ t.2.1 ≤ 9
  r : 0 ≤ t.2.2 ∧ t.2.2 ≤ 9
set_option maxHeartbeats 2000000 in
theorem c_l06Told (g N : Nat) (A : Option Addr) (cap : Nat) (xs : List Int) (w : World) (h : Src g N A cap xs w) (hN : N ≤ 1000) (hA : ∀ ad, A = some ad → xs ≠ [] → ad.block < w.heap.size) :
    Calls Try.prog 29 #[.pointer (some ⟨g, 0, none⟩)] w fun e w' => ∃ x y z : Int, PrOk (x, y, z) ∧ e = .returned (.agg #[.int .i8 x, .int .i8 y, .int .i8 z]) ∧ Src g (N + 3) A cap xs w' ∧ Drawn g w.heap.size w w' := by
  have hg : g < w.heap.size := by obtain ⟨_, _, _, _, hb⟩ := h.blk; exact blk_lt hb
  have hb0 : Below w.heap.size w (w.alloc (.cells #[.int .i8 0, .int .i8 0, .int .i8 0] 47 (0, 0))) := below_alloc (Below.refl _ _) _
  have HS := Lib.hid (h.below hb0)
  have HB : Hid (Drawn g w.heap.size w (w.alloc (.cells #[.int .i8 0, .int .i8 0, .int .i8 0] 47 (0, 0)))) := ⟨hb0.os, hb0.tape, hb0.output, hb0.size, fun i hi _ => hb0.block i hi⟩
  have HR := Lib.hid (heap_alloc_new w (.cells #[.int .i8 0, .int .i8 0, .int .i8 0] 47 (0, 0)))
  have HA := Lib.hid hA
  have C1 := Lib.hid (fun w' h => c_pick g N A cap xs 9 w' h (by omega) (by omega))
  have C2 := Lib.hid (fun w' h => c_pick g (N + 1) A cap xs 6 w' h (by omega) (by omega))
  have C3 := Lib.hid (fun w' h => c_pick g (N + 2) A cap xs 7 w' h (by omega) (by omega))
  have HI : Hid ((Try.prog.info? 47).map (·.size) = some 3) := by show (Try.prog.info? 47).map (·.size) = some 3; kernel_rfl
  have hne : ¬ w.heap.size = g := by omega
  clear h hA hb0
  go_enter Try.func29, Try.ntmps29
  go_upto_region 1 with fail
  generalize hwa : w.alloc (.cells #[.int .i8 0, .int .i8 0, .int .i8 0] 47) = wa at *
  clear hwa
  go_upto_region 2 with (first
    | (go_at_call 30; ((with_reducible refine (C1.out _ HS.out).mono ?_); rintro e w1 ⟨r1, rfl, p0, p1, hS, hT⟩; have HS := Lib.hid hS; have HR := Lib.hid (blk_tou HR.out hT hne); have HB := Lib.hid (HB.out.tou hT); clear hS hT C1))
    | (go_at_call 30; ((with_reducible refine (C2.out _ HS.out).mono ?_); rintro e w2 ⟨r2, rfl, q0, q1, hS, hT⟩; have HS := Lib.hid hS; have HR := Lib.hid (blk_tou HR.out hT hne); have HB := Lib.hid (HB.out.tou hT); clear hS hT C2)))
  have hz3 : w.heap.size < w2.heap.size := blk_lt HR.out
  have hgl : g < w2.heap.size := by obtain ⟨_, _, _, _, hb⟩ := HS.out.blk; exact blk_lt hb
  have HS := Lib.hid (HS.out.below (below_alloc (Below.refl _ _) (.cells #[.int .i8 r1, .int .i8 r2, .int .i8 0] 47 (0, 0))))
  have HR := Lib.hid (blk_alloc HR.out (.cells #[.int .i8 r1, .int .i8 r2, .int .i8 0] 47 (0, 0)))
  have HL := Lib.hid (heap_alloc_new w2 (.cells #[.int .i8 r1, .int .i8 r2, .int .i8 0] 47 (0, 0)))
  have HB : Hid (Drawn g w.heap.size w (w2.alloc (.cells #[.int .i8 r1, .int .i8 r2, .int .i8 0] 47 (0, 0)))) := HB.out.alloc (by omega) _
  have HAl : Hid (∀ ad, A = some ad → xs ≠ [] → ad.block ≠ w2.heap.size) := fun ad e en => by have := HA.out ad e en; omega
  have HAr : Hid (∀ ad, A = some ad → xs ≠ [] → ad.block ≠ w.heap.size) := fun ad e en => by have := HA.out ad e en; omega
  generalize hwl : w2.alloc (.cells #[.int .i8 r1, .int .i8 r2, .int .i8 0] 47) = wl at *
  clear hwl
  generalize w2.heap.size = gl at *
  have n1 : ¬ gl = g := by omega
  have n2 : g ≠ gl := by omega
  have n3 : w.heap.size ≠ gl := by omega
  have n4 : w.heap.size ≤ gl := by omega
  have n5 : g ≠ w.heap.size := by omega
  go_upto_region 3 with (go_at_call 30; ((with_reducible refine (C3.out _ HS.out).mono ?_); rintro e w4 ⟨r3, rfl, t0, t1, hS, hT⟩; have HS := Lib.hid hS; have HR := Lib.hid (blk_tou HR.out hT hne); have HL := Lib.hid (blk_tou HL.out hT n1); have HB := Lib.hid (HB.out.tou hT); have x3 := cell_of_row w4 gl 2 _ _ _ HL.out; have f3 := blk_frozen HL.out 2; simp at x3; clear hS hT C3))
  have hT4 := Tou.setCell w4 gl 2 (.int .i8 r3)
  have HS := Lib.hid (HS.out.tou hT4 n2 HAl.out)
  have HR := Lib.hid (blk_tou HR.out hT4 n3)
  have HL : Hid ((w4.setCell ⟨gl, 2, none⟩ (.int .i8 r3)).heap[gl]? = some (.cells #[.int .i8 r1, .int .i8 r2, .int .i8 r3] 47 (0, 0))) := blk_set HL.out 2 _
  have HB := Lib.hid (HB.out.touB hT4 n4)
  clear hT4 x3 f3
  generalize w4.setCell ⟨gl, 2, none⟩ (.int .i8 r3) = wn at *
  go_wp2_with (first
    | (refine wpList_load_row rfl 47 (.tmp 3) rfl gl rfl 47 _ (0, 0) _ HL.out Try.underlying47 rfl HI.out ?_)
    | (refine wpList_store_row rfl 47 (.tmp 2) (.tmp 15) rfl w.heap.size #[.int .i8 r1, .int .i8 r2, .int .i8 r3] rfl rfl 47 _ HR.out HI.out (Eq.refl (3 : Nat)) one3 ?_))
  refine bodyPost_ret (v := .agg #[.int .i8 r1, .int .i8 r2, .int .i8 r3]) (results_cell_row rfl _ _ w.heap.size 47 _ (0, 0) _ rfl (setRow_heap _ _ _ _ _ _ HR.out) Try.underlying47 rfl HI.out) rfl ⟨r1, r2, r3, ⟨by show 0 ≤ r1 ∧ r1 ≤ 9; omega, by show 0 ≤ r2 ∧ r2 ≤ 9; omega, by show 0 ≤ r3 ∧ r3 ≤ 9; omega⟩, rfl, HS.out.tou (Tou.setRow _ _ _) n5 HAr.out, ?_⟩
  exact HB.out.touB (Tou.setRow _ _ _) (Nat.le_refl _)
set_option maxHeartbeats 4000000 in
theorem c_A2Programs (A : Option Addr) (cap : Nat) (xs : List Int) (w : World) (h : BytesAt w A xs) (hA : ∀ ad, A = some ad → xs ≠ [] → ad.block < w.heap.size) :
    Calls Try.prog 6 #[.slice A xs.length cap] w fun e w' => ∃ L v, e = .returned v ∧ 1 ≤ L.length ∧ L.length ≤ 3 ∧ (∀ t ∈ L, PrOk t) ∧ w'.ownsRow w.heap.size 47 3 v L.length (rowP L) ∧ Below w.heap.size w w' := by
  have CF := Lib.hid (c_l00From A cap xs w h hA)
  have HA := Lib.hid hA
  clear h hA
  go_enter Try.func6, Try.ntmps6
  go_upto_region 2 with (go_at_call 28; ((with_reducible refine CF.out.mono ?_); rintro e w1 ⟨rfl, hS, hb⟩; have HS := Lib.hid hS; have HB := Lib.hid hb; clear hS hb))
  have hg : w.heap.size < w1.heap.size := by obtain ⟨_, _, _, _, hb⟩ := HS.out.blk; exact blk_lt hb
  have C1 := Lib.hid (c_l06Told w.heap.size 0 A cap xs w1 HS.out (by omega) (fun ad e en => Nat.lt_of_lt_of_le (HA.out ad e en) HB.out.size))
  go_upto_region 3 with (first
    | (go_at_call 29; ((with_reducible refine C1.out.mono ?_); rintro e w2 ⟨x, y, z, ok, rfl, hS, hD⟩; have OK := Lib.hid ok; have HS := Lib.hid hS; have HB := Lib.hid (HB.out.trans (hD.below (Nat.le_refl _) HB.out.size)); have hz2 := hD.size; clear hS hD ok))
    | (refine wpList_build1 rfl 29 47 (.tmp 9) rfl (#[.int .i8 x, .int .i8 y, .int .i8 z]) 3 (.agg #[.int .i8 0, .int .i8 0, .int .i8 0]) rfl Try.underlying29 (by kernel_rfl) (by decide) (by decide) (rfl) ?_))
  have HO : Hid ((w2.alloc (.cells #[.int .i8 x, .int .i8 y, .int .i8 z] 47 (0, 0))).ownsRow (w.heap.size + 1) 47 3 (.slice (some ⟨w2.heap.size, 0, none⟩) 1 1) 1 (rowP [(x, y, z)])) :=
    own_of_row (heap_alloc_new w2 (.cells #[.int .i8 x, .int .i8 y, .int .i8 z] 47 (0, 0))) rfl (by omega) (by omega)
  have HS := Lib.hid (HS.out.below (below_alloc (Below.refl _ _) (.cells #[.int .i8 x, .int .i8 y, .int .i8 z] 47 (0, 0))))
  have HB := Lib.hid (HB.out.alloc HB.out.size (.cells #[.int .i8 x, .int .i8 y, .int .i8 z] 47 (0, 0)))
  have hgz : w.heap.size < w2.heap.size := by omega
  generalize hwl : w2.alloc (.cells #[.int .i8 x, .int .i8 y, .int .i8 z] 47) = wl at *
  generalize w2.heap.size = gl at *
  have hzl : w.heap.size ≤ wl.heap.size := HB.out.size
  clear hwl hz2 C1
  have C2 := Lib.hid (c_pick w.heap.size 3 A cap xs 3 wl HS.out (by omega) (by omega))
  go_wp2_with (go_at_call 30; ((with_reducible refine C2.out.mono ?_); rintro e w3 ⟨r, rfl, r0, r1, hS, hT⟩; obtain ⟨k0, rfl⟩ := Int.eq_ofNat_of_zero_le r0; have HS := Lib.hid hS; have HO := Lib.hid (own_tou HO.out hT (Nat.lt_succ_self _)); have HB := Lib.hid (HB.out.trans (hT.below (Nat.le_refl _))); clear hS hT C2))
  go_loopw [5, 4] (fun kv v wr => ∃ (k : Nat) (L : List (Int × Int × Int)) (N : Nat), kv = .int .i64 (k : Int) ∧ L.length + k ≤ 3 ∧ 1 ≤ L.length ∧ N ≤ 3 * L.length + 1 ∧ Hid (∀ t ∈ L, PrOk t) ∧ Hid (Src w.heap.size N A cap xs wr) ∧ Hid (wr.ownsRow (w.heap.size + 1) 47 3 v L.length (rowP L)) ∧ Hid (Below w.heap.size w wr)) (fun k _ _ => (intOf k).toNat)
  case atStart => exact ⟨k0, [(x, y, z)], 3 + 1, rfl, by simp; omega, by simp, by simp, (fun t ht => by simp at ht; subst ht; exact OK.out), HS, HO, HB⟩
  case round =>
    clear HS HO HB OK
    obtain ⟨k, L, N, rfl, hk, hL1, hN, HL, HS, HO, HB⟩ := hrel
    by_cases hk0 : 0 < k
    · have d1 : decide (0 < (k : Int)) = true := by simp; omega
      have hzr := HB.out.size
      have hgr : w.heap.size < wr.heap.size := by obtain ⟨_, _, _, _, hb⟩ := HS.out.blk; exact blk_lt hb
      have C3 := Lib.hid (c_l06Told w.heap.size N A cap xs wr HS.out (by omega) (fun ad e en => Nat.lt_of_lt_of_le (HA.out ad e en) HB.out.size))
      have HNE : Hid (∀ g', u4.ownBlock = some g' → w.heap.size + 1 ≤ g') := own_up HO.out
      go_wp2_with (first
        | (go_at_call 29; ((with_reducible refine C3.out.mono ?_); rintro e w4 ⟨x', y', z', ok, rfl, hS, hD⟩; have OK := Lib.hid ok; have HS := Lib.hid hS; have HO := Lib.hid (own_drawn HO.out hD (fun e => by have := HNE.out _ e; omega)); have HB := Lib.hid (HB.out.trans (hD.below (Nat.le_refl _) HB.out.size)); have hz4 := hD.size; clear hS hD ok C3))
        | (refine wpList_build1 rfl 29 47 (.tmp 19) rfl (#[.int .i8 x', .int .i8 y', .int .i8 z']) 3 (.agg #[.int .i8 0, .int .i8 0, .int .i8 0]) rfl Try.underlying29 (by kernel_rfl) (by decide) (by decide) (rfl) ?_)
        | (at_builtin; refine ap1 rfl (.tmp 17) (.tmp 20) 29 47 rfl ((.agg #[.int .i8 0, .int .i8 0, .int .i8 0])) 3 3 (w.heap.size + 1) Try.underlying29 (by kernel_rfl) rfl (by decide) u4 L.length (rowP L) [.int .i8 x', .int .i8 y', .int .i8 z'] rfl rfl (by simp) (rfl) (one3L) HO.out (by omega) (by omega) (by omega) ?_; intro g3 d3 w5 hown hg3 hat; have hBB := below_grown (Below.refl (w.heap.size + 1) w4) hg3 HO.out (Nat.le_refl _) (by omega); have HS := Lib.hid (HS.out.belowB hBB (Nat.lt_succ_self _) (fun ad e en => Nat.lt_succ_of_lt (HA.out ad e en))); have HO5 := Lib.hid hown; have HB := Lib.hid (HB.out.trans (hBB.mono (Nat.le_succ _))); clear hown hat hg3 hBB))
      go_roundw
      case rel => exact ⟨k - 1, L ++ [(x', y', z')], N + 3, by go_num, by simp; omega, by simp, by simp; omega, (fun t ht => by rcases List.mem_append.1 ht with h | h; exact HL.out t h; simp at h; subst h; exact OK.out), HS, (by rw [Hid, rowP_snoc, List.length_append, List.length_singleton]; exact HO5.out), HB⟩
      case measure => simp [intOf]; omega
    · obtain rfl : k = 0 := by omega
      have d1 : decide (0 < ((0 : Nat) : Int)) = false := by simp
      go_wp2
      go_ret
      exact ⟨L, _, rfl, hL1, by omega, HL.out, own_mono HO.out (Nat.le_succ _), HB.out⟩
theorem rowP_get {L : List (Int × Int × Int)} {k : Nat} {t : Int × Int × Int} (hk : L[k]? = some t) {j : Nat} {u : Value} (hj : (cells3 t)[j]? = some u) : (rowP L)[k * 3 + j]? = some u := by
  have hl := (List.getElem?_eq_some_iff.1 hk).1
  have hj3 : j < 3 := (List.getElem?_eq_some_iff.1 hj).1
  have h := flatten_get (sz := 3) (es := L.map cells3) (by intro c hc; obtain ⟨z, hz, rfl⟩ := List.mem_map.1 hc; rfl) k (by simpa using hl) j hj3
  rw [rowP, h]
  simpa [hk] using hj
def pF (L : List (Int × Int × Int)) (j : Nat) : Int := (L.getD j (0, 0, 0)).1
def qF (L : List (Int × Int × Int)) (j : Nat) : Int := (L.getD j (0, 0, 0)).2.1
def rF (L : List (Int × Int × Int)) (j : Nat) : Int := (L.getD j (0, 0, 0)).2.2
theorem progs_row {w : World} {base g c : Nat} {L : List (Int × Int × Int)} (h : w.ownsRow base 47 3 (.slice (some ⟨g, 0, none⟩) L.length c) L.length (rowP L)) : ProgsAt w (some ⟨g, 0, none⟩) L.length (pF L) (qF L) (rF L) := ⟨fun j hj => by
  have hk : L[j]? = some (L[j]) := List.getElem?_eq_getElem hj
  have e : L.getD j (0, 0, 0) = L[j] := by simp [List.getD_eq_getElem?_getD, hj]
  have ea : (Addr.add ⟨g, 0, none⟩ (j * 3)) = ⟨g, j * 3, none⟩ := by unfold Addr.add; split <;> simp_all
  refine ⟨_, rfl, ?_, ?_, ?_⟩
  · rw [ea, pF, e]; exact (own_get h (rowP_get hk (j := 0) rfl)).1
  · rw [ea, qF, e]; exact (own_get h (rowP_get hk (j := 1) rfl)).1
  · rw [ea, rF, e]; exact (own_get h (rowP_get hk (j := 2) rfl)).1⟩
theorem progs_bdL {L : List (Int × Int × Int)} (h : ∀ t ∈ L, PrOk t) : ∀ j, j < L.length → (0 ≤ pF L j ∧ pF L j ≤ 9) ∧ (0 ≤ qF L j ∧ qF L j ≤ 9) ∧ (0 ≤ rF L j ∧ rF L j ≤ 9) := fun j hj => by
  have e : L.getD j (0, 0, 0) = L[j] := by simp [List.getD_eq_getElem?_getD, hj]
  have := h _ (List.getElem_mem hj)
  unfold pF qF rF
  rw [e]
  exact ⟨this.p, this.q, this.r⟩
end Go.Proofs.Ytdmcemhckalhkaa
