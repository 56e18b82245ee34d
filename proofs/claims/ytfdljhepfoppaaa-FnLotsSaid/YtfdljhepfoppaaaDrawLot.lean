/- Lots and orders drawn from bytes. -/
import Derived.Test.YtfdljhepfoppaaaDrawn
import Derived.Test.YtfdljhepfoppaaaEvOps
import Derived.Test.YtfdljhepfoppaaaMem4
import Derived.Test.YtfdljhepfoppaaaSameHas
import Derived.Test.YtfdljhepfoppaaaLotRows
import Derived.Deep.DeepCutAuto
import Derived.BigQuiet
import Derived.Deep.QuietTactic
namespace Go.Proofs.Ytfdljhepfoppaaa
open Go.RowKit
set_option linter.unusedVariables false
set_option linter.unusedSimpArgs false
set_option maxRecDepth 100000

theorem Drawn.belowM {g k B : Nat} {w w1 : World} (h : Drawn g k w w1) (hg : B ≤ g) (hk : B ≤ k) : Below B w w1 := ⟨h.os, h.tape, h.output, h.size, fun i hi => h.block i (by omega) (by omega)⟩
theorem Drawn.thenB {g k : Nat} {w w1 w2 : World} (h : Drawn g k w w1) (hb : Below k w1 w2) : Drawn g k w w2 := ⟨hb.os.trans h.os, hb.tape.trans h.tape, hb.output.trans h.output, Nat.le_trans h.size hb.size, fun i hi hg => (hb.block i hi).trans (h.block i hi hg)⟩
theorem Src.belowM {g N B : Nat} {A : Option Addr} {cap : Nat} {xs : List Int} {w w1 : World} (h : Src g N A cap xs w) (hb : Below B w w1) (hg : g < B) (hA : ∀ ad, A = some ad → xs ≠ [] → ad.block < B) : Src g N A cap xs w1 := by
  obtain ⟨⟨at_, sd, ha, hs, hk⟩, hB, hp⟩ := h
  refine ⟨⟨at_, sd, ha, hs, (hb.block g hg).trans hk⟩, ⟨fun j u hj => ?_, hB.bd, hB.num⟩, hp⟩
  obtain ⟨ad, e, hc⟩ := hB.row j u hj
  have hne : xs ≠ [] := fun e2 => by rw [e2] at hj; simp [nums] at hj
  refine ⟨ad, e, (World.cell?_of_block ?_).trans hc⟩
  show w1.heap[(ad.add j).block]? = w.heap[(ad.add j).block]?
  have : (ad.add j).block = ad.block := by unfold Addr.add; split <;> rfl
  rw [this]
  exact hb.block _ (hA ad e hne)
theorem oneL2 (a g : Int) : ([.int .i8 a, .int .i16 g] : List Value).all (·.oneCell') = true := by simp [Value.oneCell']
/-- The cells of lots (or orders), side by side. -/
def ltRow (L : List (Int × Int)) : List Value := (L.map fun z => [Value.int .i8 z.1, Value.int .i16 z.2]).flatten
theorem ltRow_snoc (L : List (Int × Int)) (a x : Int) : ltRow (L ++ [(a, x)]) = ltRow L ++ [.int .i8 a, .int .i16 x] := by simp [ltRow]
/-- A drawn one. -/
structure LtDr (x : Int × Int) : Prop where
  s : 0 ≤ x.1 ∧ x.1 < 2
  g : 0 ≤ x.2 ∧ x.2 < 120
set_option maxHeartbeats 4000000 in
theorem c_l07Stock (g : Nat) (A : Option Addr) (cap : Nat) (xs : List Int) (w : World) (h : Src g 0 A cap xs w) (hA : ∀ ad, A = some ad → xs ≠ [] → ad.block < w.heap.size) :
    Calls Try.prog 25 #[.pointer (some ⟨g, 0, none⟩)] w fun e w' => ∃ L v, e = .returned v ∧ L.length ≤ 4 ∧ (∀ x ∈ L, LtDr x) ∧ w'.ownsRow w.heap.size 46 2 v L.length (ltRow L) ∧ Drawn g w.heap.size w w' := by
  have hg : g < w.heap.size := by obtain ⟨_, _, _, _, hb⟩ := h.blk; exact blk_lt hb
  have hb0 : Below w.heap.size w (w.alloc (.cells #[] 46 (0, 0))) := below_alloc (Below.refl _ _) _
  have HS := Lib.hid (h.below hb0)
  have HB : Hid (Drawn g w.heap.size w (w.alloc (.cells #[] 46 (0, 0)))) := ⟨hb0.os, hb0.tape, hb0.output, hb0.size, fun i hi _ => hb0.block i hi⟩
  have HO := Lib.hid (own_empty (base := w.heap.size) (e := 46) (size := 2) (heap_alloc_new w (.cells #[] 46 (0, 0))) (Nat.le_refl _))
  have HA := Lib.hid hA
  have C1 := Lib.hid (fun w' h => c_pick g 0 A cap xs 5 w' h (by omega) (by omega))
  clear h hA hb0
  go_enter Try.func25, Try.ntmps25
  go_upto_region 2 with fail
  generalize hwa : w.alloc (.cells #[] 46) = wa at *
  clear hwa
  go_wp2_with (go_at_call 28; ((with_reducible refine (C1.out _ HS.out).mono ?_); rintro e w1 ⟨r, rfl, r0, r1, hS, hT⟩; obtain ⟨k0, rfl⟩ := Int.eq_ofNat_of_zero_le r0; have HS := Lib.hid hS; have HO := Lib.hid (own_tou HO.out hT hg); have HB := Lib.hid (HB.out.tou hT); clear hS hT C1))
  go_loopw [4, 3] (fun kv v wr => ∃ (k : Nat) (L : List (Int × Int)) (N : Nat), kv = .int .i64 (k : Int) ∧ L.length + k ≤ 4 ∧ N ≤ 2 * L.length + 1 ∧ Hid (∀ x ∈ L, LtDr x) ∧ Hid (Src g N A cap xs wr) ∧ Hid (wr.ownsRow w.heap.size 46 2 v L.length (ltRow L)) ∧ Hid (Drawn g w.heap.size w wr)) (fun k _ _ => (intOf k).toNat)
  case atStart => exact ⟨k0, [], 1, rfl, by simp; omega, by simp, (fun t ht => by simp at ht), HS, HO, HB⟩
  case round => as_aux_lemma =>
    clear HS HO HB
    obtain ⟨k, L, N, rfl, hk, hN, HL, HS, HO, HB⟩ := hrel
    by_cases hk0 : 0 < k
    · have d1 : decide (0 < (k : Int)) = true := by simp; omega
      have C2 := Lib.hid (fun w' h => c_pick g N A cap xs 2 w' h (by omega) (by omega))
      have C4 := Lib.hid (fun w' h => c_pick g (N + 1) A cap xs 120 w' h (by omega) (by omega))
      go_wp2_with (first
        | (go_at_call 28; ((with_reducible refine (C2.out _ HS.out).mono ?_); rintro e w2 ⟨a, rfl, a0, a1, hS, hT⟩; replace HS := Lib.hid hS; replace HO := Lib.hid (own_tou HO.out hT hg); replace HB := Lib.hid (HB.out.tou hT); clear hS hT C2))
        | (go_at_call 28; ((with_reducible refine (C4.out _ HS.out).mono ?_); rintro e w5 ⟨c, rfl, c0, c1, hS, hT⟩; replace HS := Lib.hid hS; replace HO := Lib.hid (own_tou HO.out hT hg); replace HB := Lib.hid (HB.out.tou hT); clear hS hT C4))
        | (refine wpList_build1 rfl 24 46 (.tmp 21) rfl (#[.int .i8 a, .int .i16 c]) 2 (.agg #[.int .i8 0, .int .i16 0]) rfl Try.underlying24 (by kernel_rfl) (by decide) (by decide) (rfl) ?_)
        | (at_builtin; refine ap1 rfl (.tmp 15) (.tmp 22) 24 46 rfl ((.agg #[.int .i8 0, .int .i16 0])) 2 4 (w.heap.size) Try.underlying24 (by kernel_rfl) rfl (by decide) u3 L.length (ltRow L) [.int .i8 a, .int .i16 c] rfl rfl (by simp) (rfl) (oneL2 _ _) HO.out HB.out.size (by omega) (by omega) ?_; intro g3 d3 w6 hown hg3 hat; have hBB := below_grown (Below.refl (w.heap.size) _) hg3 HO.out (Nat.le_refl _) HB.out.size; replace HS := Lib.hid (HS.out.belowM hBB hg HA.out); have HO5 := Lib.hid hown; replace HB := Lib.hid (HB.out.thenB hBB); clear hown hat hg3 hBB))
      have HK : Hid (∀ x ∈ L ++ [(a, c)], LtDr x) := fun t ht => by
        rcases List.mem_append.1 ht with h | h
        · exact HL.out t h
        · simp only [List.mem_singleton] at h
          subst h
          exact ⟨⟨a0, a1⟩, by dsimp only; omega⟩
      go_roundw
      case rel => exact ⟨k - 1, L ++ [(a, c)], N + 2, by go_num, by simp; omega, by simp; omega, HK, HS, (by rw [Hid, ltRow_snoc, List.length_append, List.length_singleton]; exact HO5.out), HB⟩
      case measure => simp [intOf]; omega
    · obtain rfl : k = 0 := by omega
      have d1 : decide (0 < ((0 : Nat) : Int)) = false := by simp
      go_wp2
      go_ret
      exact ⟨L, _, rfl, by omega, HL.out, HO.out, HB.out⟩
theorem c_P6Lots (A : Option Addr) (cap : Nat) (xs : List Int) (w : World) (h : BytesAt w A xs) (hA : ∀ ad, A = some ad → xs ≠ [] → ad.block < w.heap.size) :
    Calls Try.prog 5 #[.slice A xs.length cap] w fun e w' => ∃ L v, e = .returned v ∧ L.length ≤ 4 ∧ (∀ x ∈ L, LtDr x) ∧ w'.ownsRow w.heap.size 46 2 v L.length (ltRow L) ∧ Below w.heap.size w w' := by
  have CF := Lib.hid (c_l00From A cap xs w h hA)
  have HA := Lib.hid hA
  clear h hA
  go_enter Try.func5, Try.ntmps5
  go_wp2_with (first
    | (go_at_call 26; ((with_reducible refine CF.out.mono ?_); rintro e w1 ⟨rfl, hS, hb⟩; have HB := Lib.hid hb; have C2 := Lib.hid (c_l07Stock w.heap.size A cap xs w1 hS (fun ad e en => Nat.lt_of_lt_of_le (HA.out ad e en) hb.size)); clear hS hb))
    | (go_at_call 25; ((with_reducible refine C2.out.mono ?_); rintro e w2 ⟨L, v, rfl, hl, hL, hO, hD⟩; have HL := Lib.hid hL; have HO := Lib.hid (own_mono hO HB.out.size); have HB := Lib.hid (HB.out.trans (hD.belowM (Nat.le_refl _) HB.out.size)); clear hL hO hD)))
  go_ret
  exact ⟨L, v, rfl, hl, HL.out, HO.out, HB.out⟩
/-- A drawn one. -/
structure OrDr (x : Int × Int) : Prop where
  s : 0 ≤ x.1 ∧ x.1 < 2
  g : 1 ≤ x.2 ∧ x.2 ≤ 60
set_option maxHeartbeats 4000000 in
theorem c_l07Asked (g : Nat) (A : Option Addr) (cap : Nat) (xs : List Int) (w : World) (h : Src g 0 A cap xs w) (hA : ∀ ad, A = some ad → xs ≠ [] → ad.block < w.heap.size) :
    Calls Try.prog 27 #[.pointer (some ⟨g, 0, none⟩)] w fun e w' => ∃ L v, e = .returned v ∧ L.length ≤ 5 ∧ (∀ x ∈ L, OrDr x) ∧ w'.ownsRow w.heap.size 45 2 v L.length (ltRow L) ∧ Drawn g w.heap.size w w' := by
  have hg : g < w.heap.size := by obtain ⟨_, _, _, _, hb⟩ := h.blk; exact blk_lt hb
  have hb0 : Below w.heap.size w (w.alloc (.cells #[] 45 (0, 0))) := below_alloc (Below.refl _ _) _
  have HS := Lib.hid (h.below hb0)
  have HB : Hid (Drawn g w.heap.size w (w.alloc (.cells #[] 45 (0, 0)))) := ⟨hb0.os, hb0.tape, hb0.output, hb0.size, fun i hi _ => hb0.block i hi⟩
  have HO := Lib.hid (own_empty (base := w.heap.size) (e := 45) (size := 2) (heap_alloc_new w (.cells #[] 45 (0, 0))) (Nat.le_refl _))
  have HA := Lib.hid hA
  have C1 := Lib.hid (fun w' h => c_pick g 0 A cap xs 6 w' h (by omega) (by omega))
  clear h hA hb0
  go_enter Try.func27, Try.ntmps27
  go_upto_region 2 with fail
  generalize hwa : w.alloc (.cells #[] 45) = wa at *
  clear hwa
  go_wp2_with (go_at_call 28; ((with_reducible refine (C1.out _ HS.out).mono ?_); rintro e w1 ⟨r, rfl, r0, r1, hS, hT⟩; obtain ⟨k0, rfl⟩ := Int.eq_ofNat_of_zero_le r0; have HS := Lib.hid hS; have HO := Lib.hid (own_tou HO.out hT hg); have HB := Lib.hid (HB.out.tou hT); clear hS hT C1))
  go_loopw [4, 3] (fun kv v wr => ∃ (k : Nat) (L : List (Int × Int)) (N : Nat), kv = .int .i64 (k : Int) ∧ L.length + k ≤ 5 ∧ N ≤ 2 * L.length + 1 ∧ Hid (∀ x ∈ L, OrDr x) ∧ Hid (Src g N A cap xs wr) ∧ Hid (wr.ownsRow w.heap.size 45 2 v L.length (ltRow L)) ∧ Hid (Drawn g w.heap.size w wr)) (fun k _ _ => (intOf k).toNat)
  case atStart => exact ⟨k0, [], 1, rfl, by simp; omega, by simp, (fun t ht => by simp at ht), HS, HO, HB⟩
  case round => as_aux_lemma =>
    clear HS HO HB
    obtain ⟨k, L, N, rfl, hk, hN, HL, HS, HO, HB⟩ := hrel
    by_cases hk0 : 0 < k
    · have d1 : decide (0 < (k : Int)) = true := by simp; omega
      have C2 := Lib.hid (fun w' h => c_pick g N A cap xs 2 w' h (by omega) (by omega))
      have C4 := Lib.hid (fun w' h => c_pick g (N + 1) A cap xs 60 w' h (by omega) (by omega))
      go_wp2_with (first
        | (go_at_call 28; ((with_reducible refine (C2.out _ HS.out).mono ?_); rintro e w2 ⟨a, rfl, a0, a1, hS, hT⟩; replace HS := Lib.hid hS; replace HO := Lib.hid (own_tou HO.out hT hg); replace HB := Lib.hid (HB.out.tou hT); clear hS hT C2))
        | (go_at_call 28; ((with_reducible refine (C4.out _ HS.out).mono ?_); rintro e w5 ⟨c, rfl, c0, c1, hS, hT⟩; replace HS := Lib.hid hS; replace HO := Lib.hid (own_tou HO.out hT hg); replace HB := Lib.hid (HB.out.tou hT); clear hS hT C4))
        | (refine wpList_build1 rfl 26 45 (.tmp 22) rfl (#[.int .i8 a, .int .i16 (1 + c)]) 2 (.agg #[.int .i8 0, .int .i16 0]) rfl Try.underlying26 (by kernel_rfl) (by decide) (by decide) (rfl) ?_)
        | (at_builtin; refine ap1 rfl (.tmp 15) (.tmp 23) 26 45 rfl ((.agg #[.int .i8 0, .int .i16 0])) 2 4 (w.heap.size) Try.underlying26 (by kernel_rfl) rfl (by decide) u3 L.length (ltRow L) [.int .i8 a, .int .i16 (1 + c)] rfl rfl (by simp) (rfl) (oneL2 _ _) HO.out HB.out.size (by omega) (by omega) ?_; intro g3 d3 w6 hown hg3 hat; have hBB := below_grown (Below.refl (w.heap.size) _) hg3 HO.out (Nat.le_refl _) HB.out.size; replace HS := Lib.hid (HS.out.belowM hBB hg HA.out); have HO5 := Lib.hid hown; replace HB := Lib.hid (HB.out.thenB hBB); clear hown hat hg3 hBB))
      have HK : Hid (∀ x ∈ L ++ [(a, (1 + c))], OrDr x) := fun t ht => by
        rcases List.mem_append.1 ht with h | h
        · exact HL.out t h
        · simp only [List.mem_singleton] at h
          subst h
          exact ⟨⟨a0, a1⟩, by dsimp only; omega⟩
      go_roundw
      case rel => exact ⟨k - 1, L ++ [(a, (1 + c))], N + 2, by go_num, by simp; omega, by simp; omega, HK, HS, (by rw [Hid, ltRow_snoc, List.length_append, List.length_singleton]; exact HO5.out), HB⟩
      case measure => simp [intOf]; omega
    · obtain rfl : k = 0 := by omega
      have d1 : decide (0 < ((0 : Nat) : Int)) = false := by simp
      go_wp2
      go_ret
      exact ⟨L, _, rfl, by omega, HL.out, HO.out, HB.out⟩
theorem c_P6Orders (A : Option Addr) (cap : Nat) (xs : List Int) (w : World) (h : BytesAt w A xs) (hA : ∀ ad, A = some ad → xs ≠ [] → ad.block < w.heap.size) :
    Calls Try.prog 6 #[.slice A xs.length cap] w fun e w' => ∃ L v, e = .returned v ∧ L.length ≤ 5 ∧ (∀ x ∈ L, OrDr x) ∧ w'.ownsRow w.heap.size 45 2 v L.length (ltRow L) ∧ Below w.heap.size w w' := by
  have CF := Lib.hid (c_l00From A cap xs w h hA)
  have HA := Lib.hid hA
  clear h hA
  go_enter Try.func6, Try.ntmps6
  go_wp2_with (first
    | (go_at_call 26; ((with_reducible refine CF.out.mono ?_); rintro e w1 ⟨rfl, hS, hb⟩; have HB := Lib.hid hb; have C2 := Lib.hid (c_l07Asked w.heap.size A cap xs w1 hS (fun ad e en => Nat.lt_of_lt_of_le (HA.out ad e en) hb.size)); clear hS hb))
    | (go_at_call 27; ((with_reducible refine C2.out.mono ?_); rintro e w2 ⟨L, v, rfl, hl, hL, hO, hD⟩; have HL := Lib.hid hL; have HO := Lib.hid (own_mono hO HB.out.size); have HB := Lib.hid (HB.out.trans (hD.belowM (Nat.le_refl _) HB.out.size)); clear hL hO hD)))
  go_ret
  exact ⟨L, v, rfl, hl, HL.out, HO.out, HB.out⟩
theorem c_P6Pick (A : Option Addr) (cap : Nat) (xs : List Int) (n : Int) (w : World) (h : BytesAt w A xs) (hA : ∀ ad, A = some ad → xs ≠ [] → ad.block < w.heap.size) (hn : 1 ≤ n ∧ n ≤ 200) :
    Calls Try.prog 7 #[.slice A xs.length cap, .int .i64 n] w fun e w' => ∃ r : Int, e = .returned (.int .i64 r) ∧ 0 ≤ r ∧ r < n ∧ Below w.heap.size w w' := by
  have CF := Lib.hid (c_l00From A cap xs w h hA)
  clear h hA
  go_enter Try.func7, Try.ntmps7
  go_wp2_with (first
    | (go_at_call 26; ((with_reducible refine CF.out.mono ?_); rintro e w1 ⟨rfl, hS, hb⟩; have HB := Lib.hid hb; have C2 := Lib.hid (c_pick w.heap.size 0 A cap xs n w1 hS (by omega) hn); clear hS hb))
    | (go_at_call 28; ((with_reducible refine C2.out.mono ?_); rintro e w2 ⟨r, rfl, r0, r1, hS, hT⟩; have HB := Lib.hid (HB.out.trans (hT.below (Nat.le_refl _))); clear hS hT)))
  go_ret
  exact ⟨r, rfl, r0, r1, HB.out⟩
theorem c_f6big (A : Option Addr) (n c : Nat) (w : World) :
    Calls Try.prog 4 #[.slice A n c] w fun e w' => e = .returned (.bool (decide ((4096 : Int) < (n : Int)))) ∧ w = w' := by
  go_enter Try.func4, Try.ntmps4
  go_wp2
  exact bodyPost_ret (v := .bool (decide ((4096 : Int) < (n : Int)))) (by simp [results, Try.results4, go_sem]) rfl ⟨rfl, rfl⟩
theorem c_sameNumbers (v v' : Value) (base base' n : Nat) (zs : List Int) (w : World) (h : w.ownsRow base 2 1 v n (nums .i64 zs)) (h' : w.ownsRow base' 2 1 v' n (nums .i64 zs)) (hn : n ≤ 1048576) :
    Calls Try.prog 18 #[v, v'] w fun e w' => e = .returned (.bool true) ∧ Below w.heap.size w w' := by
  obtain ⟨A, c, rfl, _⟩ := own_form h
  obtain ⟨B, c', rfl, _⟩ := own_form h'
  have C := Lib.hid (c_l00Same A B n c c' zs w (own_rd h) (own_rd h') (by have := h.1; simp [nums] at this; omega) hn)
  clear h h'
  go_enter Try.func18, Try.ntmps18
  go_wp2_with (go_at_call 46; ((with_reducible refine C.out.mono ?_); rintro e w1 ⟨rfl, hb⟩))
  go_ret
  exact ⟨rfl, hb⟩
end Go.Proofs.Ytfdljhepfoppaaa
