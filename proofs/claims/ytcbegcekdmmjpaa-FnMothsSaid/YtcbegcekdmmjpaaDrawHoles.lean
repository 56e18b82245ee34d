/- Holes drawn from bytes. -/
import Derived.Test.YtcbegcekdmmjpaaDrawBase
import Derived.Test.YtcbegcekdmmjpaaHolesWeek
namespace Go.Proofs.Ytcbegcekdmmjpaa
open Go.RowKit
set_option linter.unusedVariables false
set_option linter.unusedSimpArgs false
set_option maxRecDepth 100000

theorem Tou.trans {g : Nat} {w w1 w2 : World} (h : Tou g w w1) (h' : Tou g w1 w2) : Tou g w w2 := ⟨h'.os.trans h.os, h'.tape.trans h.tape, h'.output.trans h.output, h'.size.trans h.size, fun k hk => (h'.block k hk).trans (h.block k hk)⟩
theorem Src.tou {g N b : Nat} {A : Option Addr} {cap : Nat} {xs : List Int} {w w1 : World} (h : Src g N A cap xs w) (ht : Tou b w w1) (hb : g ≠ b) (hA : ∀ ad, A = some ad → xs ≠ [] → ad.block ≠ b) : Src g N A cap xs w1 := by
  obtain ⟨⟨at_, sd, ha, hs, hk⟩, hB, hp⟩ := h
  exact ⟨⟨at_, sd, ha, hs, blk_tou hk ht hb⟩, hB.tou hA ht, hp⟩
theorem Src.below {g N : Nat} {A : Option Addr} {cap : Nat} {xs : List Int} {w w1 : World} (h : Src g N A cap xs w) (hb : Below w.heap.size w w1) : Src g N A cap xs w1 := by
  obtain ⟨⟨at_, sd, ha, hs, hk⟩, hB, hp⟩ := h
  exact ⟨⟨at_, sd, ha, hs, blk_below hk hb⟩, hB.below hb, hp⟩
/-- The worlds of a drawing: but for the source's block, what lay below lies. -/
structure Drawn (g k : Nat) (w w1 : World) : Prop where
  os : w1.os = w.os
  tape : w1.tape = w.tape
  output : w1.output = w.output
  size : w.heap.size ≤ w1.heap.size
  block : ∀ i, i < k → i ≠ g → w1.heap[i]? = w.heap[i]?
theorem Drawn.tou {g k : Nat} {w w1 w2 : World} (h : Drawn g k w w1) (ht : Tou g w1 w2) : Drawn g k w w2 := ⟨ht.os.trans h.os, ht.tape.trans h.tape, ht.output.trans h.output, by rw [ht.size]; exact h.size, fun i hi hg => (ht.block i hg).trans (h.block i hi hg)⟩
theorem Drawn.touB {g k b : Nat} {w w1 w2 : World} (h : Drawn g k w w1) (ht : Tou b w1 w2) (hb : k ≤ b) : Drawn g k w w2 := ⟨ht.os.trans h.os, ht.tape.trans h.tape, ht.output.trans h.output, by rw [ht.size]; exact h.size, fun i hi hg => (ht.block i (by omega)).trans (h.block i hi hg)⟩
theorem or_step {w : World} {b T x y : Nat} {hs : List Int} (h : w.heap[b]? = some (.cells (nums .u8 hs).toArray T (0, 0))) (hx : x < 8) : (w.setCell ⟨b, y, none⟩ (.int .u8 (bits .or .u8 (gi hs y) (2 ^ x % 256)))).heap[b]? = some (.cells (nums .u8 (addAt hs x y)).toArray T (0, 0)) := by
  have := blk_set h y (.int .u8 (bits .or .u8 (gi hs y) (2 ^ x % 256)))
  rw [nums_set] at this
  rw [this, pow_mod hx]
  rfl
set_option maxHeartbeats 2000000 in
theorem c_l06Eaten (g : Nat) (A : Option Addr) (cap : Nat) (xs : List Int) (w : World) (h : Src g 0 A cap xs w) (hA : ∀ ad, A = some ad → xs ≠ [] → ad.block < w.heap.size) :
    Calls Try.prog 24 #[.pointer (some ⟨g, 0, none⟩)] w fun e w' => ∃ hs, Holes8 hs ∧ e = .returned (.agg (nums .u8 hs).toArray) ∧ Drawn g w.heap.size w w' := by
  have hg : g < w.heap.size := by obtain ⟨_, _, _, _, hb⟩ := h.blk; exact blk_lt hb
  have hb0 : Below w.heap.size w ((w.alloc (.cells #[.int .u8 0, .int .u8 0, .int .u8 0, .int .u8 0, .int .u8 0, .int .u8 0, .int .u8 0, .int .u8 0] 25 (0, 0))).alloc (.cells #[.int .u8 0, .int .u8 0, .int .u8 0, .int .u8 0, .int .u8 0, .int .u8 0, .int .u8 0, .int .u8 0] 25 (0, 0))) := below_alloc (below_alloc (Below.refl _ _) _) _
  have hr := blk_alloc (heap_alloc_new w (.cells #[.int .u8 0, .int .u8 0, .int .u8 0, .int .u8 0, .int .u8 0, .int .u8 0, .int .u8 0, .int .u8 0] 25 (0, 0))) (.cells #[.int .u8 0, .int .u8 0, .int .u8 0, .int .u8 0, .int .u8 0, .int .u8 0, .int .u8 0, .int .u8 0] 25 (0, 0))
  have ho := heap_alloc_new (w.alloc (.cells #[.int .u8 0, .int .u8 0, .int .u8 0, .int .u8 0, .int .u8 0, .int .u8 0, .int .u8 0, .int .u8 0] 25 (0, 0))) (.cells #[.int .u8 0, .int .u8 0, .int .u8 0, .int .u8 0, .int .u8 0, .int .u8 0, .int .u8 0, .int .u8 0] 25 (0, 0))
  rw [World.size_alloc] at ho
  have HS0 := Lib.hid (h.below hb0)
  have HB0 : Hid (Drawn g w.heap.size w _) := ⟨hb0.os, hb0.tape, hb0.output, hb0.size, fun i hi _ => hb0.block i hi⟩
  have CP := Lib.hid (c_pick g 0 A cap xs 12 _ HS0.out (by omega) (by omega))
  have HR0 := Lib.hid hr
  have HO0 := Lib.hid ho
  have HA := Lib.hid hA
  have hg1 : g ≠ w.heap.size := by omega
  have hg2 : g ≠ w.heap.size + 1 := by omega
  have HAB : Hid (∀ ad, A = some ad → xs ≠ [] → ad.block ≠ w.heap.size + 1) := fun ad e en => by have := hA ad e en; omega
  clear h hA hb0 hr ho
  go_enter Try.func24, Try.ntmps24
  go_wp2_with (go_at_call 44; ((refine CP.out.mono ?_); rintro e w1 ⟨r, rfl, r0, r1, hS, hT⟩; obtain ⟨k0, rfl⟩ := Int.eq_ofNat_of_zero_le r0; have HS := Lib.hid hS; have HR := Lib.hid (blk_tou HR0.out hT hg1.symm); have HO : Hid (w1.heap[w.heap.size + 1]? = some (.cells (nums .u8 noHoles).toArray 25 (0, 0))) := Lib.hid (blk_tou HO0.out hT hg2.symm); have HB := Lib.hid (HB0.out.tou hT); clear hS hT))
  clear HS0 HB0 CP HR0 HO0
  go_loopw [4] (fun x wr => ∃ k M : Nat, x = .int .i64 (k : Int) ∧ M + 3 * k ≤ 60 ∧ ∃ hs, Hid (Holes8 hs) ∧ Hid (Src g M A cap xs wr) ∧ Hid (wr.heap[w.heap.size + 1]? = some (.cells (nums .u8 hs).toArray 25 (0, 0))) ∧ Hid (wr.heap[w.heap.size]? = some (.cells #[.int .u8 0, .int .u8 0, .int .u8 0, .int .u8 0, .int .u8 0, .int .u8 0, .int .u8 0, .int .u8 0] 25 (0, 0))) ∧ Hid (Drawn g w.heap.size w wr)) (fun x _ => (intOf x).toNat)
  case atStart => exact ⟨k0, 0 + 1, rfl, by omega, noHoles, noHoles8, HS, HO, HR, HB⟩
  case round =>
    obtain ⟨k, M, rfl, hM, hs, h8, hS, hO, hR, hB⟩ := hrel
    have hlen := h8.out.len
    by_cases hk : 0 < k
    · have d1 : decide ((0 : Int) < (k : Int)) = true := by simp; omega
      have C1 := Lib.hid (c_pick g M A cap xs 8 wr hS.out (by omega) (by omega))
      have C2 := Lib.hid (fun w' h => c_pick g (M + 1) A cap xs 8 w' h (by omega) (by omega))
      have C3 := Lib.hid (fun w' h => c_one g (M + 2) A cap xs 2 w' h (by omega) (by omega))
      have st1 := Lib.hid True.intro
      go_wp2_with (first
        | (go_at_call 44; clear st1; ((refine C1.out.mono ?_); rintro e w2 ⟨r, rfl, r0, r1, hS, hT⟩; obtain ⟨x, rfl⟩ := Int.eq_ofNat_of_zero_le r0; have hx : x < 8 := (by omega); have HS := Lib.hid hS; have HR := Lib.hid (blk_tou hR.out hT hg1.symm); have HO := Lib.hid (blk_tou hO.out hT hg2.symm); have HB := Lib.hid (hB.out.tou hT); clear hS hT))
        | (go_at_call 44; ((refine (C2.out _ HS.out).mono ?_); rintro e w3 ⟨r, rfl, r0', r1', hS, hT⟩; obtain ⟨y, rfl⟩ := Int.eq_ofNat_of_zero_le r0'; have hy : y < 8 := (by omega); have HS := Lib.hid hS; have HR := Lib.hid (blk_tou HR.out hT hg1.symm); have HO := Lib.hid (blk_tou HO.out hT hg2.symm); have HB := Lib.hid (HB.out.tou hT); have xy := nums_cell HO.out y (by rw [hlen]; exact hy); have fy := blk_frozen HO.out y; have hy8 : (y : Int) < 8 := (by omega); have hx8 : (x : Int) < 8 := (by omega); clear hS hT))
        | (go_at_call 45; have hT3 := Tou.setCell w3 (w.heap.size + 1) y (.int .u8 (bits .or .u8 (gi hs y) (2 ^ x % 256))); have HO := Lib.hid (or_step (y := y) HO.out hx); have HS := Lib.hid (HS.out.tou hT3 hg2 HAB.out); have HR := Lib.hid (blk_tou HR.out hT3 (by omega)); have HB := Lib.hid (HB.out.touB hT3 (Nat.le_succ _)); clear hT3 xy fy; ((refine (C3.out _ HS.out).mono ?_); rintro e w4 ⟨b, rfl, hS, hT⟩; have HS := Lib.hid hS; have HR := Lib.hid (blk_tou HR.out hT hg1.symm); have HO := Lib.hid (blk_tou HO.out hT hg2.symm); have HB := Lib.hid (HB.out.tou hT); have xy := nums_cell HO.out y (by rw [(h8.out.addAt hx).len]; exact hy); have fy := blk_frozen HO.out y; obtain ⟨xm, hxm, hxm8⟩ : ∃ xm : Nat, ((x : Int) + 1) % 8 = (xm : Int) ∧ xm < 8 := ⟨(x + 1) % 8, (by omega), (by omega)⟩; clear hS hT)))
      · have hT5 := Tou.setCell w4 (w.heap.size + 1) y (.int .u8 (bits .or .u8 (gi (addAt hs x y) y) (2 ^ xm % 256)))
        have HO := Lib.hid (or_step (y := y) HO.out hxm8)
        have HS := Lib.hid (HS.out.tou hT5 hg2 HAB.out)
        have HR := Lib.hid (blk_tou HR.out hT5 (by omega))
        have HB := Lib.hid (HB.out.touB hT5 (Nat.le_succ _))
        go_roundw
        case rel => exact ⟨k - 1, M + 2 + 1, by go_num, by omega, _, (h8.out.addAt hx).addAt hxm8, HS, HO, HR, HB⟩
        case measure => simp [intOf]; omega
      · go_roundw
        case rel => exact ⟨k - 1, M + 2 + 1, by go_num, by omega, _, h8.out.addAt hx, HS, HO, HR, HB⟩
        case measure => simp [intOf]; omega
    · obtain rfl : k = 0 := by omega
      have HIW := Lib.hid (holes_info h8.out.len)
      go_wp2_with (first
        | (refine wpList_load_row rfl 25 (.tmp 3) rfl (w.heap.size + 1) rfl 25 _ (0, 0) _ hO.out Try.underlying25 rfl HIW.out ?_)
        | (refine wpList_store_row rfl 25 (.tmp 2) (.tmp 40) rfl w.heap.size (nums .u8 hs).toArray rfl rfl 25 _ hR.out HIW.out (by simp [nums, hlen]) (nums_one _ _) ?_))
      refine bodyPost_ret (v := .agg (nums .u8 hs).toArray) (results_cell_row rfl _ _ w.heap.size 25 _ (0, 0) _ rfl (setRow_heap _ _ _ _ _ _ hR.out) Try.underlying25 rfl HIW.out) rfl ⟨hs, h8.out, rfl, ?_⟩
      exact hB.out.touB (Tou.setRow _ _ _) (Nat.le_refl _)
theorem c_A2Holes (A : Option Addr) (cap : Nat) (xs : List Int) (w : World) (h : BytesAt w A xs) (hA : ∀ ad, A = some ad → xs ≠ [] → ad.block < w.heap.size) :
    Calls Try.prog 5 #[.slice A xs.length cap] w fun e w' => ∃ hs, Holes8 hs ∧ e = .returned (.agg (nums .u8 hs).toArray) ∧ Below w.heap.size w w' := by
  have hb0 : Below w.heap.size w (w.alloc (.cells #[.int .u8 0, .int .u8 0, .int .u8 0, .int .u8 0, .int .u8 0, .int .u8 0, .int .u8 0, .int .u8 0] 25 (0, 0))) := below_alloc (Below.refl _ _) _
  have HR0 := Lib.hid (heap_alloc_new w (.cells #[.int .u8 0, .int .u8 0, .int .u8 0, .int .u8 0, .int .u8 0, .int .u8 0, .int .u8 0, .int .u8 0] 25 (0, 0)))
  have CF := Lib.hid (c_l00From A cap xs _ (h.below hb0) (fun ad e en => Nat.lt_of_lt_of_le (hA ad e en) hb0.size))
  have HB0 := Lib.hid hb0
  have HA := Lib.hid hA
  clear h hb0 hA
  go_enter Try.func5, Try.ntmps5
  go_wp2_with (first
    | (go_at_call 25; ((refine CF.out.mono ?_); rintro e w1 ⟨rfl, hS, hb⟩; have HS := Lib.hid hS; have HR1 := Lib.hid (blk_below HR0.out hb); have HB1 := Lib.hid (below_then HB0.out hb); have hz1 := hb.size; rw [World.size_alloc] at hz1 ⊢; rw [World.size_alloc] at hS; have CE := Lib.hid (c_l06Eaten w.heap.size.succ A cap xs w1 hS (fun ad e en => Nat.lt_of_lt_of_le (HA.out ad e en) HB1.out.size)); clear hS hb))
    | (go_at_call 24; ((refine CE.out.mono ?_); rintro e w2 ⟨hs, h8, rfl, hD⟩; have H8 := Lib.hid h8; have HI := Lib.hid (holes_info h8.len); have hlen := h8.len; have HR2 := Lib.hid ((hD.block w.heap.size (blk_lt HR1.out) (Nat.ne_of_lt (Nat.lt_succ_self _))).trans HR1.out); have HB2 : Hid (Below w.heap.size w w2) := ⟨hD.os.trans HB1.out.os, hD.tape.trans HB1.out.tape, hD.output.trans HB1.out.output, Nat.le_trans HB1.out.size hD.size, fun i hi => (hD.block i (Nat.lt_of_lt_of_le hi HB1.out.size) (Nat.ne_of_lt (Nat.lt_succ_of_lt hi))).trans (HB1.out.block i hi)⟩; clear h8 hD))
    | (refine wpList_store_row rfl 25 (.tmp 2) (.tmp 5) rfl w.heap.size (nums .u8 hs).toArray rfl rfl 25 _ HR2.out HI.out (by simp [nums, hlen]) (nums_one _ _) ?_))
  refine bodyPost_ret (v := .agg (nums .u8 hs).toArray) (results_cell_row rfl _ _ w.heap.size 25 _ (0, 0) _ rfl (setRow_heap _ _ _ _ _ _ HR2.out) Try.underlying25 rfl HI.out) rfl ⟨hs, H8.out, rfl, ?_⟩
  exact HB2.out.trans ((Tou.setRow _ _ _).below (Nat.le_refl _))
end Go.Proofs.Ytcbegcekdmmjpaa
