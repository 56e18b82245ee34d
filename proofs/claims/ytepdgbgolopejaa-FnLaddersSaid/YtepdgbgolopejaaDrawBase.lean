/- Numbers drawn from bytes: the reference's source. -/
import Derived.Test.YtepdgbgolopejaaInt64S
import Derived.Deep.QuietTactic
import Derived.BigQuiet
import Derived.Laws.Bits64b
namespace Go.Proofs.Ytepdgbgolopejaa
open Go.RowKit
set_option linter.unusedVariables false
set_option linter.unusedSimpArgs false
set_option maxRecDepth 100000

/-- Bytes that can be read. -/
structure BytesAt (w : World) (A : Option Addr) (xs : List Int) : Prop where
  row : RdRow w A (nums .u8 xs)
  bd : ∀ j, 0 ≤ gi xs j ∧ gi xs j ≤ 255
  num : xs.length ≤ 1048576
theorem BytesAt.lt {w : World} {A : Option Addr} {xs : List Int} (h : BytesAt w A xs) : ∀ ad, A = some ad → xs ≠ [] → ad.block < w.heap.size := fun ad e en => by
  obtain ⟨ad', e', hc⟩ := h.row 0 _ (nums_get (List.length_pos_iff.2 en))
  rw [e] at e'
  injection e' with e'
  subst e'
  have := World.block_lt_of_cell? w _ hc
  simp only [Addr.add] at this
  split at this <;> exact this
theorem BytesAt.below {w w1 : World} {A : Option Addr} {xs : List Int} (h : BytesAt w A xs) (hb : Below w.heap.size w w1) : BytesAt w1 A xs := ⟨h.row.below hb, h.bd, h.num⟩
/-- A source that has given at most so many numbers. -/
structure Src (g N : Nat) (A : Option Addr) (cap : Nat) (xs : List Int) (w : World) : Prop where
  blk : ∃ (at_ : Nat) (sd : Int), at_ ≤ N ∧ (0 ≤ sd ∧ sd ≤ 18446744073709551615) ∧ w.heap[g]? = some (.cells #[.slice A xs.length cap, .int .i64 (at_ : Int), .int .u64 sd] 91 (0, 0))
  bts : BytesAt w A xs
  apt : ∀ ad, A = some ad → xs ≠ [] → ad.block ≠ g
theorem u64_wrap_bd (x : Int) : 0 ≤ IntKind.u64.wrap x ∧ IntKind.u64.wrap x ≤ 18446744073709551615 := by
  rw [IntKind.wrap_u64]; omega
theorem and255 {x : Int} (h0 : 0 ≤ x) (h1 : x ≤ 18446744073709551615) : 0 ≤ wrap64 (bits .and .u64 x 255) ∧ wrap64 (bits .and .u64 x 255) ≤ 255 := by
  obtain ⟨n, rfl⟩ := Int.eq_ofNat_of_zero_le h0
  have h := bits_and_u64_nat n 255 (by omega) (by decide)
  have h2 : n &&& 255 ≤ 255 := Nat.and_le_right
  have e : ((255 : Nat) : Int) = 255 := rfl
  rw [e] at h
  rw [h, IntWalk.wrap64_in _ (by omega)]
  omega
theorem BytesAt.tou {w w1 : World} {A : Option Addr} {xs : List Int} {g : Nat} (h : BytesAt w A xs) (hA : ∀ ad, A = some ad → xs ≠ [] → ad.block ≠ g) (ht : Tou g w w1) : BytesAt w1 A xs := by
  refine ⟨fun j u hj => ?_, h.bd, h.num⟩
  obtain ⟨ad, e, hc⟩ := h.row j u hj
  refine ⟨ad, e, (World.cell?_of_block ?_).trans hc⟩
  have hb : w1.heap[ad.block]? = w.heap[ad.block]? := ht.block _ (hA ad e (fun e2 => by rw [e2] at hj; simp [nums] at hj))
  simp only [Addr.add]
  (try split) <;> exact hb
theorem src_step {g N at_ k m cap : Nat} {sd z : Int} {A : Option Addr} {xs : List Int} {w : World} (hb : w.heap[g]? = some (.cells #[.slice A xs.length cap, .int .i64 (at_ : Int), .int .u64 sd] 91 (0, 0))) (ha : at_ ≤ N) (hB : BytesAt w A xs) (hA : ∀ ad, A = some ad → xs ≠ [] → ad.block ≠ g) :
    Src g (N + 1) A cap xs ((((w.drewN k).setCell ⟨g, 1, none⟩ (.int .i64 ((at_ : Int) + 1))).setCell ⟨g, 2, none⟩ (.int .u64 (IntKind.u64.wrap z))).drewN m) ∧ Tou g w ((((w.drewN k).setCell ⟨g, 1, none⟩ (.int .i64 ((at_ : Int) + 1))).setCell ⟨g, 2, none⟩ (.int .u64 (IntKind.u64.wrap z))).drewN m) := by
  have ht : Tou g w ((((w.drewN k).setCell ⟨g, 1, none⟩ (.int .i64 ((at_ : Int) + 1))).setCell ⟨g, 2, none⟩ (.int .u64 (IntKind.u64.wrap z))).drewN m) := by
    have t1 := Tou.setCell (w.drewN k) g 1 (.int .i64 ((at_ : Int) + 1))
    have t2 := Tou.setCell ((w.drewN k).setCell ⟨g, 1, none⟩ (.int .i64 ((at_ : Int) + 1))) g 2 (.int .u64 (IntKind.u64.wrap z))
    exact ⟨t2.os.trans t1.os, t2.tape.trans t1.tape, t2.output.trans t1.output, t2.size.trans t1.size, fun i hi => (t2.block i hi).trans (t1.block i hi)⟩
  refine ⟨⟨⟨at_ + 1, IntKind.u64.wrap z, by omega, u64_wrap_bd z, ?_⟩, hB.tou hA ht, hA⟩, ht⟩
  have := blk_set (blk_set (w := w.drewN k) hb 1 (.int .i64 ((at_ : Int) + 1))) 2 (.int .u64 (IntKind.u64.wrap z))
  exact this
set_option maxHeartbeats 2000000 in
theorem c_next (g N : Nat) (A : Option Addr) (cap : Nat) (xs : List Int) (w : World) (h : Src g N A cap xs w) (hN : N ≤ 1000000) :
    Calls Try.prog 64 #[.pointer (some ⟨g, 0, none⟩)] w fun e w' => ∃ r : Int, e = .returned (.int .i64 r) ∧ 0 ≤ r ∧ r ≤ 255 ∧ Src g (N + 1) A cap xs w' ∧ Tou g w w' := by
  obtain ⟨⟨at_, sd, ha, ⟨s0, s1⟩, hblk⟩, hbts, hapt⟩ := h
  have HBT := Lib.hid hbts
  have HAP := Lib.hid hapt
  have HBK := Lib.hid hblk
  have x0 := blk_cell hblk 0
  have x1 := blk_cell hblk 1
  have x2 := blk_cell hblk 2
  have f1 := blk_frozen hblk 1
  have f2 := blk_frozen hblk 2
  have hnum := hbts.num
  clear hbts hapt hblk
  by_cases hlt : at_ < xs.length
  · have d1 : decide ((at_ : Int) < (xs.length : Int)) = true := by simp; omega
    have d2 : decide ((at_ : Int) + 1 ≤ (xs.length : Int)) = true := by simp; omega
    have k0 : (0 : Int) ≤ (at_ : Int) := by omega
    have k1 : (at_ : Int) < (xs.length : Int) := by omega
    obtain ⟨ad, rfl, c0⟩ := HBT.out.row at_ _ (nums_get hlt)
    have hne := HAP.out ad rfl (fun e => by rw [e] at hlt; exact absurd hlt (Nat.not_lt_zero _))
    have b0 := (HBT.out.bd at_).1
    have b1 := (HBT.out.bd at_).2
    generalize gi xs at_ = by_ at *
    go_enter Try.func64, Try.ntmps64
    go_wp2
    go_quiet (fail)
    go_wp2
    go_quiet (fail)
    go_wp2
    go_quiet (fail)
    go_wp2
    have hq := fun k m z => src_step (k := k) (m := m) (z := z) HBK.out ha HBT.out HAP.out
    exact bodyPost_ret (v := .int .i64 by_) (by simp [results, Try.results64, go_sem]) rfl ⟨by_, rfl, b0, b1, (hq _ _ _).1, (hq _ _ _).2⟩
  · have d1 : decide ((at_ : Int) < (xs.length : Int)) = false := by simp; omega
    have d2 : decide ((at_ : Int) + 1 ≤ (xs.length : Int)) = false := by simp; omega
    go_enter Try.func64, Try.ntmps64
    go_wp2
    go_quiet (fail)
    go_wp2
    go_quiet (fail)
    go_wp2
    have hz0 := u64_wrap_bd (IntKind.u64.wrap (IntKind.u64.wrap (sd * 6364136223846793005)) + 1442695040888963407)
    obtain ⟨z0, z1⟩ := and255 (x := IntKind.u64.wrap (IntKind.u64.wrap (IntKind.u64.wrap (sd * 6364136223846793005)) + 1442695040888963407) / 1099511627776) (by omega) (by omega)
    have hq := fun k m z => src_step (k := k) (m := m) (z := z) HBK.out ha HBT.out HAP.out
    exact bodyPost_ret (v := .int .i64 (wrap64 (bits .and .u64 (IntKind.u64.wrap (IntKind.u64.wrap (IntKind.u64.wrap (sd * 6364136223846793005)) + 1442695040888963407) / 1099511627776) 255))) (by simp [results, Try.results64, go_sem]) rfl ⟨_, rfl, z0, z1, (hq _ _ _).1, (hq _ _ _).2⟩
set_option maxHeartbeats 1000000 in
theorem c_pick (g N : Nat) (A : Option Addr) (cap : Nat) (xs : List Int) (n : Int) (w : World) (h : Src g N A cap xs w) (hN : N ≤ 900000) (hn : 1 ≤ n ∧ n ≤ 200) :
    Calls Try.prog 42 #[.pointer (some ⟨g, 0, none⟩), .int .i64 n] w fun e w' => ∃ r : Int, e = .returned (.int .i64 r) ∧ 0 ≤ r ∧ r < n ∧ Src g (N + 1) A cap xs w' ∧ Tou g w w' := by
  have CN := Lib.hid (c_next g N A cap xs w h (by omega))
  have h1 : Hid (Src g N A cap xs w) := h
  clear h
  obtain ⟨n0, n1⟩ := hn
  by_cases h2 : n = 1
  · subst h2
    go_enter Try.func42, Try.ntmps42
    go_wp2
    obtain ⟨at_, sd, ha, hs, hb⟩ := h1.out.blk
    exact bodyPost_ret (v := .int .i64 0) (by simp [results, Try.results42, go_sem]) rfl ⟨0, rfl, by omega, by omega, ⟨⟨at_, sd, by omega, hs, hb⟩, h1.out.bts, h1.out.apt⟩, ⟨rfl, rfl, rfl, rfl, fun _ _ => rfl⟩⟩
  · have d1 : decide (n ≤ 1) = false := by simp; omega
    have d2 : decide (200 < n) = false := by simp; omega
    have d3 : ¬ n = 0 := by omega
    have n2 : 2 ≤ n := by omega
    clear h2
    go_enter Try.func42, Try.ntmps42
    go_wp2_with (go_at_call 64; ((refine CN.out.mono ?_); rintro e w1 ⟨r, rfl, r0, r1, hS, hT⟩; have HS := Lib.hid hS; have HT := Lib.hid hT; clear hS hT))
    exact bodyPost_ret (v := .int .i64 (r % n)) (by simp [results, Try.results42, go_sem]) rfl ⟨_, rfl, Int.emod_nonneg _ (by omega), Int.emod_lt_of_pos _ (by omega), HS.out, HT.out⟩
theorem c_l00From (A : Option Addr) (cap : Nat) (xs : List Int) (w : World) (h : BytesAt w A xs) (hA : ∀ ad, A = some ad → xs ≠ [] → ad.block < w.heap.size) :
    Calls Try.prog 23 #[.slice A xs.length cap] w fun e w' => e = .returned (.pointer (some ⟨w.heap.size, 0, none⟩)) ∧ Src w.heap.size 0 A cap xs w' ∧ Below w.heap.size w w' := by
  have hb : Below w.heap.size w (w.alloc (.cells #[.slice A xs.length cap, .int .i64 0, .int .u64 0] 91 (0, 0))) := below_alloc (Below.refl _ _) _
  have HS : Hid (Src w.heap.size 0 A cap xs (w.alloc (.cells #[.slice A xs.length cap, .int .i64 0, .int .u64 0] 91 (0, 0)))) := ⟨⟨0, 0, Nat.le_refl _, by omega, heap_alloc_new w _⟩, h.below hb, fun ad e en => by have := hA ad e en; omega⟩
  have HB := Lib.hid hb
  clear h hb
  go_enter Try.func23, Try.ntmps23
  go_wp2
  exact bodyPost_ret (v := .pointer (some ⟨w.heap.size, 0, none⟩)) (by simp [results, Try.results23, go_sem]) rfl ⟨rfl, HS.out, HB.out⟩
end Go.Proofs.Ytepdgbgolopejaa
