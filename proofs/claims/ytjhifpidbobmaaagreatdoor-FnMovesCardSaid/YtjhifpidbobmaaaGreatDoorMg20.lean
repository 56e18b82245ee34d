/- Texts laid together: ShareLaw, DrawBase. -/
import Derived.Test.YtjhifpidbobmaaaGreatDoorMg19
import Derived.Test.YtjhifpidbobmaaaGreatDoorMg09
import Derived.Deep.QuietTactic
import Derived.BigQuiet
import Derived.Laws.Bits64b
/- The law on shared cents: plain lists. -/
namespace Go.Proofs.YtjhifpidbobmaaaGreatDoor
open Go.RowKit Go.Sort
set_option linter.unusedVariables false
set_option linter.unusedSimpArgs false

/-- How many of the first n have got a cent. -/
def cntB (f : Nat → Bool) : Nat → Int
  | 0 => 0
  | k + 1 => cntB f k + (if f k = true then 1 else 0)
theorem cntB_put {f : Nat → Bool} {r : Nat} (hf : f r = false) : ∀ n, cntB (fun i => f i || ((r : Int) == (i : Int))) n = cntB f n + (if r < n then 1 else 0)
  | 0 => by simp [cntB]
  | n + 1 => by
    rw [cntB, cntB, cntB_put hf n]
    by_cases e : n = r
    · subst e
      rw [if_neg (by omega), if_pos (by simp), hf, if_neg (by simp), if_pos (by omega)]
    · have : ((r : Int) == (n : Int)) = false := by simp; omega
      rw [this, Bool.or_false]
      by_cases c : r < n
      · rw [if_pos c, if_pos (show r < n + 1 by omega)]; omega
      · rw [if_neg c, if_neg (show ¬ r < n + 1 by omega)]; omega
theorem ordK_free (key : Nat → Int) {n k : Nat} (hk : k < n) : ∃ r : Nat, ordK key n k = (r : Int) ∧ r < n ∧ gvK key n k r = false ∧ ∀ i, i < n → gvK key n k i = false → key i ≤ key r := by
  obtain ⟨r, e, hr⟩ := ordK_bd key hk
  rcases selB_ok key (gvK key n k) n with ⟨e2, _⟩ | ⟨r', e2, h1, h2, h3⟩
  · unfold ordK at e; omega
  · unfold ordK at e
    obtain rfl : r' = r := by omega
    refine ⟨r', e2, h1, h2, fun i hi hg => ?_⟩
    by_cases c : i = r'
    · subst c; exact Int.le_refl _
    · have := h3 i hi hg c
      unfold TK at this; omega
section
variable {key : Nat → Int} {n : Nat}
theorem gv_cnt : ∀ k, k ≤ n → cntB (gvK key n k) n = (k : Int)
  | 0, _ => by
    have : ∀ m, cntB (gvK key n 0) m = 0 := by
      intro m
      induction m with
      | zero => rfl
      | succ m ih => rw [cntB, ih]; simp [gvK]
    exact this n
  | k + 1, hk => by
    obtain ⟨r, e, hr, hg, _⟩ := ordK_free key (show k < n by omega)
    unfold ordK at e
    have h := cntB_put hg n
    have e2 : gvK key n (k + 1) = fun i => gvK key n k i || ((r : Int) == (i : Int)) := by funext i; rw [gvK, e]
    rw [e2, h, gv_cnt k (by omega), if_pos hr]; omega
theorem gv_mono {k i : Nat} (h : gvK key n k i = true) : ∀ m, k ≤ m → gvK key n m i = true
  | 0, hm => by obtain rfl : k = 0 := by omega
                exact h
  | m + 1, hm => by
    by_cases e : k = m + 1
    · subst e; exact h
    · rw [gvK]; dsimp only; rw [gv_mono h m (by omega)]; rfl
/-- Who has got one got it at some step, and then none left was better. -/
theorem gv_step {i : Nat} : ∀ m, m ≤ n → gvK key n m i = true → ∃ k, k < m ∧ gvK key n k i = false ∧ ∀ j, j < n → gvK key n k j = false → key j ≤ key i
  | 0, _, h => by simp [gvK] at h
  | m + 1, hm, h => by
    cases e : gvK key n m i with
    | true => obtain ⟨k, h1, h2⟩ := gv_step m (by omega) e
              exact ⟨k, by omega, h2⟩
    | false =>
      obtain ⟨r, e1, hr, hg, ha⟩ := ordK_free key (show m < n by omega)
      unfold ordK at e1
      rw [gvK] at h
      dsimp only at h
      rw [e, e1, Bool.false_or, beq_iff_eq] at h
      obtain rfl : r = i := by omega
      exact ⟨m, by omega, e, ha⟩
theorem out_gi {base : List Int} (hl : base.length = n) : ∀ k, k ≤ n → ∀ i, i < n → gi (outK base key n k) i = gi base i + (if gvK key n k i = true then 1 else 0)
  | 0, _, i, hi => by simp [outK, gvK]
  | k + 1, hk, i, hi => by
    have ih := out_gi hl k (by omega)
    obtain ⟨r, e, hr, hg, _⟩ := ordK_free key (show k < n by omega)
    rw [outK, e, Int.toNat_natCast, gi_setS _ (by rw [outK_len, hl]; exact hr), gvK]
    unfold ordK at e
    rw [e, ih i hi, ih r hr, hg]
    by_cases c : i = r
    · subst c; simp
    · have : ((r : Int) == (i : Int)) = false := by simp; omega
      rw [if_neg c]
      simp only [this, Bool.or_false]
end
theorem sumZ_gi {xs ys : List Int} {f : Nat → Bool} : ∀ n, (∀ i, i < n → gi xs i = gi ys i + (if f i = true then 1 else 0)) → sumZ xs n = sumZ ys n + cntB f n
  | 0, _ => rfl
  | n + 1, h => by
    rw [sumZ, sumZ, cntB, sumZ_gi n (fun i hi => h i (by omega)), h n (by omega)]; omega
section
variable {c all : Int} {zs : List Int} {n : Nat}
theorem base_gi {i : Nat} (hi : i < n) : gi (baseZ c all zs n) i = quoZ c all zs i := by simp [gi, baseZ, List.getD_eq_getElem?_getD, hi]
theorem base_sum : ∀ k, k ≤ n → sumZ (baseZ c all zs n) k = c - leftZ c all zs k
  | 0, _ => by simp [sumZ, leftZ]
  | k + 1, hk => by rw [sumZ, base_sum k (by omega), base_gi (by omega), leftZ]; omega
/-- The rests of those that have none are nought: then the rests are few. -/
theorem rem_few (f : Nat → Bool) (hr : ∀ i, i < n → 0 ≤ remZ c all zs i ∧ remZ c all zs i < all) (h : ∀ i, i < n → f i = false → remZ c all zs i ≤ 0) : ∀ k, k ≤ n → remS c all zs k ≤ cntB f k * (all - 1)
  | 0, _ => by simp [remS, cntB]
  | k + 1, hk => by
    have ih := rem_few f hr h k (by omega)
    have h1 := hr k (by omega)
    rw [remS, cntB, Int.add_mul]
    cases e : f k with
    | true => rw [if_pos rfl]; omega
    | false => have := h k (by omega) e; rw [if_neg (by simp)]; omega
theorem share_sum (h : ShOk c all zs n) : sumZ (outK (baseZ c all zs n) (remZ c all zs) n (leftZ c all zs n).toNat) n = c := by
  have h1 := (h.left (Nat.le_refl n)).1
  have h2 := h.left_lt
  have hl : (baseZ c all zs n).length = n := by simp [baseZ]
  rw [sumZ_gi n (out_gi hl _ (by omega)), gv_cnt _ (by omega), base_sum n (Nat.le_refl _)]
  omega
theorem share_near (h : ShOk c all zs n) {i : Nat} (hi : i < n) : -all < gi (outK (baseZ c all zs n) (remZ c all zs) n (leftZ c all zs n).toNat) i * all - c * gi zs i ∧ gi (outK (baseZ c all zs n) (remZ c all zs) n (leftZ c all zs n).toNat) i * all - c * gi zs i < all := by
  have h1 := (h.left (Nat.le_refl n)).1
  have h2 := h.left_lt
  have hl : (baseZ c all zs n).length = n := by simp [baseZ]
  have hs := quo_split c all zs i
  have hr := h.rem hi
  have hp := h.pos
  rw [out_gi hl _ (by omega) i hi, base_gi hi]
  cases e : gvK (remZ c all zs) n (leftZ c all zs n).toNat i with
  | false => rw [if_neg (by simp)]; rw [Int.add_zero]; omega
  | true =>
    rw [if_pos rfl, Int.add_mul, Int.one_mul]
    obtain ⟨k, hk, hg, ha⟩ := gv_step _ (by omega) e
    have hpos : 0 < remZ c all zs i := by
      rcases Int.lt_or_le 0 (remZ c all zs i) with c1 | c1
      · exact c1
      · exfalso
        have h3 := rem_few (gvK (remZ c all zs) n k) (fun j hj => h.rem hj) (fun j hj hf => Int.le_trans (ha j hj hf) c1) n (Nat.le_refl _)
        rw [gv_cnt k (by omega)] at h3
        have h4 := left_eq c all zs n
        rw [← h.tot, Int.sub_self, Int.mul_zero, Int.zero_add] at h4
        rw [← h4] at h3
        have h5 : ((k : Int) + 1) * all ≤ leftZ c all zs n * all := Int.mul_le_mul_of_nonneg_right (by omega) (by omega)
        rw [Int.add_mul, Int.one_mul] at h5
        rw [Int.mul_sub, Int.mul_one] at h3
        omega
    omega
theorem share_code (hf : fineZ c zs n = true) (hn : n ≤ 60) (hp : sumZ zs n ≠ 0) : shareF c zs n = (outK (baseZ c (sumZ zs n) zs n) (remZ c (sumZ zs n) zs) n (leftZ c (sumZ zs n) zs n).toNat, 0) := by
  rw [shareF, if_neg (by rw [hf]; simp), if_neg (by omega), if_neg hp]
end
end Go.Proofs.YtjhifpidbobmaaaGreatDoor
/- Numbers drawn from bytes: the reference's source. -/
namespace Go.Proofs.YtjhifpidbobmaaaGreatDoor
open Go.RowKit
set_option linter.unusedVariables false
set_option linter.unusedSimpArgs false
set_option maxRecDepth 100000

/-- Bytes that can be read. -/
structure BytesAt (w : World) (A : Option Addr) (xs : List Int) : Prop where
  row : RdRow w A (nums .u8 xs)
  bd : ∀ j, 0 ≤ gi xs j ∧ gi xs j ≤ 255
  num : xs.length ≤ 1048576
theorem BytesAt.lt {w : World} {A : Option Addr} {xs : List Int} (h : BytesAt w A xs) : ∀ ad, A = some ad → xs ≠ [] → ad.block < w.heap.size := fun ad e en => by
  obtain ⟨ad', e', hc⟩ := h.row 0 _ (nums_get (List.length_pos_iff.2 en))
  rw [e] at e'
  injection e' with e'
  subst e'
  have := World.block_lt_of_cell? w _ hc
  simp only [Addr.add] at this
  split at this <;> exact this
theorem BytesAt.below {w w1 : World} {A : Option Addr} {xs : List Int} (h : BytesAt w A xs) (hb : Below w.heap.size w w1) : BytesAt w1 A xs := ⟨h.row.below hb, h.bd, h.num⟩
/-- A source that has given at most so many numbers. -/
structure Src (g N : Nat) (A : Option Addr) (cap : Nat) (xs : List Int) (w : World) : Prop where
  blk : ∃ (at_ : Nat) (sd : Int), at_ ≤ N ∧ (0 ≤ sd ∧ sd ≤ 18446744073709551615) ∧ w.heap[g]? = some (.cells #[.slice A xs.length cap, .int .i64 (at_ : Int), .int .u64 sd] 87 (0, 0))
  bts : BytesAt w A xs
  apt : ∀ ad, A = some ad → xs ≠ [] → ad.block ≠ g
theorem u64_wrap_bd (x : Int) : 0 ≤ IntKind.u64.wrap x ∧ IntKind.u64.wrap x ≤ 18446744073709551615 := by
  rw [IntKind.wrap_u64]; omega
theorem and255 {x : Int} (h0 : 0 ≤ x) (h1 : x ≤ 18446744073709551615) : 0 ≤ wrap64 (bits .and .u64 x 255) ∧ wrap64 (bits .and .u64 x 255) ≤ 255 := by
  obtain ⟨n, rfl⟩ := Int.eq_ofNat_of_zero_le h0
  have h := bits_and_u64_nat n 255 (by omega) (by decide)
  have h2 : n &&& 255 ≤ 255 := Nat.and_le_right
  have e : ((255 : Nat) : Int) = 255 := rfl
  rw [e] at h
  rw [h, IntWalk.wrap64_in _ (by omega)]
  omega
theorem BytesAt.tou {w w1 : World} {A : Option Addr} {xs : List Int} {g : Nat} (h : BytesAt w A xs) (hA : ∀ ad, A = some ad → xs ≠ [] → ad.block ≠ g) (ht : Tou g w w1) : BytesAt w1 A xs := by
  refine ⟨fun j u hj => ?_, h.bd, h.num⟩
  obtain ⟨ad, e, hc⟩ := h.row j u hj
  refine ⟨ad, e, (World.cell?_of_block ?_).trans hc⟩
  have hb : w1.heap[ad.block]? = w.heap[ad.block]? := ht.block _ (hA ad e (fun e2 => by rw [e2] at hj; simp [nums] at hj))
  simp only [Addr.add]
  (try split) <;> exact hb
theorem src_step {g N at_ k m cap : Nat} {sd z : Int} {A : Option Addr} {xs : List Int} {w : World} (hb : w.heap[g]? = some (.cells #[.slice A xs.length cap, .int .i64 (at_ : Int), .int .u64 sd] 87 (0, 0))) (ha : at_ ≤ N) (hB : BytesAt w A xs) (hA : ∀ ad, A = some ad → xs ≠ [] → ad.block ≠ g) :
    Src g (N + 1) A cap xs ((((w.drewN k).setCell ⟨g, 1, none⟩ (.int .i64 ((at_ : Int) + 1))).setCell ⟨g, 2, none⟩ (.int .u64 (IntKind.u64.wrap z))).drewN m) ∧ Tou g w ((((w.drewN k).setCell ⟨g, 1, none⟩ (.int .i64 ((at_ : Int) + 1))).setCell ⟨g, 2, none⟩ (.int .u64 (IntKind.u64.wrap z))).drewN m) := by
  have ht : Tou g w ((((w.drewN k).setCell ⟨g, 1, none⟩ (.int .i64 ((at_ : Int) + 1))).setCell ⟨g, 2, none⟩ (.int .u64 (IntKind.u64.wrap z))).drewN m) := by
    have t1 := Tou.setCell (w.drewN k) g 1 (.int .i64 ((at_ : Int) + 1))
    have t2 := Tou.setCell ((w.drewN k).setCell ⟨g, 1, none⟩ (.int .i64 ((at_ : Int) + 1))) g 2 (.int .u64 (IntKind.u64.wrap z))
    exact ⟨t2.os.trans t1.os, t2.tape.trans t1.tape, t2.output.trans t1.output, t2.size.trans t1.size, fun i hi => (t2.block i hi).trans (t1.block i hi)⟩
  refine ⟨⟨⟨at_ + 1, IntKind.u64.wrap z, by omega, u64_wrap_bd z, ?_⟩, hB.tou hA ht, hA⟩, ht⟩
  have := blk_set (blk_set (w := w.drewN k) hb 1 (.int .i64 ((at_ : Int) + 1))) 2 (.int .u64 (IntKind.u64.wrap z))
  exact this
set_option maxHeartbeats 2000000 in
theorem c_next (g N : Nat) (A : Option Addr) (cap : Nat) (xs : List Int) (w : World) (h : Src g N A cap xs w) (hN : N ≤ 1000000) :
    Calls Tryz.prog 72 #[.pointer (some ⟨g, 0, none⟩)] w fun e w' => ∃ r : Int, e = .returned (.int .i64 r) ∧ 0 ≤ r ∧ r ≤ 255 ∧ Src g (N + 1) A cap xs w' ∧ Tou g w w' := by
  obtain ⟨⟨at_, sd, ha, ⟨s0, s1⟩, hblk⟩, hbts, hapt⟩ := h
  have HBT := Lib.hid hbts
  have HAP := Lib.hid hapt
  have HBK := Lib.hid hblk
  have x0 := blk_cell hblk 0
  have x1 := blk_cell hblk 1
  have x2 := blk_cell hblk 2
  have f1 := blk_frozen hblk 1
  have f2 := blk_frozen hblk 2
  have hnum := hbts.num
  clear hbts hapt hblk
  by_cases hlt : at_ < xs.length
  · have d1 : decide ((at_ : Int) < (xs.length : Int)) = true := by simp; omega
    have d2 : decide ((at_ : Int) + 1 ≤ (xs.length : Int)) = true := by simp; omega
    have k0 : (0 : Int) ≤ (at_ : Int) := by omega
    have k1 : (at_ : Int) < (xs.length : Int) := by omega
    obtain ⟨ad, rfl, c0⟩ := HBT.out.row at_ _ (nums_get hlt)
    have hne := HAP.out ad rfl (fun e => by rw [e] at hlt; exact absurd hlt (Nat.not_lt_zero _))
    have b0 := (HBT.out.bd at_).1
    have b1 := (HBT.out.bd at_).2
    generalize gi xs at_ = by_ at *
    go_enter Tryz.func72, Tryz.ntmps72
    go_wp2
    go_quiet (fail)
    go_wp2
    go_quiet (fail)
    go_wp2
    go_quiet (fail)
    go_wp2
    have hq := fun k m z => src_step (k := k) (m := m) (z := z) HBK.out ha HBT.out HAP.out
    exact bodyPost_ret (v := .int .i64 by_) (by simp [results, Tryz.results72, go_sem]) rfl ⟨by_, rfl, b0, b1, (hq _ _ _).1, (hq _ _ _).2⟩
  · have d1 : decide ((at_ : Int) < (xs.length : Int)) = false := by simp; omega
    have d2 : decide ((at_ : Int) + 1 ≤ (xs.length : Int)) = false := by simp; omega
    go_enter Tryz.func72, Tryz.ntmps72
    go_wp2
    go_quiet (fail)
    go_wp2
    go_quiet (fail)
    go_wp2
    have hz0 := u64_wrap_bd (IntKind.u64.wrap (IntKind.u64.wrap (sd * 6364136223846793005)) + 1442695040888963407)
    obtain ⟨z0, z1⟩ := and255 (x := IntKind.u64.wrap (IntKind.u64.wrap (IntKind.u64.wrap (sd * 6364136223846793005)) + 1442695040888963407) / 1099511627776) (by omega) (by omega)
    have hq := fun k m z => src_step (k := k) (m := m) (z := z) HBK.out ha HBT.out HAP.out
    exact bodyPost_ret (v := .int .i64 (wrap64 (bits .and .u64 (IntKind.u64.wrap (IntKind.u64.wrap (IntKind.u64.wrap (sd * 6364136223846793005)) + 1442695040888963407) / 1099511627776) 255))) (by simp [results, Tryz.results72, go_sem]) rfl ⟨_, rfl, z0, z1, (hq _ _ _).1, (hq _ _ _).2⟩
set_option maxHeartbeats 1000000 in
theorem c_pick (g N : Nat) (A : Option Addr) (cap : Nat) (xs : List Int) (n : Int) (w : World) (h : Src g N A cap xs w) (hN : N ≤ 900000) (hn : 1 ≤ n ∧ n ≤ 200) :
    Calls Tryz.prog 46 #[.pointer (some ⟨g, 0, none⟩), .int .i64 n] w fun e w' => ∃ r : Int, e = .returned (.int .i64 r) ∧ 0 ≤ r ∧ r < n ∧ Src g (N + 1) A cap xs w' ∧ Tou g w w' := by
  have CN := Lib.hid (c_next g N A cap xs w h (by omega))
  have h1 : Hid (Src g N A cap xs w) := h
  clear h
  obtain ⟨n0, n1⟩ := hn
  by_cases h2 : n = 1
  · subst h2
    go_enter Tryz.func46, Tryz.ntmps46
    go_wp2
    obtain ⟨at_, sd, ha, hs, hb⟩ := h1.out.blk
    exact bodyPost_ret (v := .int .i64 0) (by simp [results, Tryz.results46, go_sem]) rfl ⟨0, rfl, by omega, by omega, ⟨⟨at_, sd, by omega, hs, hb⟩, h1.out.bts, h1.out.apt⟩, ⟨rfl, rfl, rfl, rfl, fun _ _ => rfl⟩⟩
  · have d1 : decide (n ≤ 1) = false := by simp; omega
    have d2 : decide (200 < n) = false := by simp; omega
    have d3 : ¬ n = 0 := by omega
    have n2 : 2 ≤ n := by omega
    clear h2
    go_enter Tryz.func46, Tryz.ntmps46
    go_wp2_with (go_at_call 72; ((refine CN.out.mono ?_); rintro e w1 ⟨r, rfl, r0, r1, hS, hT⟩; have HS := Lib.hid hS; have HT := Lib.hid hT; clear hS hT))
    exact bodyPost_ret (v := .int .i64 (r % n)) (by simp [results, Tryz.results46, go_sem]) rfl ⟨_, rfl, Int.emod_nonneg _ (by omega), Int.emod_lt_of_pos _ (by omega), HS.out, HT.out⟩
theorem c_l00From (A : Option Addr) (cap : Nat) (xs : List Int) (w : World) (h : BytesAt w A xs) (hA : ∀ ad, A = some ad → xs ≠ [] → ad.block < w.heap.size) :
    Calls Tryz.prog 31 #[.slice A xs.length cap] w fun e w' => e = .returned (.pointer (some ⟨w.heap.size, 0, none⟩)) ∧ Src w.heap.size 0 A cap xs w' ∧ Below w.heap.size w w' := by
  have hb : Below w.heap.size w (w.alloc (.cells #[.slice A xs.length cap, .int .i64 0, .int .u64 0] 87 (0, 0))) := below_alloc (Below.refl _ _) _
  have HS : Hid (Src w.heap.size 0 A cap xs (w.alloc (.cells #[.slice A xs.length cap, .int .i64 0, .int .u64 0] 87 (0, 0)))) := ⟨⟨0, 0, Nat.le_refl _, by omega, heap_alloc_new w _⟩, h.below hb, fun ad e en => by have := hA ad e en; omega⟩
  have HB := Lib.hid hb
  clear h hb
  go_enter Tryz.func31, Tryz.ntmps31
  go_wp2
  exact bodyPost_ret (v := .pointer (some ⟨w.heap.size, 0, none⟩)) (by simp [results, Tryz.results31, go_sem]) rfl ⟨rfl, HS.out, HB.out⟩
end Go.Proofs.YtjhifpidbobmaaaGreatDoor
