/- The law on moths (printed by mkmoth.py out of mothrest.txt and mothend.py). -/
import Derived.Test.YtcbegcekdmmjpaaMothBase
import Derived.Test.YtcbegcekdmmjpaaEvOps
import Derived.Test.YtcbegcekdmmjpaaMothUnion
import Derived.BigRegion
import Derived.StillTailTactics
import Derived.Deep.DeepCutAuto
namespace Go.Proofs.Ytcbegcekdmmjpaa
open Go.RowKit
set_option linter.unusedVariables false
set_option linter.unusedSimpArgs false
set_option maxRecDepth 100000

theorem tou_newM {w w1 : World} {o : Obj} (ht : Tou w.heap.size (w.alloc o) w1) : Below w.heap.size w w1 := (below_alloc (Below.refl _ _) _).trans (ht.below (Nat.le_refl _))
theorem bytes_bd {xs : List Int} (h : ∀ z ∈ xs, (Lit.int .u8 z).wf = true) (j : Nat) : 0 ≤ gi xs j ∧ gi xs j ≤ 255 := by
  by_cases hj : j < xs.length
  · have : gi xs j = xs[j] := by simp [gi, List.getD_eq_getElem?_getD, hj]
    rw [this]
    exact wf_u8 (h _ (List.getElem_mem hj))
  · have : gi xs j = 0 := by simp [gi, List.getD_eq_getElem?_getD, List.getElem?_eq_none (Nat.le_of_not_lt hj)]
    rw [this]; decide
def fndX (s : List Int) (q p : Nat) : Bool := (List.range p).any fun x => hole s (x : Int) (q : Int)
theorem blk_differT {w : World} {b e s n k : Nat} {v : Value} {xs : List Value} {cs : Array Value} {t : TypeId} {fr : Nat × Nat} (h : w.heap[k]? = some (.cells cs t fr)) (h' : w.ownsRow b e s v n xs) (he : v.ownBlock ≠ some k) {w1 : World} (ht : Tou k w w1) : w1.ownsRow b e s v n xs := by
  refine h'.kept (row := some k) ⟨ht.os, ht.tape, ht.output, by rw [ht.size]; exact Nat.le_refl _, fun i _ hk => ht.block i (fun he => hk (by rw [he]))⟩ (.inr he)
def fnd (s : List Int) (q : Nat) : Bool := (List.range q).any fun y => (List.range 8).any fun x => hole s (x : Int) (y : Int)
theorem fndX_succ (s : List Int) (q p : Nat) : fndX s q (p + 1) = (fndX s q p || hole s (p : Int) (q : Int)) := by simp [fndX, List.range_succ]
theorem fndX_mono {s : List Int} {q p : Nat} (hp : p ≤ 8) (h : fndX s q p = true) : fndX s q 8 = true := by
  simp only [fndX, List.any_eq_true, List.mem_range] at h ⊢
  obtain ⟨x, hx, e⟩ := h
  exact ⟨x, by omega, e⟩
theorem fnd_true {s : List Int} (h : ∃ x y : Nat, x < 8 ∧ y < 8 ∧ hole s (x : Int) (y : Int) = true) : fnd s 8 = true := by
  obtain ⟨x, y, hx, hy, e⟩ := h
  simp only [fnd, List.any_eq_true, List.mem_range]
  exact ⟨y, hy, x, hx, e⟩
theorem fnd_succ (s : List Int) (q : Nat) : fnd s (q + 1) = (fnd s q || fndX s q 8) := by simp [fnd, fndX, List.range_succ]
theorem bit_zero {s : List Int} (h8 : Holes8 s) {q p : Nat} (hp : p < 8) (hq : q < 8) : ((gi s q / 2 ^ p).tmod 2 == 0) = !hole s (p : Int) (q : Int) := by
  rw [hole_in hp hq, tmod2 _ (Int.ediv_nonneg (h8.bd q).1 (Int.pow_nonneg (by decide)))]
  have e : bitAt (gi s q) (p : Int) = gi s q / 2 ^ p % 2 := rfl
  rw [e]
  have h := Int.emod_two_eq (gi s q / 2 ^ p)
  rcases h with h | h <;> rw [h] <;> rfl
theorem mend_yes {hs r : List Int} {x y : Int} (h : mendF hs x y = (r, 0)) : mendF hs x y = (r, 0) := h
theorem lget_mem {L : List (List Int)} {k : Nat} (h : k < L.length) : L.getD k [] ∈ L := by
  rw [List.getD_eq_getElem?_getD, List.getElem?_eq_getElem h]; exact List.getElem_mem h
theorem sumC_bd (L : List (List Int)) : ∀ k, 0 ≤ sumC L k ∧ sumC L k ≤ 64 * (k : Int)
  | 0 => by simp [sumC]
  | k + 1 => by
    have h1 := sumC_bd L k
    have h2 := cnt_bd (L.getD k []) 64
    simp only [sumC]
    omega
theorem list8 {hs : List Int} (h : Holes8 hs) : [gi hs 0, gi hs 1, gi hs 2, gi hs 3, gi hs 4, gi hs 5, gi hs 6, gi hs 7] = hs := by
  have := h.len
  match hs, this with
  | [a, b, c, d, e, f, g, i], _ => rfl
theorem eqLit {a b : List Int} (ha : Holes8 a) (hb : Holes8 b) (w : World) : (Op.equalIn 10000 25 (.agg #[.int .u8 (gi a 0), .int .u8 (gi a 1), .int .u8 (gi a 2), .int .u8 (gi a 3), .int .u8 (gi a 4), .int .u8 (gi a 5), .int .u8 (gi a 6), .int .u8 (gi a 7)]) (.agg #[.int .u8 (gi b 0), .int .u8 (gi b 1), .int .u8 (gi b 2), .int .u8 (gi b 3), .int .u8 (gi b 4), .int .u8 (gi b 5), .int .u8 (gi b 6), .int .u8 (gi b 7)])).run Try.prog w = .ok (a == b) w := by
  have := run_equalIn_nums (P := Try.prog) w 9998 25 5 8 .u8 Try.underlying25 Try.underlying5 (by kernel_rfl) a b ha.len hb.len
  rw [nums_eight ha.len, nums_eight hb.len] at this
  exact this
/-- While a spot is taken out, row by row. -/
def partL (h s : List Int) (q : Nat) : List Int := (List.range 8).map fun k => if k < q then gi (less h s) k else 0
theorem partL_len (h s : List Int) (q : Nat) : (partL h s q).length = 8 := by simp [partL]
theorem partL_get (h s : List Int) (q : Nat) {k : Nat} (hk : k < 8) : gi (partL h s q) k = if k < q then gi (less h s) k else 0 := by simp [gi, partL, hk]
theorem partL_zero (h s : List Int) : partL h s 0 = [0, 0, 0, 0, 0, 0, 0, 0] := by simp [partL, List.range_succ]
theorem partL_all (h s : List Int) : partL h s 8 = less h s := gi_ext (partL_len _ _ _) (less8 _ _).len fun k hk => by rw [partL_get _ _ _ hk, if_pos hk]
theorem partL_set {h s : List Int} {q : Nat} (hq : q < 8) : (partL h s q).set q (gi (less h s) q) = partL h s (q + 1) := gi_ext (by simp [partL]) (partL_len _ _ _) fun k hk => by
  rw [gi_set _ (by rw [partL_len]; exact hq), partL_get _ _ _ hk, partL_get _ _ _ hk]
  by_cases e : k = q
  · subst e; rw [if_pos rfl, if_pos (Nat.lt_succ_self _)]
  · rw [if_neg e]
    by_cases e2 : k < q
    · rw [if_pos e2, if_pos (by omega)]
    · rw [if_neg e2, if_neg (by omega)]
theorem week_yes {hs : List Int} {n : Int} (h : inB n 1 4 = true) : weeksF hs n 1 = (week hs n, 0) := by rw [weeksF_one, h]; rfl
theorem stays_yes {hs : List Int} {n : Int} (h : inB n 1 4 = true) : staysF hs n = (week hs n == hs, 0) := by rw [staysF, h]; rfl
set_option maxHeartbeats 20000000 in
theorem walk_FnMoths (W : World) (A0 : Option Addr) (cap0 : Nat) (a0 : List Int) (w0 : ∀ z ∈ a0, (Lit.int .u8 z).wf = true) (r0 : RdRow W A0 (nums .u8 a0)) (s0 : a0.length * 1 ≤ 140737488351232) (m0 : a0.length ≤ maxLen) (A1 : Option Addr) (cap1 : Nat) (a1 : List Int) (w1 : ∀ z ∈ a1, (Lit.int .u8 z).wf = true) (r1 : RdRow W A1 (nums .u8 a1)) (s1 : a1.length * 1 ≤ 140737488351232) (m1 : a1.length ≤ maxLen) :
    Calls Try.prog 3 #[.slice A0 a0.length cap0, .slice A1 a1.length cap1] W fun e w' => e = .returned (.bool true) ∧ Below W.heap.size W w' := by
  have CLong := Lib.hid (fun w => c_a2Long A0 A1 a0.length cap0 a1.length cap1 w)
  cases hL : (decide ((3000 : Int) < (a0.length : Int)) || decide ((3000 : Int) < (a1.length : Int)))
  · have hl : a0.length ≤ 3000 ∧ a1.length ≤ 3000 := by simp at hL; omega
    rw [hL] at CLong
    have hB0 : BytesAt W A0 a0 := ⟨r0, bytes_bd w0, by omega⟩
    have hB1 : BytesAt W A1 a1 := ⟨r1, bytes_bd w1, by omega⟩
    have CHo := Lib.hid (c_A2Holes A0 cap0 a0 W hB0 hB0.lt)
    have HY := Lib.hid hB1
    have CA0 : Hid (∀ w, Below W.heap.size W w → Calls Try.prog 6 #[.slice A1 a1.length cap1, .int .i64 0, .int .i64 4] w fun e w' => ∃ r : Int, e = .returned (.int .i64 r) ∧ 0 ≤ r ∧ r < 4 ∧ w = w') := Lib.hid (fun w (hb : Below W.heap.size W w) => c_a2At A1 cap1 a1 0 4 w (hB1.below hb) (by decide) (by decide))
    have CA1 : Hid (∀ w, Below W.heap.size W w → Calls Try.prog 6 #[.slice A1 a1.length cap1, .int .i64 1, .int .i64 6] w fun e w' => ∃ r : Int, e = .returned (.int .i64 r) ∧ 0 ≤ r ∧ r < 6 ∧ w = w') := Lib.hid (fun w (hb : Below W.heap.size W w) => c_a2At A1 cap1 a1 1 6 w (hB1.below hb) (by decide) (by decide))
    have CA2 : Hid (∀ w, Below W.heap.size W w → Calls Try.prog 6 #[.slice A1 a1.length cap1, .int .i64 2, .int .i64 50] w fun e w' => ∃ r : Int, e = .returned (.int .i64 r) ∧ 0 ≤ r ∧ r < 50 ∧ w = w') := Lib.hid (fun w (hb : Below W.heap.size W w) => c_a2At A1 cap1 a1 2 50 w (hB1.below hb) (by decide) (by decide))
    have HIx := Lib.hid (fun (hs : List Int) (h : Holes8 hs) => holes_info h.len)
    have CRd := Lib.hid (fun (h : List Int) (h8 : Holes8 h) w => read_txt h8 ▸ c_iReadHoles (txtT h 8) w)
    have CW1 := Lib.hid (fun (h : List Int) (n : Int) (h8 : Holes8 h) (hn : inB n 1 4 = true) w => week_yes hn ▸ c_iWeekLater h n w h8)
    have CW2 := Lib.hid (fun (h : List Int) (n : Int) (h8 : Holes8 h) (hn : inB n 1 4 = true) w => week_yes hn ▸ c_sWeekLater h n w h8)
    have CK1 := Lib.hid (fun (h : List Int) (n k : Int) (h8 : Holes8 h) (hn : inB n 1 4 = true) (hk : inB k 0 100 = true) w => weeksF_yes hn hk ▸ c_iWeeksLater h n k w h8)
    have CK2 := Lib.hid (fun (h : List Int) (n k : Int) (h8 : Holes8 h) (hn : inB n 1 4 = true) (hk : inB k 0 100 = true) w => weeksF_yes hn hk ▸ c_sWeeksLater h n k w h8)
    have CSt := Lib.hid (fun (h : List Int) (n : Int) (h8 : Holes8 h) (hn : inB n 1 4 = true) w => stays_yes hn ▸ c_iStaysFor h n w h8)
    clear hB0 hB1 w0 r0 s0 m0 w1 r1 s1 m1 hL
    go_enter Try.func3, Try.ntmps3
    go_upto_region 15 with (first
      | (go_at_call 4; ((refine (CLong.out _).mono ?_); rintro e w1 ⟨rfl, rfl⟩))
      | (go_at_call 5; ((refine CHo.out.mono ?_); rintro e wA ⟨h, h8, rfl, hb⟩; have H8 := Lib.hid h8; have HB := Lib.hid hb; have HK := Lib.hid (Kept.nil wA); clear h8 hb))
      | ((with_reducible refine ev_st 25 5 62 (wA.heap.size) (nums .u8 h).toArray 25 _ ?_ ?_ (heap_alloc_new wA _) ?_ ?_ ?_ ?_); exact rfl; exact rfl; exact HIx.out h H8.out; simp [nums, (H8.out).len]; exact nums_one _ _; intro w1 hblk ht; have hb := tou_newM ht; clear ht; have HB := Lib.hid (below_then HB.out hb); have HK := Lib.hid (HK.out.below hb); (try have HR := Lib.hid (own_below HR.out hb)); (try have HQ := Lib.hid (own_below HQ.out hb)); have HK := Lib.hid (HK.out.cons hblk); clear hblk hb)
      | (go_at_call 6; ((with_reducible refine (CA0.out _ HB.out).mono ?_); rintro e w1 ⟨r, rfl, r0, r1, rfl⟩; obtain ⟨need, hneed⟩ : ∃ need : Int, need = 1 + r := ⟨_, rfl⟩; have hN : inB (1 + r) 1 4 = true := (by simp [inB]; omega)))
      | (go_at_call 6; ((with_reducible refine (CA1.out _ HB.out).mono ?_); rintro e w1 ⟨wk, rfl, k0, k1, rfl⟩; have hW : inB wk 0 100 = true := (by simp [inB]; omega)))
      | ((with_reducible refine ev_ld 25 5 (wA.heap.size) 25 (nums .u8 h).toArray (0, 0) _ ?_ ?_ Try.underlying25 ?_ ?_ ?_); exact rfl; exact HK.out (wA.heap.size, h) (by simp); exact rfl; exact HIx.out h H8.out)
      | (go_at_call 8; ((refine (c_iHolesText h _ H8.out).mono ?_); rintro e wT ⟨rfl, hb⟩; have HB := Lib.hid (below_then HB.out hb); have HK := Lib.hid (HK.out.below hb); (try have HR := Lib.hid (own_below HR.out hb)); (try have HQ := Lib.hid (own_below HQ.out hb)); clear hb))
      | (go_at_call 7; ((refine (CRd.out h H8.out _).mono ?_); rintro e wR ⟨rfl, hb⟩; have HB := Lib.hid (below_then HB.out hb); have HK := Lib.hid (HK.out.below hb); (try have HR := Lib.hid (own_below HR.out hb)); (try have HQ := Lib.hid (own_below HQ.out hb)); clear hb))
      | ((with_reducible refine ev_st 25 8 72 (wR.heap.size) (nums .u8 h).toArray 25 _ ?_ ?_ (heap_alloc_new wR _) ?_ ?_ ?_ ?_); exact rfl; exact rfl; exact HIx.out h H8.out; simp [nums, (H8.out).len]; exact nums_one _ _; intro w1 hblk ht; have hb := tou_newM ht; clear ht; have HB := Lib.hid (below_then HB.out hb); have HK := Lib.hid (HK.out.below hb); (try have HR := Lib.hid (own_below HR.out hb)); (try have HQ := Lib.hid (own_below HQ.out hb)); have HK := Lib.hid (HK.out.cons hblk); clear hblk hb)
      | (go_at_call 9; ((refine (CW1.out h (1 + r) H8.out hN _).mono ?_); rintro e wW ⟨rfl, hb⟩; have HB := Lib.hid (below_then HB.out hb); have HK := Lib.hid (HK.out.below hb); (try have HR := Lib.hid (own_below HR.out hb)); (try have HQ := Lib.hid (own_below HQ.out hb)); clear hb))
      | ((with_reducible refine ev_st 25 10 78 (wW.heap.size) (nums .u8 (week h (1 + r))).toArray 25 _ ?_ ?_ (heap_alloc_new wW _) ?_ ?_ ?_ ?_); exact rfl; exact rfl; exact HIx.out (week h (1 + r)) (week8 h (1 + r)); simp [nums, ((week8 h (1 + r))).len]; exact nums_one _ _; intro w1 hblk ht; have hb := tou_newM ht; clear ht; have HB := Lib.hid (below_then HB.out hb); have HK := Lib.hid (HK.out.below hb); (try have HR := Lib.hid (own_below HR.out hb)); (try have HQ := Lib.hid (own_below HQ.out hb)); have HK := Lib.hid (HK.out.cons hblk); clear hblk hb)
      | (go_at_call 10; ((refine (CW2.out h (1 + r) H8.out hN _).mono ?_); rintro e wD ⟨rfl, hb⟩; have HB := Lib.hid (below_then HB.out hb); have HK := Lib.hid (HK.out.below hb); (try have HR := Lib.hid (own_below HR.out hb)); (try have HQ := Lib.hid (own_below HQ.out hb)); clear hb))
      | ((with_reducible refine ev_st 25 12 84 (wD.heap.size) (nums .u8 (week h (1 + r))).toArray 25 _ ?_ ?_ (heap_alloc_new wD _) ?_ ?_ ?_ ?_); exact rfl; exact rfl; exact HIx.out (week h (1 + r)) (week8 h (1 + r)); simp [nums, ((week8 h (1 + r))).len]; exact nums_one _ _; intro w1 hblk ht; have hb := tou_newM ht; clear ht; have HB := Lib.hid (below_then HB.out hb); have HK := Lib.hid (HK.out.below hb); (try have HR := Lib.hid (own_below HR.out hb)); (try have HQ := Lib.hid (own_below HQ.out hb)); have HK := Lib.hid (HK.out.cons hblk); clear hblk hb)
      | (go_at_call 11; ((refine (CK1.out h (1 + r) wk H8.out hN hW _).mono ?_); rintro e wL ⟨rfl, hb⟩; have HB := Lib.hid (below_then HB.out hb); have HK := Lib.hid (HK.out.below hb); (try have HR := Lib.hid (own_below HR.out hb)); (try have HQ := Lib.hid (own_below HQ.out hb)); clear hb))
      | ((with_reducible refine ev_st 25 14 91 (wL.heap.size) (nums .u8 (weeks h (1 + r) wk.toNat)).toArray 25 _ ?_ ?_ (heap_alloc_new wL _) ?_ ?_ ?_ ?_); exact rfl; exact rfl; exact HIx.out (weeks h (1 + r) wk.toNat) (weeks8 H8.out (1 + r) wk.toNat); simp [nums, ((weeks8 H8.out (1 + r) wk.toNat)).len]; exact nums_one _ _; intro w1 hblk ht; have hb := tou_newM ht; clear ht; have HB := Lib.hid (below_then HB.out hb); have HK := Lib.hid (HK.out.below hb); (try have HR := Lib.hid (own_below HR.out hb)); (try have HQ := Lib.hid (own_below HQ.out hb)); have HK := Lib.hid (HK.out.cons hblk); clear hblk hb)
      | (go_at_call 12; ((refine (CK2.out h (1 + r) wk H8.out hN hW _).mono ?_); rintro e wM ⟨rfl, hb⟩; have HB := Lib.hid (below_then HB.out hb); have HK := Lib.hid (HK.out.below hb); (try have HR := Lib.hid (own_below HR.out hb)); (try have HQ := Lib.hid (own_below HQ.out hb)); clear hb))
      | ((with_reducible refine ev_st 25 16 98 (wM.heap.size) (nums .u8 (weeks h (1 + r) wk.toNat)).toArray 25 _ ?_ ?_ (heap_alloc_new wM _) ?_ ?_ ?_ ?_); exact rfl; exact rfl; exact HIx.out (weeks h (1 + r) wk.toNat) (weeks8 H8.out (1 + r) wk.toNat); simp [nums, ((weeks8 H8.out (1 + r) wk.toNat)).len]; exact nums_one _ _; intro w1 hblk ht; have hb := tou_newM ht; clear ht; have HB := Lib.hid (below_then HB.out hb); have HK := Lib.hid (HK.out.below hb); (try have HR := Lib.hid (own_below HR.out hb)); (try have HQ := Lib.hid (own_below HQ.out hb)); have HK := Lib.hid (HK.out.cons hblk); clear hblk hb)
      | (go_at_call 13; ((refine (c_iSpotsIn h H8.out _).mono ?_); rintro e w1 ⟨vR, rfl, hO, hb⟩; have hO := own_mono hO HB.out.size; have HB := Lib.hid (below_then HB.out hb); have HK := Lib.hid (HK.out.below hb); (try have HR := Lib.hid (own_below HR.out hb)); (try have HQ := Lib.hid (own_below HQ.out hb)); have HR := Lib.hid hO; clear hO hb))
      | (go_at_call 14; ((refine (c_sSpotsIn h H8.out _).mono ?_); rintro e w1 ⟨vQ, rfl, hO, hb⟩; have hO := own_mono hO HB.out.size; have HB := Lib.hid (below_then HB.out hb); have HK := Lib.hid (HK.out.below hb); (try have HR := Lib.hid (own_below HR.out hb)); (try have HQ := Lib.hid (own_below HQ.out hb)); have HQ := Lib.hid hO; clear hO hb))
      | (go_at_call 15; ((refine (CSt.out h (1 + r) H8.out hN _).mono ?_); rintro e w1 ⟨rfl, hb⟩; have HB := Lib.hid (below_then HB.out hb); have HK := Lib.hid (HK.out.below hb); (try have HR := Lib.hid (own_below HR.out hb)); (try have HQ := Lib.hid (own_below HQ.out hb)); clear hb))
      | (go_at_call 16; ((refine (c_iCountHoles h _ H8.out).mono ?_); rintro e wC ⟨rfl, hb⟩; have HB := Lib.hid (below_then HB.out hb); have HK := Lib.hid (HK.out.below hb); (try have HR := Lib.hid (own_below HR.out hb)); (try have HQ := Lib.hid (own_below HQ.out hb)); clear hb)))
    have HL8 : Hid (∀ s ∈ (spotsN h 64).1, Holes8 s) := spotsN_all8 64
    have HLn : Hid ((spotsN h 64).1.length ≤ 64) := spotsN_len h 64
    have HSP : Hid (∀ s ∈ (spotsN h 64).1, SpotOk h s) := fun s hs => spotOk_of H8.out hs
    have HSU := Lib.hid (spots_sum H8.out)
    have HSA := Lib.hid (fun a b => spots_all H8.out a b)
    have HSN := Lib.hid (spots_none H8.out)
    have CB1 := Lib.hid (fun n k w => c_iBestMend h n k _ H8.out rfl w)
    have CB2 := Lib.hid (fun n k w => c_sBestMend h n k _ H8.out rfl w)
    generalize (spotsN h 64).1 = L at *
    obtain ⟨AQ, cQ, rfl, hAQ⟩ := own_form HQ.out
    have HAQ := Lib.hid hAQ
    have HCN := Lib.hid (cnt_bd h 64)
    obtain ⟨zb, e1, e2⟩ : ∃ zb : Bool, (cnt h 64 == 0) = zb ∧ (((L.length : Nat) : Int) == 0) = zb := ⟨((L.length : Int) == 0), by
      have := HSN.out
      rw [Bool.eq_iff_iff]
      simp only [beq_iff_eq]
      omega, rfl⟩
    have e3 : (0 : Int) = 0 := rfl
    clear hAQ e3
    go_cut [192] (fun p wx => p = .bool false ∧ Hid (Kept [(wM.heap.size, weeks h (1 + r) wk.toNat), (wL.heap.size, weeks h (1 + r) wk.toNat), (wD.heap.size, week h (1 + r)), (wW.heap.size, week h (1 + r)), (wR.heap.size, h), (wA.heap.size, h)] wx) ∧ Hid (wx.ownsRow W.heap.size 25 8 (.slice AQ L.length cQ) L.length (rows8 L)) ∧ Hid (Below W.heap.size W wx))
    case first => as_aux_lemma =>
      have B0 := HK.out (wA.heap.size, h) (by simp)
      have b00 := nums_cell B0 0 (by rw [(H8.out).len]; decide)
      have b01 := nums_cell B0 1 (by rw [(H8.out).len]; decide)
      have b02 := nums_cell B0 2 (by rw [(H8.out).len]; decide)
      have b03 := nums_cell B0 3 (by rw [(H8.out).len]; decide)
      have b04 := nums_cell B0 4 (by rw [(H8.out).len]; decide)
      have b05 := nums_cell B0 5 (by rw [(H8.out).len]; decide)
      have b06 := nums_cell B0 6 (by rw [(H8.out).len]; decide)
      have b07 := nums_cell B0 7 (by rw [(H8.out).len]; decide)
      clear B0
      have B1 := HK.out (wR.heap.size, h) (by simp)
      have b10 := nums_cell B1 0 (by rw [(H8.out).len]; decide)
      have b11 := nums_cell B1 1 (by rw [(H8.out).len]; decide)
      have b12 := nums_cell B1 2 (by rw [(H8.out).len]; decide)
      have b13 := nums_cell B1 3 (by rw [(H8.out).len]; decide)
      have b14 := nums_cell B1 4 (by rw [(H8.out).len]; decide)
      have b15 := nums_cell B1 5 (by rw [(H8.out).len]; decide)
      have b16 := nums_cell B1 6 (by rw [(H8.out).len]; decide)
      have b17 := nums_cell B1 7 (by rw [(H8.out).len]; decide)
      clear B1
      have B2 := HK.out (wW.heap.size, (week h (1 + r))) (by simp)
      have b20 := nums_cell B2 0 (by rw [((week8 h (1 + r))).len]; decide)
      have b21 := nums_cell B2 1 (by rw [((week8 h (1 + r))).len]; decide)
      have b22 := nums_cell B2 2 (by rw [((week8 h (1 + r))).len]; decide)
      have b23 := nums_cell B2 3 (by rw [((week8 h (1 + r))).len]; decide)
      have b24 := nums_cell B2 4 (by rw [((week8 h (1 + r))).len]; decide)
      have b25 := nums_cell B2 5 (by rw [((week8 h (1 + r))).len]; decide)
      have b26 := nums_cell B2 6 (by rw [((week8 h (1 + r))).len]; decide)
      have b27 := nums_cell B2 7 (by rw [((week8 h (1 + r))).len]; decide)
      clear B2
      have B3 := HK.out (wD.heap.size, (week h (1 + r))) (by simp)
      have b30 := nums_cell B3 0 (by rw [((week8 h (1 + r))).len]; decide)
      have b31 := nums_cell B3 1 (by rw [((week8 h (1 + r))).len]; decide)
      have b32 := nums_cell B3 2 (by rw [((week8 h (1 + r))).len]; decide)
      have b33 := nums_cell B3 3 (by rw [((week8 h (1 + r))).len]; decide)
      have b34 := nums_cell B3 4 (by rw [((week8 h (1 + r))).len]; decide)
      have b35 := nums_cell B3 5 (by rw [((week8 h (1 + r))).len]; decide)
      have b36 := nums_cell B3 6 (by rw [((week8 h (1 + r))).len]; decide)
      have b37 := nums_cell B3 7 (by rw [((week8 h (1 + r))).len]; decide)
      clear B3
      have B4 := HK.out (wL.heap.size, (weeks h (1 + r) wk.toNat)) (by simp)
      have b40 := nums_cell B4 0 (by rw [((weeks8 H8.out (1 + r) wk.toNat)).len]; decide)
      have b41 := nums_cell B4 1 (by rw [((weeks8 H8.out (1 + r) wk.toNat)).len]; decide)
      have b42 := nums_cell B4 2 (by rw [((weeks8 H8.out (1 + r) wk.toNat)).len]; decide)
      have b43 := nums_cell B4 3 (by rw [((weeks8 H8.out (1 + r) wk.toNat)).len]; decide)
      have b44 := nums_cell B4 4 (by rw [((weeks8 H8.out (1 + r) wk.toNat)).len]; decide)
      have b45 := nums_cell B4 5 (by rw [((weeks8 H8.out (1 + r) wk.toNat)).len]; decide)
      have b46 := nums_cell B4 6 (by rw [((weeks8 H8.out (1 + r) wk.toNat)).len]; decide)
      have b47 := nums_cell B4 7 (by rw [((weeks8 H8.out (1 + r) wk.toNat)).len]; decide)
      clear B4
      have B5 := HK.out (wM.heap.size, (weeks h (1 + r) wk.toNat)) (by simp)
      have b50 := nums_cell B5 0 (by rw [((weeks8 H8.out (1 + r) wk.toNat)).len]; decide)
      have b51 := nums_cell B5 1 (by rw [((weeks8 H8.out (1 + r) wk.toNat)).len]; decide)
      have b52 := nums_cell B5 2 (by rw [((weeks8 H8.out (1 + r) wk.toNat)).len]; decide)
      have b53 := nums_cell B5 3 (by rw [((weeks8 H8.out (1 + r) wk.toNat)).len]; decide)
      have b54 := nums_cell B5 4 (by rw [((weeks8 H8.out (1 + r) wk.toNat)).len]; decide)
      have b55 := nums_cell B5 5 (by rw [((weeks8 H8.out (1 + r) wk.toNat)).len]; decide)
      have b56 := nums_cell B5 6 (by rw [((weeks8 H8.out (1 + r) wk.toNat)).len]; decide)
      have b57 := nums_cell B5 7 (by rw [((weeks8 H8.out (1 + r) wk.toNat)).len]; decide)
      clear B5
      have l8h := list8 H8.out
      have l8w := list8 (week8 h (1 + r))
      have l8k := list8 (weeks8 H8.out (1 + r) wk.toNat)
      have q1 := fun w => eqLit (week8 h (1 + r)) H8.out w
      have q2 := fun w => eqLit H8.out H8.out w
      have q3 := fun w => eqLit (week8 h (1 + r)) (week8 h (1 + r)) w
      have q4 := fun w => eqLit (weeks8 H8.out (1 + r) wk.toNat) (weeks8 H8.out (1 + r) wk.toNat) w
      simp only [beq_self_eq_true] at q2 q3 q4
      clear l8h l8w l8k
      have CS8 := Lib.hid (fun w => nums_eight (k := .u8) H8.out.len ▸ c_sCountHoles h w H8.out)
      have st9 := Lib.hid True.intro
      go_wp2_with (first
        | (go_at_call 17; ((refine (c_A2SameSpots _ _ _ _ L _ HR.out HQ.out HL8.out (Nat.le_trans HLn.out (by decide))).mono ?_); rintro e w1 ⟨rfl, hb⟩; have HB := Lib.hid (below_then HB.out hb); have HK := Lib.hid (HK.out.below hb); (try have HR := Lib.hid (own_below HR.out hb)); (try have HQ := Lib.hid (own_below HQ.out hb)); have b00 := (hb.cell (World.block_lt_of_cell? _ _ b00)).trans b00; have b01 := (hb.cell (World.block_lt_of_cell? _ _ b01)).trans b01; have b02 := (hb.cell (World.block_lt_of_cell? _ _ b02)).trans b02; have b03 := (hb.cell (World.block_lt_of_cell? _ _ b03)).trans b03; have b04 := (hb.cell (World.block_lt_of_cell? _ _ b04)).trans b04; have b05 := (hb.cell (World.block_lt_of_cell? _ _ b05)).trans b05; have b06 := (hb.cell (World.block_lt_of_cell? _ _ b06)).trans b06; have b07 := (hb.cell (World.block_lt_of_cell? _ _ b07)).trans b07; have b10 := (hb.cell (World.block_lt_of_cell? _ _ b10)).trans b10; have b11 := (hb.cell (World.block_lt_of_cell? _ _ b11)).trans b11; have b12 := (hb.cell (World.block_lt_of_cell? _ _ b12)).trans b12; have b13 := (hb.cell (World.block_lt_of_cell? _ _ b13)).trans b13; have b14 := (hb.cell (World.block_lt_of_cell? _ _ b14)).trans b14; have b15 := (hb.cell (World.block_lt_of_cell? _ _ b15)).trans b15; have b16 := (hb.cell (World.block_lt_of_cell? _ _ b16)).trans b16; have b17 := (hb.cell (World.block_lt_of_cell? _ _ b17)).trans b17; have b20 := (hb.cell (World.block_lt_of_cell? _ _ b20)).trans b20; have b21 := (hb.cell (World.block_lt_of_cell? _ _ b21)).trans b21; have b22 := (hb.cell (World.block_lt_of_cell? _ _ b22)).trans b22; have b23 := (hb.cell (World.block_lt_of_cell? _ _ b23)).trans b23; have b24 := (hb.cell (World.block_lt_of_cell? _ _ b24)).trans b24; have b25 := (hb.cell (World.block_lt_of_cell? _ _ b25)).trans b25; have b26 := (hb.cell (World.block_lt_of_cell? _ _ b26)).trans b26; have b27 := (hb.cell (World.block_lt_of_cell? _ _ b27)).trans b27; have b30 := (hb.cell (World.block_lt_of_cell? _ _ b30)).trans b30; have b31 := (hb.cell (World.block_lt_of_cell? _ _ b31)).trans b31; have b32 := (hb.cell (World.block_lt_of_cell? _ _ b32)).trans b32; have b33 := (hb.cell (World.block_lt_of_cell? _ _ b33)).trans b33; have b34 := (hb.cell (World.block_lt_of_cell? _ _ b34)).trans b34; have b35 := (hb.cell (World.block_lt_of_cell? _ _ b35)).trans b35; have b36 := (hb.cell (World.block_lt_of_cell? _ _ b36)).trans b36; have b37 := (hb.cell (World.block_lt_of_cell? _ _ b37)).trans b37; have b40 := (hb.cell (World.block_lt_of_cell? _ _ b40)).trans b40; have b41 := (hb.cell (World.block_lt_of_cell? _ _ b41)).trans b41; have b42 := (hb.cell (World.block_lt_of_cell? _ _ b42)).trans b42; have b43 := (hb.cell (World.block_lt_of_cell? _ _ b43)).trans b43; have b44 := (hb.cell (World.block_lt_of_cell? _ _ b44)).trans b44; have b45 := (hb.cell (World.block_lt_of_cell? _ _ b45)).trans b45; have b46 := (hb.cell (World.block_lt_of_cell? _ _ b46)).trans b46; have b47 := (hb.cell (World.block_lt_of_cell? _ _ b47)).trans b47; have b50 := (hb.cell (World.block_lt_of_cell? _ _ b50)).trans b50; have b51 := (hb.cell (World.block_lt_of_cell? _ _ b51)).trans b51; have b52 := (hb.cell (World.block_lt_of_cell? _ _ b52)).trans b52; have b53 := (hb.cell (World.block_lt_of_cell? _ _ b53)).trans b53; have b54 := (hb.cell (World.block_lt_of_cell? _ _ b54)).trans b54; have b55 := (hb.cell (World.block_lt_of_cell? _ _ b55)).trans b55; have b56 := (hb.cell (World.block_lt_of_cell? _ _ b56)).trans b56; have b57 := (hb.cell (World.block_lt_of_cell? _ _ b57)).trans b57; clear hb))
        | (go_at_call 18; ((refine (CS8.out _).mono ?_); rintro e w1 ⟨rfl, hb⟩; have HB := Lib.hid (below_then HB.out hb); have HK := Lib.hid (HK.out.below hb); (try have HR := Lib.hid (own_below HR.out hb)); (try have HQ := Lib.hid (own_below HQ.out hb)); have b00 := (hb.cell (World.block_lt_of_cell? _ _ b00)).trans b00; have b01 := (hb.cell (World.block_lt_of_cell? _ _ b01)).trans b01; have b02 := (hb.cell (World.block_lt_of_cell? _ _ b02)).trans b02; have b03 := (hb.cell (World.block_lt_of_cell? _ _ b03)).trans b03; have b04 := (hb.cell (World.block_lt_of_cell? _ _ b04)).trans b04; have b05 := (hb.cell (World.block_lt_of_cell? _ _ b05)).trans b05; have b06 := (hb.cell (World.block_lt_of_cell? _ _ b06)).trans b06; have b07 := (hb.cell (World.block_lt_of_cell? _ _ b07)).trans b07; have b10 := (hb.cell (World.block_lt_of_cell? _ _ b10)).trans b10; have b11 := (hb.cell (World.block_lt_of_cell? _ _ b11)).trans b11; have b12 := (hb.cell (World.block_lt_of_cell? _ _ b12)).trans b12; have b13 := (hb.cell (World.block_lt_of_cell? _ _ b13)).trans b13; have b14 := (hb.cell (World.block_lt_of_cell? _ _ b14)).trans b14; have b15 := (hb.cell (World.block_lt_of_cell? _ _ b15)).trans b15; have b16 := (hb.cell (World.block_lt_of_cell? _ _ b16)).trans b16; have b17 := (hb.cell (World.block_lt_of_cell? _ _ b17)).trans b17; have b20 := (hb.cell (World.block_lt_of_cell? _ _ b20)).trans b20; have b21 := (hb.cell (World.block_lt_of_cell? _ _ b21)).trans b21; have b22 := (hb.cell (World.block_lt_of_cell? _ _ b22)).trans b22; have b23 := (hb.cell (World.block_lt_of_cell? _ _ b23)).trans b23; have b24 := (hb.cell (World.block_lt_of_cell? _ _ b24)).trans b24; have b25 := (hb.cell (World.block_lt_of_cell? _ _ b25)).trans b25; have b26 := (hb.cell (World.block_lt_of_cell? _ _ b26)).trans b26; have b27 := (hb.cell (World.block_lt_of_cell? _ _ b27)).trans b27; have b30 := (hb.cell (World.block_lt_of_cell? _ _ b30)).trans b30; have b31 := (hb.cell (World.block_lt_of_cell? _ _ b31)).trans b31; have b32 := (hb.cell (World.block_lt_of_cell? _ _ b32)).trans b32; have b33 := (hb.cell (World.block_lt_of_cell? _ _ b33)).trans b33; have b34 := (hb.cell (World.block_lt_of_cell? _ _ b34)).trans b34; have b35 := (hb.cell (World.block_lt_of_cell? _ _ b35)).trans b35; have b36 := (hb.cell (World.block_lt_of_cell? _ _ b36)).trans b36; have b37 := (hb.cell (World.block_lt_of_cell? _ _ b37)).trans b37; have b40 := (hb.cell (World.block_lt_of_cell? _ _ b40)).trans b40; have b41 := (hb.cell (World.block_lt_of_cell? _ _ b41)).trans b41; have b42 := (hb.cell (World.block_lt_of_cell? _ _ b42)).trans b42; have b43 := (hb.cell (World.block_lt_of_cell? _ _ b43)).trans b43; have b44 := (hb.cell (World.block_lt_of_cell? _ _ b44)).trans b44; have b45 := (hb.cell (World.block_lt_of_cell? _ _ b45)).trans b45; have b46 := (hb.cell (World.block_lt_of_cell? _ _ b46)).trans b46; have b47 := (hb.cell (World.block_lt_of_cell? _ _ b47)).trans b47; have b50 := (hb.cell (World.block_lt_of_cell? _ _ b50)).trans b50; have b51 := (hb.cell (World.block_lt_of_cell? _ _ b51)).trans b51; have b52 := (hb.cell (World.block_lt_of_cell? _ _ b52)).trans b52; have b53 := (hb.cell (World.block_lt_of_cell? _ _ b53)).trans b53; have b54 := (hb.cell (World.block_lt_of_cell? _ _ b54)).trans b54; have b55 := (hb.cell (World.block_lt_of_cell? _ _ b55)).trans b55; have b56 := (hb.cell (World.block_lt_of_cell? _ _ b56)).trans b56; have b57 := (hb.cell (World.block_lt_of_cell? _ _ b57)).trans b57; clear hb)))
      go_meet
      exact ⟨rfl, HK, HQ, HB⟩
    case rest => as_aux_lemma =>
      obtain ⟨rfl, HK, HQ, HB⟩ := hcut
      have B5 := Lib.hid (HK.out (wA.heap.size, h) (by simp))
      have B12 := Lib.hid (HK.out (wD.heap.size, week h (1 + r)) (by simp))
      have B16 := Lib.hid (HK.out (wM.heap.size, weeks h (1 + r) wk.toNat) (by simp))
      have X8 := Lib.hid (week8 h (1 + r))
      have K8 := Lib.hid (weeks8 H8.out (1 + r) wk.toNat)
      have Z1 := Lib.hid (fun y (hy : y < 8) => andNot_zero H8.out X8.out (fun a b => week_mono (hs := h) (need := 1 + r) a b) hy)
      have Z2 := Lib.hid (fun (hw : 0 < wk) y (hy : y < 8) => andNot_zero X8.out K8.out (fun a b => weeks_mono1 h (1 + r) wk.toNat (by omega) a b) hy)
      have hl5 := H8.out.len
      have hl12 := X8.out.len
      have hl16 := K8.out.len
      clear HK hneed CLong CHo CA0 CA1 CRd CW1 CW2 CSt
      generalize wA.heap.size = g5 at *
      generalize wD.heap.size = g12 at *
      generalize wM.heap.size = g16 at *
      go_wp2
      go_loopw [25] (fun i wr => ∃ k n : Nat, k ≤ 8 ∧ i = .int .i64 (k : Int) ∧ wr = wc.drewN n) (fun i _ => 8 - (intOf i).toNat)
      case atStart => exact ⟨0, 0, by omega, rfl, rfl⟩
      case round => as_aux_lemma =>
        obtain ⟨k, n, hk, rfl, rfl⟩ := hrel
        by_cases hk8 : k < 8
        ·
          have d1 : decide ((k : Int) < 8) = true := by simp; omega
          have k0 : (0 : Int) ≤ (k : Int) := by omega
          have k1 : (k : Int) < 8 := by omega
          have x5 := nums_cell B5.out k (by rw [hl5]; exact hk8)
          have x12 := nums_cell B12.out k (by rw [hl12]; exact hk8)
          have x16 := nums_cell B16.out k (by rw [hl16]; exact hk8)
          have z1 := Z1.out k hk8
          by_cases hw : 0 < wk
          · have z2 := Z2.out hw k hk8
            have dw : decide (0 < wk) = true := by simpa using hw
            clear hw
            go_wp2
            go_quiet (fail)
            go_wp2
            go_roundw
            case rel => exact ⟨k + 1, _, by omega, by go_num, rfl⟩
            case measure => simp [intOf]; omega
          · have dw : decide (0 < wk) = false := by simpa using hw
            clear hw
            go_wp2
            go_quiet (fail)
            go_wp2
            go_roundw
            case rel => exact ⟨k + 1, _, by omega, by go_num, rfl⟩
            case measure => simp [intOf]; omega
        · obtain rfl : k = 8 := by omega
          rw [show ((8 : Nat) : Int) = 8 from rfl]
          have HBd := Lib.hid (below_drewN HB.out n)
          have HQd : Hid ((wc.drewN n).ownsRow W.heap.size 25 8 (.slice AQ L.length cQ) L.length (rows8 L)) := HQ
          have B5d : Hid ((wc.drewN n).heap[g5]? = some (.cells (nums .u8 h).toArray 25 (0, 0))) := B5
          clear HB HQ B5 B12 B16 X8 K8 Z1 Z2 hl12 hl16
          generalize wc.drewN n = wb at *
          have HG := Lib.hid (show (wb.alloc (.cells #[.int .u8 0, .int .u8 0, .int .u8 0, .int .u8 0, .int .u8 0, .int .u8 0, .int .u8 0, .int .u8 0] 25 (0, 0))).heap[wb.heap.size]? = some (.cells (nums .u8 (unionL L 0)).toArray 25 (0, 0)) from by rw [union_zero]; exact heap_alloc_new wb _)
          have HQlt := Lib.hid (own_lo HQd.out (Nat.le_refl _))
          have HQ := Lib.hid (HQd.out.alloc (.cells #[.int .u8 0, .int .u8 0, .int .u8 0, .int .u8 0, .int .u8 0, .int .u8 0, .int .u8 0, .int .u8 0] 25 (0, 0)))
          have HB := Lib.hid (below_alloc HBd.out (.cells #[.int .u8 0, .int .u8 0, .int .u8 0, .int .u8 0, .int .u8 0, .int .u8 0, .int .u8 0, .int .u8 0] 25 (0, 0)))
          have B5 := Lib.hid (blk_alloc B5d.out (.cells #[.int .u8 0, .int .u8 0, .int .u8 0, .int .u8 0, .int .u8 0, .int .u8 0, .int .u8 0, .int .u8 0] 25 (0, 0)))
          have hg5 : g5 < wb.heap.size := blk_lt B5d.out
          have hWG : W.heap.size ≤ wb.heap.size := HBd.out.size
          clear HQd B5d HBd
          go_wp2
          go_loopw [28, 27] (fun i s wr => ∃ k : Nat, k ≤ L.length ∧ i = .int .i64 (k : Int) ∧ s = .int .i64 (sumC L k) ∧ Hid (wr.heap[wb.heap.size]? = some (.cells (nums .u8 (unionL L k)).toArray 25 (0, 0))) ∧ Hid (wr.heap[g5]? = some (.cells (nums .u8 h).toArray 25 (0, 0))) ∧ Hid (wr.ownsRow W.heap.size 25 8 (.slice AQ L.length cQ) L.length (rows8 L)) ∧ Hid (Below W.heap.size W wr)) (fun i _ _ => L.length - (intOf i).toNat)
          case atStart => exact ⟨0, by omega, rfl, rfl, HG, B5, HQ, HB⟩
          case round => as_aux_lemma =>
            clear HG B5 HQ HB
            obtain ⟨k, hk, rfl, rfl, HG, B5, HQ, HB⟩ := hrel
            have hLn := HLn.out
            by_cases hkl : k < L.length
            · have d1 : decide ((k : Int) < (L.length : Int)) = true := by simp; omega
              obtain ⟨gQ, rfl, -⟩ := HAQ.out (by omega)
              have hgQ : gQ < wb.heap.size := HQlt.out gQ rfl
              have HNE : Hid ((Value.slice (some ⟨gQ, 0, none⟩) L.length cQ).ownBlock ≠ some wb.heap.size) := fun e => by simp only [Value.ownBlock, Option.some.injEq] at e; omega
              have k0 : (0 : Int) ≤ (k : Int) := by omega
              have k1 : (k : Int) < (L.length : Int) := by omega
              have HS := Lib.hid (HSP.out _ (lget_mem hkl))
              have HUR := Lib.hid (fun y (hy : y < 8) => union_row HL8.out hkl hy)
              have HPS := Lib.hid (fun y (hy : y < 8) => partU_set (L := L) (i := k) hy)
              have HGT := Lib.hid (fun (w' : World) (ho : w'.ownsRow W.heap.size 25 8 (.slice (some ⟨gQ, 0, none⟩) L.length cQ) L.length (rows8 L)) y (hy : y < 8) => (own_get ho (rows8_get HL8.out hkl hy)).1)
              have HG0 := Lib.hid (fun (w' : World) (ho : w'.ownsRow W.heap.size 25 8 (.slice (some ⟨gQ, 0, none⟩) L.length cQ) L.length (rows8 L)) => (own_get ho (rows8_get0 HL8.out hkl)).1)
              have hsb := sumC_bd L k
              have HSC : Hid (sumC L (k + 1) = sumC L k + cnt (L.getD k []) 64) := rfl
              generalize L.getD k [] = s at *
              have hcb := cnt_bd s 64
              have HCI := Lib.hid (fun w' => nums_eight (k := .u8) HS.out.h8.len ▸ c_iCountHoles s w' HS.out.h8)
              have a0 := HG0.out wr HQ.out
              have a1 := HGT.out wr HQ.out 1 (by decide)
              have a2 := HGT.out wr HQ.out 2 (by decide)
              have a3 := HGT.out wr HQ.out 3 (by decide)
              have a4 := HGT.out wr HQ.out 4 (by decide)
              have a5 := HGT.out wr HQ.out 5 (by decide)
              have a6 := HGT.out wr HQ.out 6 (by decide)
              have a7 := HGT.out wr HQ.out 7 (by decide)
              have hpos := HS.out.pos
              generalize hcs : cnt s 64 = cs at *
              generalize sumC L k = sm at *
              go_wp2_with (go_at_call 16; ((refine (HCI.out _).mono ?_); rintro e w3 ⟨rfl, hb⟩; have HB := Lib.hid (below_then HB.out hb); have HG := Lib.hid (blk_below HG.out hb); have B5 := Lib.hid (blk_below B5.out hb); have HQ := Lib.hid (own_below HQ.out hb); clear hb a0 a1 a2 a3 a4 a5 a6 a7))
              have H8s := Lib.hid HS.out.h8
              have HMD := Lib.hid (fun (x y : Nat) (hx : x < 8) (hy : y < 8) (hh : hole s (x : Int) (y : Int) = true) w' => mend_yes (HS.out.mend x y hx hy hh) ▸ c_iMendSpot h (x : Int) (y : Int) w' H8.out)
              have HLS := Lib.hid (less8 h s)
              have HCL := Lib.hid (fun w' => c_iCountHoles (less h s) w' (less8 h s))
              have HLC := Lib.hid (hcs ▸ HS.out.cnt)
              have hlen8 := (less8 h s).len
              go_loopw [31, 30] (fun y b wr => ∃ q : Nat, q ≤ 8 ∧ y = .int .i64 (q : Int) ∧ b = .bool (fnd s q) ∧ Hid (wr.heap[wb.heap.size]? = some (.cells (nums .u8 (partU L k q)).toArray 25 (0, 0))) ∧ Hid (wr.heap[g5]? = some (.cells (nums .u8 h).toArray 25 (0, 0))) ∧ Hid (wr.ownsRow W.heap.size 25 8 (.slice (some ⟨gQ, 0, none⟩) L.length cQ) L.length (rows8 L)) ∧ Hid (Below W.heap.size W wr)) (fun y _ _ => 8 - (intOf y).toNat)
              case atStart => exact ⟨0, by omega, rfl, rfl, by rw [partU_zero]; exact HG, B5, HQ, HB⟩
              case round => as_aux_lemma =>
                clear HG B5 HQ HB
                obtain ⟨q, hq, rfl, rfl, HG, B5, HQ, HB⟩ := hrel
                by_cases hq8 : q < 8
                · have d2 : decide ((q : Int) < 8) = true := by simp; omega
                  have q0 : (0 : Int) ≤ (q : Int) := by omega
                  have q1 : (q : Int) < 8 := by omega
                  have xG := nums_cell HG.out q (by rw [partU_len]; exact hq8)
                  have fG := blk_frozen HG.out q
                  have xs := HGT.out wr HQ.out q hq8
                  have eG : gi (partU L k q) q = gi (unionL L k) q := by rw [partU_get _ _ _ hq8, if_neg (Nat.lt_irrefl _)]
                  rw [eG] at xG
                  have HUq := Lib.hid (HUR.out q hq8)
                  clear eG
                  go_wp2
                  go_still_tail 12, (by kernel_rfl)
                  change wpList _ _ _ _ _ wr.drew
                  have HGd : Hid (wr.drew.heap[wb.heap.size]? = some (.cells (nums .u8 (partU L k q)).toArray 25 (0, 0))) := HG.out
                  have B5d : Hid (wr.drew.heap[g5]? = some (.cells (nums .u8 h).toArray 25 (0, 0))) := B5.out
                  have HQd : Hid (wr.drew.ownsRow W.heap.size 25 8 (.slice (some ⟨gQ, 0, none⟩) L.length cQ) L.length (rows8 L)) := own_drew HQ.out
                  have HBd := Lib.hid (below_drew HB.out)
                  have xG' : wr.drew.cell? ⟨wb.heap.size, q, none⟩ = some (.int .u8 (gi (unionL L k) q)) := xG
                  have fG' : wr.drew.frozen? ⟨wb.heap.size, q, none⟩ = false := fG
                  clear xG fG xs HG B5 HQ HB
                  generalize wr.drew = wd at *
                  have hT : Tou wb.heap.size wd (wd.setCell ⟨wb.heap.size, q, none⟩ (.int .u8 (bits .or .u8 (gi (unionL L k) q) (gi s q)))) := Tou.setCell wd wb.heap.size q _
                  have HG : Hid ((wd.setCell ⟨wb.heap.size, q, none⟩ (.int .u8 (bits .or .u8 (gi (unionL L k) q) (gi s q)))).heap[wb.heap.size]? = some (.cells (nums .u8 (partU L k (q + 1))).toArray 25 (0, 0))) := by
                    have := blk_set HGd.out q (.int .u8 (bits .or .u8 (gi (unionL L k) q) (gi s q)))
                    rw [nums_set, HUq.out, HPS.out q hq8] at this
                    rw [Hid, HUq.out]
                    exact this
                  have B5 := Lib.hid (blk_tou B5d.out hT (by omega))
                  have HB := Lib.hid (HBd.out.trans (hT.below hWG))
                  clear hT
                  go_wp2
                  go_loopw [32, 30] (fun x b wr => ∃ p : Nat, p ≤ 8 ∧ x = .int .i64 (p : Int) ∧ b = .bool (fnd s q || fndX s q p) ∧ Hid (wr.heap[wb.heap.size]? = some (.cells (nums .u8 (partU L k (q + 1))).toArray 25 (0, 0))) ∧ Hid (wr.heap[g5]? = some (.cells (nums .u8 h).toArray 25 (0, 0))) ∧ Hid (wr.ownsRow W.heap.size 25 8 (.slice (some ⟨gQ, 0, none⟩) L.length cQ) L.length (rows8 L)) ∧ Hid (Below W.heap.size W wr)) (fun x _ _ => 8 - (intOf x).toNat)
                  case atStart => exact ⟨0, by omega, rfl, by simp [fndX], HG, B5, blk_differT HGd.out HQd.out HNE.out (Tou.setCell _ _ _ _), HB⟩
                  case round => as_aux_lemma =>
                    clear HG B5 HB HGd B5d HQd HBd xG' fG'
                    obtain ⟨p, hp, rfl, rfl, HG, B5, HQ, HB⟩ := hrel
                    cases hb : (fnd s q || fndX s q p)
                    · by_cases hp8 : p < 8
                      · have d3 : decide ((p : Int) < 8) = true := by simp; omega
                        have p0 : (0 : Int) ≤ (p : Int) := by omega
                        have p1 : (p : Int) < 8 := by omega
                        have xs := HGT.out wr HQ.out q hq8
                        have bz := bit_zero H8s.out hp8 hq8
                        have HNX : Hid ((fnd s q || fndX s q (p + 1)) = hole s (p : Int) (q : Int)) := by rw [Hid, fndX_succ, ← Bool.or_assoc, hb, Bool.false_or]
                        cases hh : hole s (p : Int) (q : Int)
                        · as_aux_lemma =>
                          rw [hh] at bz HNX
                          have bz2 : ((gi s q / 2 ^ p).tmod 2 == 0) = true := bz
                          clear hb hh bz
                          go_wp2
                          go_roundw
                          case rel => exact ⟨p + 1, by omega, by go_num, by rw [HNX.out], HG, B5, HQ, HB⟩
                          case measure => simp [intOf]; omega
                        · as_aux_lemma =>
                          rw [hh] at bz HNX
                          have bz2 : ((gi s q / 2 ^ p).tmod 2 == 0) = false := bz
                          have CM := Lib.hid (HMD.out p q hp8 hq8 hh)
                          have HCL8 := Lib.hid (fun w' => HLC.out ▸ nums_eight (k := .u8) hlen8 ▸ HCL.out w')
                          have hcn := HCN.out
                          have hsz5 := Lib.hid (blk_lt HG.out)
                          clear hb hh bz HMD HCL HLC HUq HUR HPS HGT HG0
                          go_wp2_with (first
                            | ((with_reducible refine ev_ld 25 5 g5 25 (nums .u8 h).toArray (0, 0) _ ?_ ?_ Try.underlying25 ?_ ?_ ?_); exact rfl; exact B5.out; exact rfl; exact HIx.out h H8.out)
                            | (go_at_call 19; ((with_reducible refine (CM.out _).mono ?_); rintro e w3 ⟨rfl, hb⟩; have B5 := Lib.hid (blk_below B5.out hb); have HG := Lib.hid (blk_below HG.out hb); have HQ := Lib.hid (own_below HQ.out hb); have HB := Lib.hid (below_then HB.out hb); clear hb))
                            | ((with_reducible refine ev_st 25 33 274 (w3.heap.size) (nums .u8 (less h s)).toArray 25 _ ?_ ?_ (heap_alloc_new w3 _) ?_ ?_ ?_ ?_); exact rfl; exact rfl; exact HIx.out (less h s) HLS.out; simp [nums, hlen8]; exact nums_one _ _; intro w4 hblk ht; have hb := tou_newM ht; clear ht; have B5 := Lib.hid (blk_below B5.out hb); have HG := Lib.hid (blk_below HG.out hb); have HQ := Lib.hid (own_below HQ.out hb); have HB := Lib.hid (below_then HB.out hb); have m0 := nums_cell hblk 0 (by rw [hlen8]; decide); have m1 := nums_cell hblk 1 (by rw [hlen8]; decide); have m2 := nums_cell hblk 2 (by rw [hlen8]; decide); have m3 := nums_cell hblk 3 (by rw [hlen8]; decide); have m4 := nums_cell hblk 4 (by rw [hlen8]; decide); have m5 := nums_cell hblk 5 (by rw [hlen8]; decide); have m6 := nums_cell hblk 6 (by rw [hlen8]; decide); have m7 := nums_cell hblk 7 (by rw [hlen8]; decide); clear hblk hb)
                            | (go_at_call 16; ((with_reducible refine (HCL8.out _).mono ?_); rintro e w5 ⟨rfl, hb⟩; have B5 := Lib.hid (blk_below B5.out hb); have HG := Lib.hid (blk_below HG.out hb); have HQ := Lib.hid (own_below HQ.out hb); have HB := Lib.hid (below_then HB.out hb); clear m0 m1 m2 m3 m4 m5 m6 m7; clear hb)))
                          go_roundw
                          case rel => exact ⟨p + 1, by omega, by go_num, by rw [HNX.out], HG, B5, HQ, HB⟩
                          case measure => simp [intOf]; omega
                      · as_aux_lemma =>
                        obtain rfl : p = 8 := by omega
                        have d3 : decide (((8 : Nat) : Int) < 8) = false := by simp
                        have HFS : Hid (fnd s (q + 1) = false) := by rw [Hid, fnd_succ, hb]
                        clear hb
                        go_wp2
                        go_roundw
                        case rel => exact ⟨q + 1, by omega, by go_num, by rw [HFS.out], HG, B5, HQ, HB⟩
                        case measure => simp [intOf]; omega
                    · as_aux_lemma =>
                      have HFS : Hid (fnd s (q + 1) = true) := by
                        rw [Hid, fnd_succ]
                        rw [Bool.or_eq_true] at hb ⊢
                        exact hb.imp id (fndX_mono hp)
                      clear hb
                      by_cases hp8 : p < 8
                      · have d3 : decide ((p : Int) < 8) = true := by simp; omega
                        go_wp2
                        go_roundw
                        case rel => exact ⟨q + 1, by omega, by go_num, by rw [HFS.out], HG, B5, HQ, HB⟩
                        case measure => simp [intOf]; omega
                      · obtain rfl : p = 8 := by omega
                        have d3 : decide (((8 : Nat) : Int) < 8) = false := by simp
                        go_wp2
                        go_roundw
                        case rel => exact ⟨q + 1, by omega, by go_num, by rw [HFS.out], HG, B5, HQ, HB⟩
                        case measure => simp [intOf]; omega
                · as_aux_lemma =>
                  obtain rfl : q = 8 := by omega
                  have d2 : decide (((8 : Nat) : Int) < 8) = false := by simp
                  have hft := fnd_true HS.out.one
                  rw [hft]
                  rw [partU_all] at HG
                  have d3 : decide (cs < 1) = false := by simp; omega
                  clear hft
                  go_wp2
                  go_roundw
                  case rel => exact ⟨k + 1, by omega, by go_num, by rw [HSC.out], HG, B5, HQ, HB⟩
                  case measure => simp [intOf]; omega
            · as_aux_lemma =>
              obtain rfl : k = L.length := by omega
              have d1 : decide ((L.length : Int) < (L.length : Int)) = false := by simp
              have HUN := union_all H8.out HSA.out
              rw [HUN] at HG
              rw [HSU.out]
              clear HUN
              have bw0 := nums_cell HG.out 0 (by rw [(H8.out).len]; decide)
              have bw1 := nums_cell HG.out 1 (by rw [(H8.out).len]; decide)
              have bw2 := nums_cell HG.out 2 (by rw [(H8.out).len]; decide)
              have bw3 := nums_cell HG.out 3 (by rw [(H8.out).len]; decide)
              have bw4 := nums_cell HG.out 4 (by rw [(H8.out).len]; decide)
              have bw5 := nums_cell HG.out 5 (by rw [(H8.out).len]; decide)
              have bw6 := nums_cell HG.out 6 (by rw [(H8.out).len]; decide)
              have bw7 := nums_cell HG.out 7 (by rw [(H8.out).len]; decide)
              have bg0 := nums_cell B5.out 0 (by rw [(H8.out).len]; decide)
              have bg1 := nums_cell B5.out 1 (by rw [(H8.out).len]; decide)
              have bg2 := nums_cell B5.out 2 (by rw [(H8.out).len]; decide)
              have bg3 := nums_cell B5.out 3 (by rw [(H8.out).len]; decide)
              have bg4 := nums_cell B5.out 4 (by rw [(H8.out).len]; decide)
              have bg5 := nums_cell B5.out 5 (by rw [(H8.out).len]; decide)
              have bg6 := nums_cell B5.out 6 (by rw [(H8.out).len]; decide)
              have bg7 := nums_cell B5.out 7 (by rw [(H8.out).len]; decide)
              have q2 := fun w => eqLit H8.out H8.out w
              simp only [beq_self_eq_true] at q2
              go_upto_region 46 with fail
              clear q2 HG bw0 bw1 bw2 bw3 bw4 bw5 bw6 bw7 bg0 bg1 bg2 bg3 bg4 bg5 bg6 bg7
              have hcz := HSN.out
              have hcn := (cnt_bd h 64).1
              obtain ⟨bi, bF, bk, hbf, zz, hz1, hz2, hBF⟩ : ∃ bi bF bk : Int, bestF h (1 + r) wk L = (bi, bF, bk) ∧ ∃ zz : Bool, (bk == 0) = zz ∧ decide (0 < cnt h 64) = zz ∧ (0 < L.length → ∃ i0 : Nat, i0 < L.length ∧ (bi, bF) = ((i0 : Int), endC h (1 + r) wk.toNat L i0) ∧ (∀ j, j < L.length → endC h (1 + r) wk.toNat L i0 ≤ endC h (1 + r) wk.toNat L j) ∧ ∀ j, j < i0 → endC h (1 + r) wk.toNat L i0 < endC h (1 + r) wk.toNat L j) := by
                by_cases c : L.length = 0
                · exact ⟨0, 0, 6, bestF_none hN hW c, false, rfl, by simp; omega, fun hp => by omega⟩
                · obtain ⟨i0, a1, a2, a3, a4⟩ := bestF_some (hs := h) (need := 1 + r) (wk := wk) (L := L) hN hW (by omega)
                  exact ⟨_, _, _, a2, true, rfl, by simp; omega, fun _ => ⟨i0, a1, rfl, a3, a4⟩⟩
              have CB1' := Lib.hid (fun w => hbf ▸ CB1.out (1 + r) wk w)
              have CB2' := Lib.hid (fun w => hbf ▸ CB2.out (1 + r) wk w)
              have HBF : Hid (0 < L.length → ∃ i0 : Nat, i0 < L.length ∧ (bi, bF) = ((i0 : Int), endC h (1 + r) wk.toNat L i0) ∧ (∀ j, j < L.length → endC h (1 + r) wk.toNat L i0 ≤ endC h (1 + r) wk.toNat L j) ∧ ∀ j, j < i0 → endC h (1 + r) wk.toNat L i0 < endC h (1 + r) wk.toNat L j) := hBF
              clear hcz hcn hbf hBF CB1 CB2
              have n1 : (bk != bk) = false := by simp
              have n2 : (bi != bi) = false := by simp
              have n3 : (bF != bF) = false := by simp
              have n4 : (zz != zz) = false := by simp
              go_wp2_with (first
                | ((with_reducible refine ev_ld 25 5 g5 25 (nums .u8 h).toArray (0, 0) _ ?_ ?_ Try.underlying25 ?_ ?_ ?_); exact rfl; exact B5.out; exact rfl; exact HIx.out h H8.out)
                | (go_at_call 20; ((with_reducible refine (CB1'.out _).mono ?_); rintro e w2 ⟨rfl, hb⟩; have B5 := Lib.hid (blk_below B5.out hb); have HQ := Lib.hid (own_below HQ.out hb); have HB := Lib.hid (below_then HB.out hb); clear hb))
                | (go_at_call 21; ((with_reducible refine (CB2'.out _).mono ?_); rintro e w2 ⟨rfl, hb⟩; have B5 := Lib.hid (blk_below B5.out hb); have HQ := Lib.hid (own_below HQ.out hb); have HB := Lib.hid (below_then HB.out hb); clear hb)))
              go_loopw [41] (fun i wr => ∃ j : Nat, j ≤ L.length ∧ i = .int .i64 (j : Int) ∧ Hid (wr.heap[g5]? = some (.cells (nums .u8 h).toArray 25 (0, 0))) ∧ Hid (wr.ownsRow W.heap.size 25 8 (.slice AQ L.length cQ) L.length (rows8 L)) ∧ Hid (Below W.heap.size W wr)) (fun i _ => L.length - (intOf i).toNat)
              case atStart => exact ⟨0, by omega, rfl, B5, HQ, HB⟩
              case round => as_aux_lemma =>
                clear B5 HQ HB
                obtain ⟨j, hj, rfl, B5, HQ, HB⟩ := hrel
                by_cases hjl : j < L.length
                · as_aux_lemma =>
                  have d1 : decide ((j : Int) < (L.length : Int)) = true := by simp; omega
                  obtain ⟨i0, hi0, hbb, hle, hst⟩ := HBF.out (by omega)
                  obtain ⟨rfl, rfl⟩ := Prod.mk.inj hbb
                  clear HBF hbb
                  obtain ⟨gQ, rfl, -⟩ := HAQ.out (by omega)
                  have hgQ : gQ < wr.heap.size := own_lo HQ.out (Nat.le_refl _) gQ rfl
                  have hg5 : g5 < wr.heap.size := blk_lt B5.out
                  have hWl := HB.out.size
                  have k0 : (0 : Int) ≤ (j : Int) := by omega
                  have k1 : (j : Int) < (L.length : Int) := by omega
                  have HS := Lib.hid (HL8.out _ (lget_mem hjl))
                  have HGT := Lib.hid (fun (w' : World) (ho : w'.ownsRow W.heap.size 25 8 (.slice (some ⟨gQ, 0, none⟩) L.length cQ) L.length (rows8 L)) y (hy : y < 8) => (own_get ho (rows8_get HL8.out hjl hy)).1)
                  obtain ⟨E, hE⟩ : ∃ E, endC h (1 + r) wk.toNat L j = E := ⟨_, rfl⟩
                  have hEle := hle j hjl
                  have hEst := hst j
                  have hEq : j = i0 → E = endC h (1 + r) wk.toNat L i0 := fun e => by rw [← hE, e]
                  rw [hE] at hEle hEst
                  generalize endC h (1 + r) wk.toNat L i0 = F at *
                  unfold endC at hE
                  generalize L.getD j [] = s at *
                  have CW := Lib.hid (fun w => CK1.out (less h s) (1 + r) wk (less8 h s) hN hW w)
                  have CE := Lib.hid (fun w => hE ▸ c_iCountHoles (weeks (less h s) (1 + r) wk.toNat) w (weeks8 (less8 h s) (1 + r) wk.toNat))
                  have HZ0 : Hid ((wr.alloc (.cells #[.int .u8 0, .int .u8 0, .int .u8 0, .int .u8 0, .int .u8 0, .int .u8 0, .int .u8 0, .int .u8 0] 25 (0, 0))).heap[wr.heap.size]? = some (.cells (nums .u8 (partL h s 0)).toArray 25 (0, 0))) := by rw [partL_zero]; exact heap_alloc_new wr _
                  have HZQ := Lib.hid (HQ.out.alloc (.cells #[.int .u8 0, .int .u8 0, .int .u8 0, .int .u8 0, .int .u8 0, .int .u8 0, .int .u8 0, .int .u8 0] 25 (0, 0)))
                  have HZB := Lib.hid (below_alloc HB.out (.cells #[.int .u8 0, .int .u8 0, .int .u8 0, .int .u8 0, .int .u8 0, .int .u8 0, .int .u8 0, .int .u8 0] 25 (0, 0)))
                  have HZ5 := Lib.hid (blk_alloc B5.out (.cells #[.int .u8 0, .int .u8 0, .int .u8 0, .int .u8 0, .int .u8 0, .int .u8 0, .int .u8 0, .int .u8 0] 25 (0, 0)))
                  have HZN : Hid ((Value.slice (some ⟨gQ, 0, none⟩) L.length cQ).ownBlock ≠ some wr.heap.size) := fun e => by simp only [Value.ownBlock, Option.some.injEq] at e; omega
                  clear hE hle hst B5 HQ HB
                  go_upto_region 54 with fail
                  generalize wr.alloc (.cells #[.int .u8 0, .int .u8 0, .int .u8 0, .int .u8 0, .int .u8 0, .int .u8 0, .int .u8 0, .int .u8 0] 25) = wl at *
                  generalize wr.heap.size = gl at *
                  go_wp2
                  go_loopw [43] (fun y wr => ∃ q : Nat, q ≤ 8 ∧ y = .int .i64 (q : Int) ∧ Hid (wr.heap[gl]? = some (.cells (nums .u8 (partL h s q)).toArray 25 (0, 0))) ∧ Hid (wr.heap[g5]? = some (.cells (nums .u8 h).toArray 25 (0, 0))) ∧ Hid (wr.ownsRow W.heap.size 25 8 (.slice (some ⟨gQ, 0, none⟩) L.length cQ) L.length (rows8 L)) ∧ Hid (Below W.heap.size W wr)) (fun y _ => 8 - (intOf y).toNat)
                  case atStart => exact ⟨0, by omega, rfl, HZ0, HZ5, HZQ, HZB⟩
                  case round => as_aux_lemma =>
                    clear HZ0 HZ5 HZQ HZB
                    obtain ⟨q, hq, rfl, HGl, B5, HQ, HB⟩ := hrel
                    by_cases hq8 : q < 8
                    · have d2 : decide ((q : Int) < 8) = true := by simp; omega
                      have q0 : (0 : Int) ≤ (q : Int) := by omega
                      have q1 : (q : Int) < 8 := by omega
                      have xG := nums_cell HGl.out q (by rw [partL_len]; exact hq8)
                      have fG := blk_frozen HGl.out q
                      have x5 := nums_cell B5.out q (by rw [H8.out.len]; exact hq8)
                      have xs := HGT.out wr HQ.out q hq8
                      have HLR := Lib.hid (less_row H8.out HS.out hq8)
                      generalize gi (partL h s q) q = gold at *
                      go_wp2
                      go_still_tail 12, (by kernel_rfl)
                      change wpList _ _ _ _ _ wr.drew
                      have HGd : Hid (wr.drew.heap[gl]? = some (.cells (nums .u8 (partL h s q)).toArray 25 (0, 0))) := HGl.out
                      have B5d : Hid (wr.drew.heap[g5]? = some (.cells (nums .u8 h).toArray 25 (0, 0))) := B5.out
                      have HQd : Hid (wr.drew.ownsRow W.heap.size 25 8 (.slice (some ⟨gQ, 0, none⟩) L.length cQ) L.length (rows8 L)) := own_drew HQ.out
                      have HBd := Lib.hid (below_drew HB.out)
                      have xG' : wr.drew.cell? ⟨gl, q, none⟩ = some (.int .u8 gold) := xG
                      have fG' : wr.drew.frozen? ⟨gl, q, none⟩ = false := fG
                      clear xG fG xs x5 HGl B5 HQ HB
                      generalize wr.drew = wd at *
                      have hT : Tou gl wd (wd.setCell ⟨gl, q, none⟩ (.int .u8 (bits .andNot .u8 (gi h q) (gi s q)))) := Tou.setCell wd gl q _
                      have HGn : Hid ((wd.setCell ⟨gl, q, none⟩ (.int .u8 (bits .andNot .u8 (gi h q) (gi s q)))).heap[gl]? = some (.cells (nums .u8 (partL h s (q + 1))).toArray 25 (0, 0))) := by
                        have := blk_set HGd.out q (.int .u8 (bits .andNot .u8 (gi h q) (gi s q)))
                        rw [nums_set, HLR.out, partL_set hq8] at this
                        rw [Hid, HLR.out]
                        exact this
                      have B5n := Lib.hid (blk_tou B5d.out hT (by omega))
                      have HBn := Lib.hid (HBd.out.trans (hT.below hWl))
                      have HQn := Lib.hid (blk_differT HGd.out HQd.out HZN.out hT)
                      clear hT HGd B5d HBd HQd
                      go_wp2
                      go_roundw
                      case rel => exact ⟨q + 1, by omega, by go_num, HGn, B5n, HQn, HBn⟩
                      case measure => simp [intOf]; omega
                    · obtain rfl : q = 8 := by omega
                      have d2 : decide (((8 : Nat) : Int) < 8) = false := by simp
                      rw [partL_all] at HGl
                      have dA : decide (E < F) = false := by simp; omega
                      go_upto_region 60 with (first
                        | ((with_reducible refine ev_ld 25 42 gl 25 (nums .u8 (less h s)).toArray (0, 0) _ ?_ ?_ Try.underlying25 ?_ ?_ ?_); exact rfl; exact HGl.out; exact rfl; exact HIx.out (less h s) (less8 h s))
                        | (go_at_call 11; ((with_reducible refine (CW.out _).mono ?_); rintro e w3 ⟨rfl, hb⟩; have B5 := Lib.hid (blk_below B5.out hb); have HQ := Lib.hid (own_below HQ.out hb); have HB := Lib.hid (below_then HB.out hb); have HGl := Lib.hid (blk_below HGl.out hb); clear hb))
                        | ((with_reducible refine ev_st 25 44 364 (w3.heap.size) (nums .u8 (weeks (less h s) (1 + r) wk.toNat)).toArray 25 _ ?_ ?_ (heap_alloc_new w3 _) ?_ ?_ ?_ ?_); exact rfl; exact rfl; exact HIx.out (weeks (less h s) (1 + r) wk.toNat) (weeks8 (less8 h s) (1 + r) wk.toNat); simp [nums, ((weeks8 (less8 h s) (1 + r) wk.toNat)).len]; exact nums_one _ _; intro wS hblk ht; have hb := tou_newM ht; clear ht; have B5 := Lib.hid (blk_below B5.out hb); have HQ := Lib.hid (own_below HQ.out hb); have HB := Lib.hid (below_then HB.out hb); have HGl := Lib.hid (blk_below HGl.out hb); have H44 := Lib.hid hblk; clear hblk; clear hb)
                        | ((with_reducible refine ev_ld 25 44 w3.heap.size 25 (nums .u8 (weeks (less h s) (1 + r) wk.toNat)).toArray (0, 0) _ ?_ ?_ Try.underlying25 ?_ ?_ ?_); exact rfl; exact H44.out; exact rfl; exact HIx.out (weeks (less h s) (1 + r) wk.toNat) (weeks8 (less8 h s) (1 + r) wk.toNat))
                        | (go_at_call 16; ((with_reducible refine (CE.out _).mono ?_); rintro e w5 ⟨rfl, hb⟩; have B5 := Lib.hid (blk_below B5.out hb); have HQ := Lib.hid (own_below HQ.out hb); have HB := Lib.hid (below_then HB.out hb); have H44 := Lib.hid (blk_below H44.out hb); have HGl := Lib.hid (blk_below HGl.out hb); clear hb)))
                      clear HGl H44
                      by_cases c1 : j = i0
                      · as_aux_lemma =>
                        subst c1
                        have hEF := hEq rfl
                        subst hEF
                        have e1 : (E == E) = true := by simp
                        have e2 : decide ((j : Int) < (j : Int)) = false := by simp
                        have e3 : ((j : Int) == (j : Int)) = true := by simp
                        have e4 : (E != E) = false := by simp
                        clear hEq hEst
                        go_wp2
                        go_roundw
                        case rel => exact ⟨j + 1, by omega, by go_num, B5, HQ, HB⟩
                        case measure => simp [intOf]; omega
                      · have e3 : ((j : Int) == (i0 : Int)) = false := by simp; omega
                        by_cases c2 : E = F
                        · as_aux_lemma =>
                          have hnl : ¬ j < i0 := fun hl2 => by have := hEst hl2; omega
                          have e2 : decide ((j : Int) < (i0 : Int)) = false := by simp; omega
                          have e5 : ¬ (j : Int) < (i0 : Int) := by omega
                          have e6 : (i0 : Int) ≤ (j : Int) := by omega
                          subst c2
                          have e1 : (E == E) = true := by simp
                          clear hEq hEst
                          go_wp2
                          go_roundw
                          case rel => exact ⟨j + 1, by omega, by go_num, B5, HQ, HB⟩
                          case measure => simp [intOf]; omega
                        · as_aux_lemma =>
                          have e1 : (E == F) = false := by simp [c2]
                          clear hEq hEst c2
                          go_wp2
                          go_roundw
                          case rel => exact ⟨j + 1, by omega, by go_num, B5, HQ, HB⟩
                          case measure => simp [intOf]; omega
                · as_aux_lemma =>
                  obtain rfl : j = L.length := by omega
                  have d1 : decide ((L.length : Int) < (L.length : Int)) = false := by simp
                  go_upto_region 63 with (go_at_call 6; ((with_reducible refine (CA2.out _ HB.out).mono ?_); rintro e w1 ⟨hl, rfl, hl0, hl1, rfl⟩))
                  have hlb : inB hl 0 64 = true := by simp [inB]; omega
                  have CU1 := Lib.hid (fun w => c_iWeeksUntil h (1 + r) hl w H8.out)
                  have CU2 := Lib.hid (fun w => c_sWeeksUntil h (1 + r) hl w H8.out)
                  rcases untilF_ok (hs := h) (need := 1 + r) (holes := hl) H8.out hN hlb with ⟨m, hm64, hu, hge, hless⟩ | ⟨hu, hlt⟩
                  · as_aux_lemma =>
                    rw [hu] at CU1 CU2
                    have hmb : inB (m : Int) 0 100 = true := by simp [inB]; omega
                    have CM := Lib.hid (fun w => (Int.toNat_natCast m) ▸ CK1.out h (1 + r) (m : Int) H8.out hN hmb w)
                    have CC := Lib.hid (fun w => nums_eight (k := .u8) (weeks8 H8.out (1 + r) m).len ▸ c_iCountHoles (weeks h (1 + r) m) w (weeks8 H8.out (1 + r) m))
                    have dge : decide (cnt (weeks h (1 + r) m) 64 < hl) = false := by simp; omega
                    have HLS := Lib.hid hless
                    have HL0 := Lib.hid hl0
                    have hmi : ((m : Int) != (m : Int)) = false := by simp
                    clear hu hge hless hlb hmb
                    go_upto_region 73 with (first
                      | (go_at_call 22; ((with_reducible refine (CU1.out _).mono ?_); rintro e w2 ⟨rfl, hb⟩; have B5 := Lib.hid (blk_below B5.out hb); have HQ := Lib.hid (own_below HQ.out hb); have HB := Lib.hid (below_then HB.out hb); clear hb))
                      | (go_at_call 23; ((with_reducible refine (CU2.out _).mono ?_); rintro e w2 ⟨rfl, hb⟩; have B5 := Lib.hid (blk_below B5.out hb); have HQ := Lib.hid (own_below HQ.out hb); have HB := Lib.hid (below_then HB.out hb); clear hb))
                      | (first
                        | ((with_reducible refine ev_ld 25 5 g5 25 (nums .u8 h).toArray (0, 0) _ ?_ ?_ Try.underlying25 ?_ ?_ ?_); exact rfl; exact B5.out; exact rfl; exact HIx.out h H8.out)
                        | (go_at_call 11; ((with_reducible refine (CM.out _).mono ?_); rintro e w3 ⟨rfl, hb⟩; have B5 := Lib.hid (blk_below B5.out hb); have HQ := Lib.hid (own_below HQ.out hb); have HB := Lib.hid (below_then HB.out hb); clear hb))
                        | ((with_reducible refine ev_st 25 54 448 (w3.heap.size) (nums .u8 (weeks h (1 + r) m)).toArray 25 _ ?_ ?_ (heap_alloc_new w3 _) ?_ ?_ ?_ ?_); exact rfl; exact rfl; exact HIx.out (weeks h (1 + r) m) (weeks8 H8.out (1 + r) m); simp [nums, ((weeks8 H8.out (1 + r) m)).len]; exact nums_one _ _; intro wS hblk ht; have hb := tou_newM ht; clear ht; have B5 := Lib.hid (blk_below B5.out hb); have HQ := Lib.hid (own_below HQ.out hb); have HB := Lib.hid (below_then HB.out hb); have z0 := nums_cell hblk 0 (by rw [((weeks8 H8.out (1 + r) m)).len]; decide); have z1 := nums_cell hblk 1 (by rw [((weeks8 H8.out (1 + r) m)).len]; decide); have z2 := nums_cell hblk 2 (by rw [((weeks8 H8.out (1 + r) m)).len]; decide); have z3 := nums_cell hblk 3 (by rw [((weeks8 H8.out (1 + r) m)).len]; decide); have z4 := nums_cell hblk 4 (by rw [((weeks8 H8.out (1 + r) m)).len]; decide); have z5 := nums_cell hblk 5 (by rw [((weeks8 H8.out (1 + r) m)).len]; decide); have z6 := nums_cell hblk 6 (by rw [((weeks8 H8.out (1 + r) m)).len]; decide); have z7 := nums_cell hblk 7 (by rw [((weeks8 H8.out (1 + r) m)).len]; decide); clear hblk; clear hb)
                        | (go_at_call 16; ((with_reducible refine (CC.out _).mono ?_); rintro e w6 ⟨rfl, hb⟩; have B5 := Lib.hid (blk_below B5.out hb); have HQ := Lib.hid (own_below HQ.out hb); have HB := Lib.hid (below_then HB.out hb); clear z0 z1 z2 z3 z4 z5 z6 z7; clear hb))))
                    by_cases hm0 : m = 0
                    · as_aux_lemma =>
                      have dm : ((m : Int) == 0) = true := by simp; omega
                      clear hm0
                      go_wp2
                      go_ret
                      exact ⟨rfl, HB.out⟩
                    · as_aux_lemma =>
                      have dm : ((m : Int) == 0) = false := by simp; omega
                      obtain ⟨m1, hm1⟩ : ∃ m1 : Nat, m1 + 1 = m := ⟨m - 1, by omega⟩
                      have em1 : (m : Int) - 1 = (m1 : Int) := by omega
                      have hmb1 : inB (m1 : Int) 0 100 = true := by simp [inB]; omega
                      have CM1 := Lib.hid (fun w => (Int.toNat_natCast m1) ▸ CK1.out h (1 + r) (m1 : Int) H8.out hN hmb1 w)
                      have CC1 := Lib.hid (fun w => nums_eight (k := .u8) (weeks8 H8.out (1 + r) m1).len ▸ c_iCountHoles (weeks h (1 + r) m1) w (weeks8 H8.out (1 + r) m1))
                      have dl1 : decide (cnt (weeks h (1 + r) m1) 64 < hl) = true := by have := HLS.out m1 (by omega); simp; omega
                      have m1p : (0 : Int) ≤ (m1 : Int) := by omega
                      have m1q : (m1 : Int) ≤ 64 := by omega
                      clear hm0 hm1 hmb1 CM CC
                      go_wp2_with (first
                        | ((with_reducible refine ev_ld 25 5 g5 25 (nums .u8 h).toArray (0, 0) _ ?_ ?_ Try.underlying25 ?_ ?_ ?_); exact rfl; exact B5.out; exact rfl; exact HIx.out h H8.out)
                        | (go_at_call 11; ((with_reducible refine (CM1.out _).mono ?_); rintro e w3 ⟨rfl, hb⟩; have B5 := Lib.hid (blk_below B5.out hb); have HQ := Lib.hid (own_below HQ.out hb); have HB := Lib.hid (below_then HB.out hb); clear hb))
                        | ((with_reducible refine ev_st 25 56 466 (w3.heap.size) (nums .u8 (weeks h (1 + r) m1)).toArray 25 _ ?_ ?_ (heap_alloc_new w3 _) ?_ ?_ ?_ ?_); exact rfl; exact rfl; exact HIx.out (weeks h (1 + r) m1) (weeks8 H8.out (1 + r) m1); simp [nums, ((weeks8 H8.out (1 + r) m1)).len]; exact nums_one _ _; intro wS hblk ht; have hb := tou_newM ht; clear ht; have B5 := Lib.hid (blk_below B5.out hb); have HQ := Lib.hid (own_below HQ.out hb); have HB := Lib.hid (below_then HB.out hb); have z0 := nums_cell hblk 0 (by rw [((weeks8 H8.out (1 + r) m1)).len]; decide); have z1 := nums_cell hblk 1 (by rw [((weeks8 H8.out (1 + r) m1)).len]; decide); have z2 := nums_cell hblk 2 (by rw [((weeks8 H8.out (1 + r) m1)).len]; decide); have z3 := nums_cell hblk 3 (by rw [((weeks8 H8.out (1 + r) m1)).len]; decide); have z4 := nums_cell hblk 4 (by rw [((weeks8 H8.out (1 + r) m1)).len]; decide); have z5 := nums_cell hblk 5 (by rw [((weeks8 H8.out (1 + r) m1)).len]; decide); have z6 := nums_cell hblk 6 (by rw [((weeks8 H8.out (1 + r) m1)).len]; decide); have z7 := nums_cell hblk 7 (by rw [((weeks8 H8.out (1 + r) m1)).len]; decide); clear hblk; clear hb)
                        | (go_at_call 16; ((with_reducible refine (CC1.out _).mono ?_); rintro e w6 ⟨rfl, hb⟩; have B5 := Lib.hid (blk_below B5.out hb); have HQ := Lib.hid (own_below HQ.out hb); have HB := Lib.hid (below_then HB.out hb); clear z0 z1 z2 z3 z4 z5 z6 z7; clear hb)))
                      go_ret
                      exact ⟨rfl, HB.out⟩
                  · as_aux_lemma =>
                    rw [hu] at CU1 CU2
                    have CM := Lib.hid (fun w => CK1.out h (1 + r) 64 H8.out hN (by decide) w)
                    have CC := Lib.hid (fun w => nums_eight (k := .u8) (weeks8 H8.out (1 + r) 64).len ▸ c_iCountHoles (weeks h (1 + r) 64) w (weeks8 H8.out (1 + r) 64))
                    have dlt : decide (cnt (weeks h (1 + r) 64) 64 < hl) = true := by simp; omega
                    clear hu hlt hlb
                    go_wp2_with (first
                      | (go_at_call 22; ((with_reducible refine (CU1.out _).mono ?_); rintro e w2 ⟨rfl, hb⟩; have B5 := Lib.hid (blk_below B5.out hb); have HQ := Lib.hid (own_below HQ.out hb); have HB := Lib.hid (below_then HB.out hb); clear hb))
                      | (go_at_call 23; ((with_reducible refine (CU2.out _).mono ?_); rintro e w2 ⟨rfl, hb⟩; have B5 := Lib.hid (blk_below B5.out hb); have HQ := Lib.hid (own_below HQ.out hb); have HB := Lib.hid (below_then HB.out hb); clear hb))
                      | (first
                        | ((with_reducible refine ev_ld 25 5 g5 25 (nums .u8 h).toArray (0, 0) _ ?_ ?_ Try.underlying25 ?_ ?_ ?_); exact rfl; exact B5.out; exact rfl; exact HIx.out h H8.out)
                        | (go_at_call 11; ((with_reducible refine (CM.out _).mono ?_); rintro e w3 ⟨rfl, hb⟩; have B5 := Lib.hid (blk_below B5.out hb); have HQ := Lib.hid (own_below HQ.out hb); have HB := Lib.hid (below_then HB.out hb); clear hb))
                        | ((with_reducible refine ev_st 25 52 433 (w3.heap.size) (nums .u8 (weeks h (1 + r) 64)).toArray 25 _ ?_ ?_ (heap_alloc_new w3 _) ?_ ?_ ?_ ?_); exact rfl; exact rfl; exact HIx.out (weeks h (1 + r) 64) (weeks8 H8.out (1 + r) 64); simp [nums, ((weeks8 H8.out (1 + r) 64)).len]; exact nums_one _ _; intro wS hblk ht; have hb := tou_newM ht; clear ht; have B5 := Lib.hid (blk_below B5.out hb); have HQ := Lib.hid (own_below HQ.out hb); have HB := Lib.hid (below_then HB.out hb); have z0 := nums_cell hblk 0 (by rw [((weeks8 H8.out (1 + r) 64)).len]; decide); have z1 := nums_cell hblk 1 (by rw [((weeks8 H8.out (1 + r) 64)).len]; decide); have z2 := nums_cell hblk 2 (by rw [((weeks8 H8.out (1 + r) 64)).len]; decide); have z3 := nums_cell hblk 3 (by rw [((weeks8 H8.out (1 + r) 64)).len]; decide); have z4 := nums_cell hblk 4 (by rw [((weeks8 H8.out (1 + r) 64)).len]; decide); have z5 := nums_cell hblk 5 (by rw [((weeks8 H8.out (1 + r) 64)).len]; decide); have z6 := nums_cell hblk 6 (by rw [((weeks8 H8.out (1 + r) 64)).len]; decide); have z7 := nums_cell hblk 7 (by rw [((weeks8 H8.out (1 + r) 64)).len]; decide); clear hblk; clear hb)
                        | (go_at_call 16; ((with_reducible refine (CC.out _).mono ?_); rintro e w6 ⟨rfl, hb⟩; have B5 := Lib.hid (blk_below B5.out hb); have HQ := Lib.hid (own_below HQ.out hb); have HB := Lib.hid (below_then HB.out hb); clear z0 z1 z2 z3 z4 z5 z6 z7; clear hb))))
                    go_ret
                    exact ⟨rfl, HB.out⟩

  · rw [hL] at CLong
    go_enter Try.func3, Try.ntmps3
    go_wp2_with (go_at_call 4; ((refine (CLong.out _).mono ?_); rintro e w1 ⟨rfl, rfl⟩))
    go_ret
    exact ⟨rfl, Below.refl _ _⟩
end Go.Proofs.Ytcbegcekdmmjpaa
