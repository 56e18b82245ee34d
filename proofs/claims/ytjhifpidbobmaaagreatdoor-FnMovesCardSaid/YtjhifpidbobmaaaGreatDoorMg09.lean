/- Texts laid together: Int64S, NetImpl. -/
import Derived.Test.YtjhifpidbobmaaaGreatDoorMg07
import Derived.Test.YtjhifpidbobmaaaGreatDoorMg03
import Derived.Laws.MakeOwn
import Derived.Deep.QuietTactic
import Derived.BigQuiet
import Derived.Test.YtjhifpidbobmaaaGreatDoorMg05
/- Slices of 64-bit numbers: copied out of an argument, compared, marked, held. -/
namespace Go.Proofs.YtjhifpidbobmaaaGreatDoor
open Go.RowKit
set_option linter.unusedVariables false
set_option linter.unusedSimpArgs false
set_option maxRecDepth 100000

theorem own_rd {w : World} {base : Nat} {e : TypeId} {size : Nat} {A : Option Addr} {n c : Nat} {xs : List Value} (h : w.ownsRow base e size (.slice A n c) n xs) : RdRow w A xs := by
  intro j u hj
  rcases h.2 with ⟨h0, rfl⟩ | ⟨g, cap, cur, h0, _⟩
  · have := (List.getElem?_eq_some_iff.1 hj).1
    have h1 := h.1
    omega
  · cases h0
    refine ⟨_, rfl, ?_⟩
    have e : (Addr.add ⟨g, 0, none⟩ j) = ⟨g, j, none⟩ := by unfold Addr.add; split <;> simp_all
    rw [e]
    exact (own_get h hj).1
theorem nums_get {k : IntKind} {zs : List Int} {j : Nat} (h : j < zs.length) : (nums k zs)[j]? = some (.int k (gi zs j)) := nums_at j h
theorem marked_nums {zs : List Int} {n : Nat} (h : zs.length = n) (k : IntKind) : (List.range n).map (fun i => Value.int k (gi zs i)) = nums k zs := by
  subst h
  apply List.ext_getElem?
  intro j
  by_cases hj : j < zs.length
  · rw [nums_get hj]; simp [hj]
  · simp [nums, hj]
def f64 (k0 : Nat) (i : Nat) : Value := .int .i64 ((k0 : Int) + (i : Int))
theorem ints_len {zs : List Int} {n : Nat} {A : Option Addr} {w : World} {base c : Nat} (h : w.ownsRow base 2 1 (.slice A n c) n (nums .i64 zs)) : zs.length = n := by have := h.1; simp [nums] at this; omega
theorem gi_bd64 {zs : List Int} (h : ∀ z ∈ zs, (Lit.int .i64 z).wf = true) (j : Nat) : -9223372036854775808 ≤ gi zs j ∧ gi zs j ≤ 9223372036854775807 := by
  unfold gi
  by_cases hj : j < zs.length
  · have e : zs.getD j 0 = zs[j]'hj := by simp [List.getD, hj]
    rw [e]
    exact wf_i64 (h _ (List.getElem_mem hj))
  · have e : zs.getD j 0 = 0 := by simp [List.getD, List.getElem?_eq_none (show zs.length ≤ j by omega)]
    omega
end Go.Proofs.YtjhifpidbobmaaaGreatDoor
/- NetMoves, the implementation's. -/
namespace Go.Proofs.YtjhifpidbobmaaaGreatDoor
open Go.RowKit
set_option linter.unusedVariables false
set_option linter.unusedSimpArgs false
set_option maxRecDepth 100000

def netR (n : Nat) (s t g : Nat → Int) : List Int × Int := if (allB n (fun j => okMove (s j) (t j) (g j)) && decide (n ≤ 60)) = true then (netN s t g n, 0) else ([0, 0, 0, 0, 0], 1)
theorem netR_five (n : Nat) (s t g : Nat → Int) : (netR n s t g).1.length = 5 := by
  unfold netR
  split
  · rename_i h
    simp only [Bool.and_eq_true] at h
    exact (netN_five (allB_get h.1) n (Nat.le_refl _)).len
  · rfl

set_option maxHeartbeats 1000000 in
theorem c_iNetMoves (A : Option Addr) (n c : Nat) (s t g : Nat → Int) (w : World) (h : MovesAt w A n s t g) (hn : n ≤ 1048576) (hg : ∀ j, j < n → (-32768 ≤ g j ∧ g j ≤ 32767) ∧ (-128 ≤ s j ∧ s j ≤ 127) ∧ (-128 ≤ t j ∧ t j ≤ 127)) :
    Calls Tryz.prog 14 #[.slice A n c] w fun e w' => e = .returned (.tuple #[.agg (nums .i32 (netR n s t g).1).toArray, .int .i64 (netR n s t g).2]) ∧ Below w.heap.size w w' := by
  have H := Lib.hid h
  have HG := Lib.hid hg
  have HR := Lib.hid (heap_alloc_new w (.cells #[.int .i32 0, .int .i32 0, .int .i32 0, .int .i32 0, .int .i32 0] 30 (0, 0)))
  have HB0 : Hid (Below w.heap.size w (w.alloc (.cells #[.int .i32 0, .int .i32 0, .int .i32 0, .int .i32 0, .int .i32 0] 30 (0, 0)))) := below_alloc (Below.refl _ _) _
  have HI0 := Lib.hid (places_info (p := [0, 0, 0, 0, 0]) rfl)
  clear h hg
  cases hok : (allB n (fun j => okMove (s j) (t j) (g j)) && decide (n ≤ 60))
  · have E : Hid (netR n s t g = ([0, 0, 0, 0, 0], 1)) := by rw [Hid, netR, hok]; rfl
    go_enter Tryz.func14, Tryz.ntmps14
    go_wp2_with (first
      | (go_at_call 18; ((with_reducible refine (c_iValidMoves A n c s t g _ (H.out.below HB0.out) hn HG.out).mono ?_); rintro e w1 ⟨rfl, hb⟩; have HR := Lib.hid (blk_below HR.out hb)))
      | (refine ev_store_row rfl 30 (.tmp 2) (.tmp 10) rfl (w.heap.size) (nums .i32 [0, 0, 0, 0, 0]).toArray rfl rfl 30 #[.int .i32 0, .int .i32 0, .int .i32 0, .int .i32 0, .int .i32 0] ?_ HI0.out (Eq.refl (5 : Nat)) (nums_one _ _) ?_; (with_reducible exact HR.out); intro w2 hblk ht; have HR3 := Lib.hid hblk; clear hblk))
    refine bodyPost_ret (v := .tuple #[.agg (nums .i32 [0, 0, 0, 0, 0]).toArray, .int .i64 1]) (results_ct rfl _ _ (w.heap.size) 30 (nums .i32 [0, 0, 0, 0, 0]).toArray (0, 0) _ rfl (by with_reducible exact HR3.out) Tryz.underlying30 rfl HI0.out rfl) rfl ⟨by rw [E.out], Below.trans (by (repeat (first | with_reducible exact Below.refl _ _ | with_reducible refine below_alloc ?_ _ | with_reducible refine below_drew ?_ | with_reducible refine below_drewN ?_ _ | with_reducible refine below_then ?_ (by assumption)))) (ht.below (Nat.le_refl _))⟩
  · have E : Hid (netR n s t g = (netN s t g n, 0)) := by rw [Hid, netR, hok]; rfl
    have hok2 : allB n (fun j => okMove (s j) (t j) (g j)) = true ∧ decide (n ≤ 60) = true := by simpa only [Bool.and_eq_true] using hok
    have HOK := Lib.hid (allB_get hok2.1)
    have hn60 : n ≤ 60 := of_decide_eq_true hok2.2
    have HF := Lib.hid (netN_five (s := s) (t := t) (g := g) HOK.out)
    have cv := c_iValidMoves A n c s t g _ (H.out.below HB0.out) hn HG.out
    rw [hok] at cv
    have CV := Lib.hid cv
    clear hok2 cv hok
    go_enter Tryz.func14, Tryz.ntmps14
    go_wp2_with (go_at_call 18; ((with_reducible refine CV.out.mono ?_); rintro e w1 ⟨rfl, hb⟩; have HR := Lib.hid (blk_below HR.out hb); have HB1 := Lib.hid (Below.trans HB0.out (hb.mono HB0.out.size))))
    clear hb
    have hsz : w.heap.size < w1.heap.size := blk_lt HR.out
    go_loopw [13] (fun i wr => ∃ k : Nat, k ≤ n ∧ i = .int .i64 k ∧ Hid (wr.heap[w1.heap.size]? = some (.cells (nums .i32 (netN s t g k)).toArray 30 (0, 0))) ∧ Hid (wr.heap[w.heap.size]? = some (.cells #[.int .i32 0, .int .i32 0, .int .i32 0, .int .i32 0, .int .i32 0] 30 (0, 0))) ∧ Hid (Below w.heap.size w wr)) (fun i _ => n - (intOf i).toNat)
    case atStart => exact ⟨0, by omega, rfl, heap_alloc_new w1 _, blk_alloc HR.out _, HB1.out.alloc (by omega) _⟩
    case round =>
      obtain ⟨k, hk, rfl, hH, hR, hB⟩ := hrel
      have b1 := blk_lt hH.out
      have HIk := Lib.hid (places_info (HF.out k hk).len)
      by_cases hlt : k < n
      · have d1 : decide ((k : Int) < (n : Int)) = true := by simp; omega
        obtain ⟨ad, rfl, c0, c1, c2⟩ := (H.out.below hB.out).at_ k hlt
        obtain ⟨⟨s0, s1⟩, ⟨t0, t1⟩, g0, g1⟩ := okMove_all (HOK.out k hlt)
        obtain ⟨a, ha⟩ := Int.eq_ofNat_of_zero_le s0
        obtain ⟨b, hb⟩ := Int.eq_ofNat_of_zero_le t0
        have ha5 : a < 5 := by omega
        have hb5 : b < 5 := by omega
        rw [ha] at c0
        rw [hb] at c1
        have HN : Hid (netN s t g (k + 1) = stepP (netN s t g k) a b (g k)) := by rw [Hid, netN, ha, hb]
        have f5 : Five (netN s t g k) 610000 := by
          have f := HF.out k hk
          exact ⟨f.len, fun i => by have := f.bd i; omega⟩
        have CM := fun w => Lib.hid (c_moved (netN s t g k) a b (g k) w f5 ha5 hb5 ⟨g0, g1⟩)
        have HI1 := Lib.hid (places_info (HF.out (k + 1) hlt).len)
        have L0 := Lib.hid (HF.out k hk).len
        have L1 := Lib.hid (HF.out (k + 1) hlt).len
        have k0 : (0 : Int) ≤ (k : Int) := by omega
        have k1 : (k : Int) < (n : Int) := by omega
        have hsz2 : w.heap.size ≤ wr.heap.size := hB.out.size
        clear s0 s1 t0 t1 ha hb f5
        go_wp2_with (first
          | (refine wpList_load_row rfl 30 (.tmp 4) rfl (w1.heap.size) rfl 30 (nums .i32 (netN s t g k)).toArray (0, 0) _ ?_ Tryz.underlying30 rfl HIk.out ?_; (exact blk_alloc hH.out _))
          | (go_at_call 35; ((with_reducible refine (CM _).out.mono ?_); rintro e w2 ⟨rfl, hb⟩; have hH := Lib.hid (blk_below (blk_alloc hH.out _) hb); have hR := Lib.hid (blk_below (blk_alloc hR.out _) hb); have hB2 := Lib.hid (Below.trans (hB.out.alloc hsz2 _) (hb.mono (by simp; omega)))))
          | (refine ev_store_row rfl 30 (.tmp 4) (.tmp 19) rfl (w1.heap.size) (nums .i32 (stepP (netN s t g k) a b (g k))).toArray rfl rfl 30 (nums .i32 (netN s t g k)).toArray ?_ (HN.out ▸ HI1.out) (by rw [← HN.out]; simp [nums, L0.out, L1.out]) (nums_one _ _) ?_; (with_reducible exact hH.out); intro w3 hblk ht; have hH3 := Lib.hid hblk; have hR3 := Lib.hid (blk_tou hR.out ht (by omega)); have hB3 : Hid (Below w.heap.size w w3) := Below.trans hB2.out (ht.below (by omega)); clear hblk))
        go_roundw
        case rel => exact ⟨k + 1, by omega, by go_num, by rw [HN.out]; exact hH3, hR3, hB3⟩
        case measure => simp [intOf]; omega
      · obtain rfl : k = n := by omega
        have d1 : decide ((k : Int) < (k : Int)) = false := by simp
        have L0 := Lib.hid (HF.out k hk).len
        go_wp2_with (first
          | (refine wpList_load_row rfl 30 (.tmp 4) rfl (w1.heap.size) rfl 30 (nums .i32 (netN s t g k)).toArray (0, 0) _ ?_ Tryz.underlying30 rfl HIk.out ?_; (with_reducible exact hH.out))
          | (refine ev_store_row rfl 30 (.tmp 2) (.tmp 21) rfl (w.heap.size) (nums .i32 (netN s t g k)).toArray rfl rfl 30 #[.int .i32 0, .int .i32 0, .int .i32 0, .int .i32 0, .int .i32 0] ?_ HIk.out (by simp [nums, L0.out]) (nums_one _ _) ?_; (with_reducible exact hR.out); intro w3 hblk ht; have hR3 := Lib.hid hblk; clear hblk))
        refine bodyPost_ret (v := .tuple #[.agg (nums .i32 (netN s t g k)).toArray, .int .i64 0]) (results_ct rfl _ _ (w.heap.size) 30 (nums .i32 (netN s t g k)).toArray (0, 0) _ rfl (by with_reducible exact hR3.out) Tryz.underlying30 rfl HIk.out rfl) rfl ⟨by rw [E.out], hB.out.trans (ht.below (Nat.le_refl _))⟩
end Go.Proofs.YtjhifpidbobmaaaGreatDoor
