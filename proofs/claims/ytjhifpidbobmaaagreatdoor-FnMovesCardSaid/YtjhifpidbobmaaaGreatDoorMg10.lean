/- Texts laid together: NetSpec, NetLaw. -/
import Derived.Test.YtjhifpidbobmaaaGreatDoorMg09
import Derived.Deep.QuietTactic
import Derived.BigQuiet
/- NetMoves, the reference's. -/
namespace Go.Proofs.YtjhifpidbobmaaaGreatDoor
open Go.RowKit
set_option linter.unusedVariables false
set_option linter.unusedSimpArgs false
set_option maxRecDepth 100000

set_option maxHeartbeats 1000000 in
theorem c_sNetMoves (A : Option Addr) (n c : Nat) (s t g : Nat → Int) (w : World) (h : MovesAt w A n s t g) (hn : n ≤ 1048576) (hg : ∀ j, j < n → (-32768 ≤ g j ∧ g j ≤ 32767) ∧ (-128 ≤ s j ∧ s j ≤ 127) ∧ (-128 ≤ t j ∧ t j ≤ 127)) :
    Calls Tryz.prog 15 #[.slice A n c] w fun e w' => e = .returned (.tuple #[.agg (nums .i32 (netR n s t g).1).toArray, .int .i64 (netR n s t g).2]) ∧ Below w.heap.size w w' := by
  have H := Lib.hid h
  have HG := Lib.hid hg
  have HR := Lib.hid (blk_alloc (heap_alloc_new w (.cells #[.int .i32 0, .int .i32 0, .int .i32 0, .int .i32 0, .int .i32 0] 30 (0, 0))) (.cells #[.int .i32 0, .int .i32 0, .int .i32 0, .int .i32 0, .int .i32 0] 30 (0, 0)))
  have ho := heap_alloc_new (w.alloc (.cells #[.int .i32 0, .int .i32 0, .int .i32 0, .int .i32 0, .int .i32 0] 30 (0, 0))) (.cells #[.int .i32 0, .int .i32 0, .int .i32 0, .int .i32 0, .int .i32 0] 30 (0, 0))
  rw [World.size_alloc] at ho
  have HO := Lib.hid ho
  have HB0 : Hid (Below w.heap.size w ((w.alloc (.cells #[.int .i32 0, .int .i32 0, .int .i32 0, .int .i32 0, .int .i32 0] 30 (0, 0))).alloc (.cells #[.int .i32 0, .int .i32 0, .int .i32 0, .int .i32 0, .int .i32 0] 30 (0, 0)))) := below_alloc (below_alloc (Below.refl _ _) _) _
  have HI0 := Lib.hid (places_info (p := [0, 0, 0, 0, 0]) rfl)
  clear h hg ho
  have cv := c_l07Moves A n c s t g _ (H.out.below HB0.out) hn HG.out
  cases hok : (allB n (fun j => okMove (s j) (t j) (g j)) && decide (n ≤ 60))
  · have E : Hid (netR n s t g = ([0, 0, 0, 0, 0], 1)) := by rw [Hid, netR, hok]; rfl
    rw [hok] at cv
    have CV := Lib.hid cv
    clear cv hok
    go_enter Tryz.func15, Tryz.ntmps15
    go_wp2_with (first
      | (go_at_call 36; ((with_reducible refine CV.out.mono ?_); rintro e w1 ⟨rfl, hb⟩; have HR := Lib.hid (blk_below HR.out hb); have HO := Lib.hid (blk_below HO.out hb)))
      | (refine wpList_load_row rfl 30 (.tmp 4) rfl (w.heap.size + 1) rfl 30 #[.int .i32 0, .int .i32 0, .int .i32 0, .int .i32 0, .int .i32 0] (0, 0) _ ?_ Tryz.underlying30 rfl HI0.out ?_; (with_reducible exact HO.out))
      | (refine ev_store_row rfl 30 (.tmp 2) (.tmp 10) rfl (w.heap.size) (nums .i32 [0, 0, 0, 0, 0]).toArray rfl rfl 30 #[.int .i32 0, .int .i32 0, .int .i32 0, .int .i32 0, .int .i32 0] ?_ HI0.out (Eq.refl (5 : Nat)) (nums_one _ _) ?_; (with_reducible exact HR.out); intro w2 hblk ht; have HR3 := Lib.hid hblk; clear hblk))
    refine bodyPost_ret (v := .tuple #[.agg (nums .i32 [0, 0, 0, 0, 0]).toArray, .int .i64 1]) (results_ct rfl _ _ (w.heap.size) 30 (nums .i32 [0, 0, 0, 0, 0]).toArray (0, 0) _ rfl (by with_reducible exact HR3.out) Tryz.underlying30 rfl HI0.out rfl) rfl ⟨by rw [E.out], Below.trans (by (repeat (first | with_reducible exact Below.refl _ _ | with_reducible refine below_alloc ?_ _ | with_reducible refine below_drew ?_ | with_reducible refine below_drewN ?_ _ | with_reducible refine below_then ?_ (by assumption)))) (ht.below (Nat.le_refl _))⟩
  · have E : Hid (netR n s t g = (netN s t g n, 0)) := by rw [Hid, netR, hok]; rfl
    have hok2 : allB n (fun j => okMove (s j) (t j) (g j)) = true ∧ decide (n ≤ 60) = true := by simpa only [Bool.and_eq_true] using hok
    have HOK := Lib.hid (allB_get hok2.1)
    have hn60 : n ≤ 60 := of_decide_eq_true hok2.2
    have HF := Lib.hid (netN_five (s := s) (t := t) (g := g) HOK.out)
    rw [hok] at cv
    have CV := Lib.hid cv
    clear cv hok hok2
    go_enter Tryz.func15, Tryz.ntmps15
    go_wp2_with (go_at_call 36; ((with_reducible refine CV.out.mono ?_); rintro e w1 ⟨rfl, hb⟩; have HR := Lib.hid (blk_below HR.out hb); have HO := Lib.hid (blk_below HO.out hb); have HB1 := Lib.hid (Below.trans HB0.out (hb.mono HB0.out.size))))
    clear hb
    have hsz : w.heap.size < w1.heap.size := blk_lt HR.out
    go_loopw [5] (fun i wr => ∃ k : Nat, k ≤ n ∧ i = .int .i64 k ∧ Hid (wr.heap[w.heap.size + 1]? = some (.cells (nums .i32 (netN s t g k)).toArray 30 (0, 0))) ∧ Hid (wr.heap[w.heap.size]? = some (.cells #[.int .i32 0, .int .i32 0, .int .i32 0, .int .i32 0, .int .i32 0] 30 (0, 0))) ∧ Hid (Below w.heap.size w wr)) (fun i _ => n - (intOf i).toNat)
    case atStart => exact ⟨0, by omega, rfl, HO.out, HR.out, HB1.out⟩
    case round =>
      obtain ⟨k, hk, rfl, hH, hR, hB⟩ := hrel
      have HIk := Lib.hid (places_info (HF.out k hk).len)
      by_cases hlt : k < n
      · have d1 : decide ((k : Int) < (n : Int)) = true := by simp; omega
        obtain ⟨ad, rfl, c0, c1, c2⟩ := (H.out.below hB.out).at_ k hlt
        obtain ⟨⟨s0, s1⟩, ⟨t0, t1⟩, g0, g1⟩ := okMove_all (HOK.out k hlt)
        obtain ⟨a, ha⟩ := Int.eq_ofNat_of_zero_le s0
        obtain ⟨b, hb⟩ := Int.eq_ofNat_of_zero_le t0
        have ha5 : a < 5 := by omega
        have hb5 : b < 5 := by omega
        rw [ha] at c0
        rw [hb] at c1
        have HN : Hid (netN s t g (k + 1) = stepP (netN s t g k) a b (g k)) := by rw [Hid, netN, ha, hb]
        have f5 := HF.out k hk
        have f6 := f5.addAt a (v := -(g k)) (V := 5000) ha5 (by omega) (by omega)
        obtain ⟨v0, v1⟩ := f5.bd a
        obtain ⟨v2, v3⟩ := f6.bd b
        have v0' : -600000 ≤ gi (netN s t g k) a := by omega
        have v1' : gi (netN s t g k) a ≤ 600000 := by omega
        have v2' : -610000 ≤ gi (addAtP (netN s t g k) a (-(g k))) b := by omega
        have v3' : gi (addAtP (netN s t g k) a (-(g k))) b ≤ 610000 := by omega
        have L0 := Lib.hid f5.len
        have L6 := Lib.hid f6.len
        have a0 : (0 : Int) ≤ (a : Int) := by omega
        have a1 : (a : Int) < 5 := by omega
        have b0 : (0 : Int) ≤ (b : Int) := by omega
        have b1 : (b : Int) < 5 := by omega
        have k0 : (0 : Int) ≤ (k : Int) := by omega
        have k1 : (k : Int) < (n : Int) := by omega
        have HTB := Lib.hid hb
        clear s0 s1 t0 t1 ha hb f5 f6 v0 v1 v2 v3
        have ca := nums_cell hH.out a (by rw [L0.out]; exact ha5)
        have fa := blk_frozen hH.out a
        have HS : Hid (stepP (netN s t g k) a b (g k) = (addAtP (netN s t g k) a (-(g k))).set b (gi (addAtP (netN s t g k) a (-(g k))) b + g k)) := rfl
        have HS1 : Hid (addAtP (netN s t g k) a (-(g k)) = (netN s t g k).set a (gi (netN s t g k) a + -(g k))) := rfl
        generalize netN s t g k = q at *
        generalize hz : g k = z at *
        have HZk := Lib.hid hz
        clear hz
        go_wp2
        go_still_tail 15, (by kernel_rfl)
        change wpList _ _ _ _ _ wr.drew
        have hH1 : Hid (wr.drew.heap[w.heap.size + 1]? = some (.cells (nums .i32 q).toArray 30 (0, 0))) := hH.out
        have hR1 : Hid (wr.drew.heap[w.heap.size]? = some (.cells #[.int .i32 0, .int .i32 0, .int .i32 0, .int .i32 0, .int .i32 0] 30 (0, 0))) := hR.out
        have hB1 : Hid (Below w.heap.size w wr.drew) := below_drew hB.out
        have ca' : wr.drew.cell? ⟨w.heap.size + 1, a, none⟩ = some (.int .i32 (gi q a)) := ca
        have fa' : wr.drew.frozen? ⟨w.heap.size + 1, a, none⟩ = false := fa
        clear c0 c1 c2 ca fa hH hR hB
        generalize wr.drew = wd at *
        go_wp2
        have hH2 : Hid ((wd.setCell ⟨w.heap.size + 1, a, none⟩ (.int .i32 (gi q a - z))).heap[w.heap.size + 1]? = some (.cells (nums .i32 (addAtP q a (-z))).toArray 30 (0, 0))) := by
          have := blk_set hH1.out a (.int .i32 (gi q a - z))
          rw [nums_set, Int.sub_eq_add_neg] at this
          rw [Hid, Int.sub_eq_add_neg]
          exact this
        have hR2 : Hid ((wd.setCell ⟨w.heap.size + 1, a, none⟩ (.int .i32 (gi q a - z))).heap[w.heap.size]? = _) := blk_far hR1.out (by omega) a _
        have hB2 : Hid (Below w.heap.size w (wd.setCell ⟨w.heap.size + 1, a, none⟩ (.int .i32 (gi q a - z)))) := hB1.out.setCell (by simp) _
        clear ca' fa' hH1 hR1 hB1
        generalize wd.setCell ⟨w.heap.size + 1, a, none⟩ (.int .i32 (gi q a - z)) = wb at *
        obtain ⟨ad', ead, c0, c1, c2⟩ := (H.out.below hB2.out).at_ k hlt
        obtain rfl : ad' = ad := by simpa using ead.symm
        rw [HTB.out] at c1
        rw [HZk.out] at c2
        have cb := nums_cell hH2.out b (by rw [L6.out]; exact hb5)
        have fb := blk_frozen hH2.out b
        generalize addAtP q a (-z) = q1 at *
        go_still_tail 15, (by kernel_rfl)
        change wpList _ _ _ _ _ wb.drew
        have hH3 : Hid (wb.drew.heap[w.heap.size + 1]? = some (.cells (nums .i32 q1).toArray 30 (0, 0))) := hH2.out
        have hR3 : Hid (wb.drew.heap[w.heap.size]? = some (.cells #[.int .i32 0, .int .i32 0, .int .i32 0, .int .i32 0, .int .i32 0] 30 (0, 0))) := hR2.out
        have hB3 : Hid (Below w.heap.size w wb.drew) := below_drew hB2.out
        have cb' : wb.drew.cell? ⟨w.heap.size + 1, b, none⟩ = some (.int .i32 (gi q1 b)) := cb
        have fb' : wb.drew.frozen? ⟨w.heap.size + 1, b, none⟩ = false := fb
        clear c0 c1 c2 cb fb hH2 hR2 hB2
        generalize wb.drew = we at *
        go_wp2
        go_roundw
        case rel =>
          refine ⟨k + 1, by omega, by go_num, ?_, blk_far hR3.out (by omega) b _, hB3.out.setCell (by simp) _⟩
          have := blk_set hH3.out b (.int .i32 (gi q1 b + z))
          rw [nums_set] at this
          rw [Hid, HN.out, HS.out]
          exact this
        case measure => simp [intOf]; omega
      · obtain rfl : k = n := by omega
        have d1 : decide ((k : Int) < (k : Int)) = false := by simp
        have L0 := Lib.hid (HF.out k hk).len
        go_wp2_with (first
          | (refine wpList_load_row rfl 30 (.tmp 4) rfl (w.heap.size + 1) rfl 30 (nums .i32 (netN s t g k)).toArray (0, 0) _ ?_ Tryz.underlying30 rfl HIk.out ?_; (with_reducible exact hH.out))
          | (refine ev_store_row rfl 30 (.tmp 2) (.tmp 47) rfl (w.heap.size) (nums .i32 (netN s t g k)).toArray rfl rfl 30 #[.int .i32 0, .int .i32 0, .int .i32 0, .int .i32 0, .int .i32 0] ?_ HIk.out (by simp [nums, L0.out]) (nums_one _ _) ?_; (with_reducible exact hR.out); intro w3 hblk ht; have hR3 := Lib.hid hblk; clear hblk))
        refine bodyPost_ret (v := .tuple #[.agg (nums .i32 (netN s t g k)).toArray, .int .i64 0]) (results_ct rfl _ _ (w.heap.size) 30 (nums .i32 (netN s t g k)).toArray (0, 0) _ rfl (by with_reducible exact hR3.out) Tryz.underlying30 rfl HIk.out rfl) rfl ⟨by rw [E.out], hB.out.trans (ht.below (Nat.le_refl _))⟩
end Go.Proofs.YtjhifpidbobmaaaGreatDoor
/- The law on what each place has more. -/
namespace Go.Proofs.YtjhifpidbobmaaaGreatDoor
open Go.RowKit
set_option linter.unusedVariables false
set_option linter.unusedSimpArgs false
set_option maxRecDepth 100000

theorem tou_newP {w w1 : World} {o : Obj} (ht : Tou w.heap.size (w.alloc o) w1) : Below w.heap.size w w1 := (below_alloc (Below.refl _ _) _).trans (ht.below (Nat.le_refl _))


end Go.Proofs.YtjhifpidbobmaaaGreatDoor
