/- Texts laid together: LatImpl, LatSpec. -/
import Derived.Test.YtjhifpidbobmaaaGreatDoorMg06
import Derived.Test.YtjhifpidbobmaaaGreatDoorMg07
import Derived.StillTailTactics
/- The places behind each move, up to the first wrong one: the implementation's walk. -/
namespace Go.Proofs.YtjhifpidbobmaaaGreatDoor
open Go.RowKit
set_option linter.unusedVariables false
set_option linter.unusedSimpArgs false
set_option maxRecDepth 100000

def rows5 (P : Nat → List Int) (k : Nat) : List Value := (List.range k).flatMap fun j => nums .i32 (P (j + 1))
theorem rows5_succ (P : Nat → List Int) (k : Nat) : rows5 P (k + 1) = rows5 P k ++ nums .i32 (P (k + 1)) := by
  simp [rows5, List.range_succ, List.flatMap_append]
set_option maxHeartbeats 1000000 in
theorem c_after (p0 : List Int) (A : Option Addr) (n c : Nat) (s t g : Nat → Int) (w : World) (hp : Five p0 1000000) (h : MovesAt w A n s t g) (hn : n ≤ 60) (hok : ∀ j, j < n → okMove (s j) (t j) (g j) = true) :
    Calls Tryz.prog 39 #[.agg (nums .i32 p0).toArray, .slice A n c] w fun e w' => ∃ v, e = .returned v ∧ w'.ownsRow w.heap.size 30 5 v (goodN p0 s t g n) (rows5 (atN p0 s t g) (goodN p0 s t g n)) ∧ Below w.heap.size w w' := by
  have H := Lib.hid h
  have HOK := Lib.hid hok
  have HP := Lib.hid hp
  have HA := Lib.hid (heap_alloc_new w (.cells (nums .i32 p0).toArray 30 (0, 0)))
  have HB0 : Hid (Below w.heap.size w (w.alloc (.cells (nums .i32 p0).toArray 30 (0, 0)))) := below_alloc (Below.refl _ _) _
  clear h hok hp
  go_enter Tryz.func39, Tryz.ntmps39
  go_wp2
  go_loopw [10, 5] (fun i v wr => ∃ k : Nat, k ≤ n ∧ i = .int .i64 k ∧ Hid (goodN p0 s t g k = k) ∧ Hid (Five (atN p0 s t g k) 1000000) ∧ Hid (wr.heap[w.heap.size]? = some (.cells (nums .i32 (atN p0 s t g k)).toArray 30 (0, 0))) ∧ Hid (wr.ownsRow (w.heap.size + 1) 30 5 v k (rows5 (atN p0 s t g) k)) ∧ Hid (Below w.heap.size w wr)) (fun i _ _ => n - (intOf i).toNat)
  case atStart => exact ⟨0, by omega, rfl, rfl, HP, HA, own_nil _ _ _ _, HB0⟩
  case round =>
    obtain ⟨k, hk, rfl, hG, hF, hH, hO, hB⟩ := hrel
    have hz := hB.out.size
    have hz1 := blk_lt hH.out
    have HIk := Lib.hid (places_info hF.out.len)
    by_cases hlt : k < n
    · have d1 : decide ((k : Int) < (n : Int)) = true := by simp; omega
      obtain ⟨ad, rfl, c0, c1, c2⟩ := (H.out.below hB.out).at_ k hlt
      obtain ⟨⟨s0, s1⟩, ⟨t0, t1⟩, g0, g1⟩ := okMove_all (HOK.out k hlt)
      obtain ⟨a, ha⟩ := Int.eq_ofNat_of_zero_le s0
      obtain ⟨b, hb⟩ := Int.eq_ofNat_of_zero_le t0
      have ha5 : a < 5 := by omega
      have hb5 : b < 5 := by omega
      rw [ha] at c0
      rw [hb] at c1
      have HN : Hid (atN p0 s t g (k + 1) = stepP (atN p0 s t g k) a b (g k)) := by rw [Hid, atN, ha, hb]
      have f5 : Five (atN p0 s t g k) 2000000 := ⟨hF.out.len, fun i => by have := hF.out.bd i; omega⟩
      have CM := fun w => Lib.hid (c_movedW (atN p0 s t g k) a b (g k) w f5 ha5 hb5 ⟨g0, g1⟩)
      have L0 := Lib.hid hF.out.len
      have f6 := (hF.out.addAt a (v := -(g k)) (V := 5000) ha5 (by omega) (by omega)).addAt b (v := g k) (V := 5000) hb5 (by omega) (by omega)
      have L1 : Hid ((atN p0 s t g (k + 1)).length = 5) := by rw [Hid, HN.out]; exact f6.len
      have HI1 := Lib.hid (places_info L1.out)
      have B1 : ∀ j, -2147483648 ≤ gi (atN p0 s t g (k + 1)) j ∧ gi (atN p0 s t g (k + 1)) j ≤ 2147483647 := fun j => by
        rw [HN.out]
        have := f6.bd j
        have e : stepP (atN p0 s t g k) a b (g k) = addAtP (addAtP (atN p0 s t g k) a (-(g k))) b (g k) := rfl
        rw [e]
        omega
      have CI := fun w => Lib.hid (c_isPlaces (atN p0 s t g (k + 1)) w L1.out B1)
      have k0 : (0 : Int) ≤ (k : Int) := by omega
      have k1 : (k : Int) < (n : Int) := by omega
      clear s0 s1 t0 t1 ha hb f5 f6 B1
      rw [← HN.out] at CM
      cases hq : okFive (atN p0 s t g (k + 1))
      · have EG := Lib.hid (goodN_stop hG.out hq n hk)
        have CI2 : ∀ w, Hid (Calls Tryz.prog 38 #[.agg (nums .i32 (atN p0 s t g (k + 1))).toArray] w fun e w' => e = .returned (.bool false) ∧ Below w.heap.size w w') := fun w => by rw [Hid, ← hq]; exact (CI w).out
        clear CI hq
        go_wp2_with (first
          | (refine wpList_load_row rfl 30 (.tmp 2) rfl (w.heap.size) rfl 30 (nums .i32 (atN p0 s t g k)).toArray (0, 0) _ ?_ Tryz.underlying30 rfl HIk.out ?_; (exact blk_alloc hH.out _))
          | (go_at_call 35; ((with_reducible refine (CM _).out.mono ?_); rintro e w2 ⟨rfl, hb⟩; have hH2 := Lib.hid (blk_below (blk_alloc hH.out _) hb); have hO2 := Lib.hid (own_below (hO.out.alloc _) hb); have hB2 := Lib.hid (Below.trans (hB.out.alloc hz _) (hb.mono (by simp; omega)))))
          | (refine ev_store_row rfl 30 (.tmp 2) (.tmp 16) rfl (w.heap.size) (nums .i32 (atN p0 s t g (k + 1))).toArray rfl rfl 30 (nums .i32 (atN p0 s t g k)).toArray ?_ HI1.out (by simp [nums, L0.out, L1.out]) (nums_one _ _) ?_; (with_reducible exact hH2.out); intro w3 hblk ht; have hH3 := Lib.hid hblk; have hO3 := Lib.hid (own_tou hO2.out ht (by omega)); have hB3 : Hid (Below w.heap.size w w3) := Below.trans hB2.out (ht.below (by omega)); have hz3 := hB3.out.size; clear hblk)
          | (refine wpList_load_row rfl 30 (.tmp 2) rfl (w.heap.size) rfl 30 (nums .i32 (atN p0 s t g (k + 1))).toArray (0, 0) _ ?_ Tryz.underlying30 rfl HI1.out ?_; (with_reducible exact hH3.out))
          | (go_at_call 38; ((with_reducible refine (CI2 _).out.mono ?_); rintro e w4 ⟨rfl, hb⟩; have hO4 := Lib.hid (own_below hO3.out hb); have hB4 := Lib.hid (Below.trans hB3.out (hb.mono (by omega))))))
        exact bodyPost_ret (v := u5) (by simp [results, Tryz.results39, go_sem]) rfl ⟨_, rfl, by rw [EG.out]; exact own_mono hO4.out (by omega), hB4.out⟩
      · have EG := Lib.hid (goodN_next hG.out hq)
        have hF1 := Lib.hid (okFive_bd L1.out hq)
        have CI2 : ∀ w, Hid (Calls Tryz.prog 38 #[.agg (nums .i32 (atN p0 s t g (k + 1))).toArray] w fun e w' => e = .returned (.bool true) ∧ Below w.heap.size w w') := fun w => by rw [Hid, ← hq]; exact (CI w).out
        clear CI hq
        go_wp2_with (first
          | (refine wpList_load_row rfl 30 (.tmp 2) rfl (w.heap.size) rfl 30 (nums .i32 (atN p0 s t g k)).toArray (0, 0) _ ?_ Tryz.underlying30 rfl HIk.out ?_; (exact blk_alloc hH.out _))
          | (go_at_call 35; ((with_reducible refine (CM _).out.mono ?_); rintro e w2 ⟨rfl, hb⟩; have hH2 := Lib.hid (blk_below (blk_alloc hH.out _) hb); have hO2 := Lib.hid (own_below (hO.out.alloc _) hb); have hB2 := Lib.hid (Below.trans (hB.out.alloc hz _) (hb.mono (by simp; omega)))))
          | (refine ev_store_row rfl 30 (.tmp 2) (.tmp 16) rfl (w.heap.size) (nums .i32 (atN p0 s t g (k + 1))).toArray rfl rfl 30 (nums .i32 (atN p0 s t g k)).toArray ?_ HI1.out (by simp [nums, L0.out, L1.out]) (nums_one _ _) ?_; (with_reducible exact hH2.out); intro w3 hblk ht; have hH3 := Lib.hid hblk; have hO3 := Lib.hid (own_tou hO2.out ht (by omega)); have hB3 : Hid (Below w.heap.size w w3) := Below.trans hB2.out (ht.below (by omega)); have hz3 := hB3.out.size; clear hblk)
          | (refine wpList_load_row rfl 30 (.tmp 2) rfl (w.heap.size) rfl 30 (nums .i32 (atN p0 s t g (k + 1))).toArray (0, 0) _ ?_ Tryz.underlying30 rfl HI1.out ?_; (with_reducible exact hH3.out))
          | (go_at_call 38; ((with_reducible refine (CI2 _).out.mono ?_); rintro e w4 ⟨rfl, hb⟩; have hH4 := Lib.hid (blk_below hH3.out hb); have hO4 := Lib.hid (own_below hO3.out hb); have hB4 := Lib.hid (Below.trans hB3.out (hb.mono (by omega))); have hz4 := hB4.out.size; have hz5 := blk_lt hH4.out))
          | (refine wpList_load_row rfl 30 (.tmp 2) rfl (w.heap.size) rfl 30 (nums .i32 (atN p0 s t g (k + 1))).toArray (0, 0) _ ?_ Tryz.underlying30 rfl HI1.out ?_; (with_reducible exact hH4.out))
          | (refine wpList_build1 rfl 34 30 (.tmp 21) rfl ((nums .i32 (atN p0 s t g (k + 1))).toArray) 5 (.agg #[.int .i32 0, .int .i32 0, .int .i32 0, .int .i32 0, .int .i32 0]) rfl Tryz.underlying34 (by kernel_rfl) (by decide) (by decide) (by simp [nums, L1.out]) ?_)
          | (at_builtin; refine ap1 rfl (.tmp 20) (.tmp 22) 34 30 rfl ((.agg #[.int .i32 0, .int .i32 0, .int .i32 0, .int .i32 0, .int .i32 0])) 5 20 (w.heap.size + 1) Tryz.underlying34 (by kernel_rfl) rfl (by decide) u5 k (rows5 (atN p0 s t g) k) (nums .i32 (atN p0 s t g (k + 1))) rfl rfl (by simp) (by simp [nums, L1.out]) (nums_oneL _ _) hO4.out (by omega) (by omega) (by omega) ?_; intro g3 d3 w5 hown hg3 hat; have hH5 := Lib.hid (blk_grown hH4.out hg3 hO4.out (by omega)); have hB5 := Lib.hid (below_grown hB4.out hg3 hO4.out (by omega) (by omega)); have hO5 := Lib.hid hown; clear hown hat hg3))
        go_roundw
        case rel => exact ⟨k + 1, by omega, by go_num, EG, hF1, hH5, by rw [Hid, rows5_succ]; exact hO5.out, hB5⟩
        case measure => simp [intOf]; omega
    · obtain rfl : k = n := by omega
      have d1 : decide ((k : Int) < (k : Int)) = false := by simp
      go_wp2
      exact bodyPost_ret (v := u5) (by simp [results, Tryz.results39, go_sem]) rfl ⟨_, rfl, by rw [hG.out]; exact own_mono hO.out (by omega), hB.out⟩
end Go.Proofs.YtjhifpidbobmaaaGreatDoor
/- The places behind each move, up to the first wrong one: the reference's walk. -/
namespace Go.Proofs.YtjhifpidbobmaaaGreatDoor
open Go.RowKit
set_option linter.unusedVariables false
set_option linter.unusedSimpArgs false
set_option maxRecDepth 100000

/-- What l07At says next to the places. -/
def wrongN (p0 : List Int) (s t g : Nat → Int) (n : Nat) : Int := if goodN p0 s t g n = n then -1 else (goodN p0 s t g n : Nat)

set_option maxHeartbeats 2000000 in
theorem c_l07At (p0 : List Int) (A : Option Addr) (n c : Nat) (s t g : Nat → Int) (w : World) (hp : Five p0 1000000) (h : MovesAt w A n s t g) (hn : n ≤ 60) (hok : ∀ j, j < n → okMove (s j) (t j) (g j) = true) :
    Calls Tryz.prog 41 #[.agg (nums .i32 p0).toArray, .slice A n c] w fun e w' => ∃ v, e = .returned (.tuple #[v, .int .i64 (wrongN p0 s t g n)]) ∧ w'.ownsRow w.heap.size 30 5 v (goodN p0 s t g n) (rows5 (atN p0 s t g) (goodN p0 s t g n)) ∧ Below w.heap.size w w' := by
  have H := Lib.hid h
  have HOK := Lib.hid hok
  have HP := Lib.hid hp
  have HA := Lib.hid (blk_alloc (heap_alloc_new w (.cells (nums .i32 p0).toArray 30 (0, 0))) (.cells #[] 30 (0, 0)))
  have HB0 : Hid (Below w.heap.size w ((w.alloc (.cells (nums .i32 p0).toArray 30 (0, 0))).alloc (.cells #[] 30 (0, 0)))) := below_alloc (below_alloc (Below.refl _ _) _) _
  have ho := World.ownsRow_made (base := w.heap.size + 1) (e := 30) (size := 5) (w.alloc (.cells (nums .i32 p0).toArray 30 (0, 0))) #[] 0 (by simp) (by decide) rfl
  rw [World.size_alloc] at ho
  have HO := Lib.hid ho
  clear h hok hp ho
  go_enter Tryz.func41, Tryz.ntmps41
  go_wp2
  go_loopw [7, 6] (fun i v wr => ∃ k : Nat, k ≤ n ∧ i = .int .i64 k ∧ Hid (goodN p0 s t g k = k) ∧ Hid (Five (atN p0 s t g k) 1000000) ∧ Hid (wr.heap[w.heap.size]? = some (.cells (nums .i32 (atN p0 s t g k)).toArray 30 (0, 0))) ∧ Hid (wr.ownsRow (w.heap.size + 1) 30 5 v k (rows5 (atN p0 s t g) k)) ∧ Hid (Below w.heap.size w wr)) (fun i _ _ => n - (intOf i).toNat)
  case atStart => exact ⟨0, by omega, rfl, rfl, HP, HA, HO, HB0⟩
  case round =>
    obtain ⟨k, hk, rfl, hG, hF, hH, hO, hB⟩ := hrel
    have HIk := Lib.hid (places_info hF.out.len)
    by_cases hlt : k < n
    · have d1 : decide ((k : Int) < (n : Int)) = true := by simp; omega
      obtain ⟨ad, rfl, c0, c1, c2⟩ := (H.out.below hB.out).at_ k hlt
      obtain ⟨⟨s0, s1⟩, ⟨t0, t1⟩, g0, g1⟩ := okMove_all (HOK.out k hlt)
      obtain ⟨a, ha⟩ := Int.eq_ofNat_of_zero_le s0
      obtain ⟨b, hb⟩ := Int.eq_ofNat_of_zero_le t0
      have ha5 : a < 5 := by omega
      have hb5 : b < 5 := by omega
      rw [ha] at c0
      rw [hb] at c1
      have HN : Hid (atN p0 s t g (k + 1) = stepP (atN p0 s t g k) a b (g k)) := by rw [Hid, atN, ha, hb]
      have f5 : Five (atN p0 s t g k) 1000000 := hF.out
      have f6 := f5.addAt a (v := -(g k)) (V := 5000) ha5 (by omega) (by omega)
      have f7 : Five (stepP (atN p0 s t g k) a b (g k)) (1000000 + 5000 + 5000) := f6.addAt b (v := g k) (V := 5000) hb5 (by omega) (by omega)
      obtain ⟨v0, v1⟩ := f5.bd a
      obtain ⟨v2, v3⟩ := f6.bd b
      have v0' : -1000000 ≤ gi (atN p0 s t g k) a := by omega
      have v1' : gi (atN p0 s t g k) a ≤ 1000000 := by omega
      have v2' : -1010000 ≤ gi (addAtP (atN p0 s t g k) a (-(g k))) b := by omega
      have v3' : gi (addAtP (atN p0 s t g k) a (-(g k))) b ≤ 1010000 := by omega
      have L0 := Lib.hid f5.len
      have L6 := Lib.hid f6.len
      have L1 : Hid ((atN p0 s t g (k + 1)).length = 5) := by rw [Hid, HN.out]; exact f7.len
      have HI1 := Lib.hid (places_info L1.out)
      have B1 : Hid (∀ j, -2147483648 ≤ gi (atN p0 s t g (k + 1)) j ∧ gi (atN p0 s t g (k + 1)) j ≤ 2147483647) := fun j => by
        rw [HN.out]
        have := f7.bd j
        omega
      have a0 : (0 : Int) ≤ (a : Int) := by omega
      have a1 : (a : Int) < 5 := by omega
      have b0 : (0 : Int) ≤ (b : Int) := by omega
      have b1 : (b : Int) < 5 := by omega
      have k0 : (0 : Int) ≤ (k : Int) := by omega
      have k1 : (k : Int) < (n : Int) := by omega
      have HTB := Lib.hid hb
      clear s0 s1 t0 t1 ha hb f5 f6 f7 v0 v1 v2 v3
      have ca := nums_cell hH.out a (by rw [L0.out]; exact ha5)
      have fa := blk_frozen hH.out a
      have HS : Hid (stepP (atN p0 s t g k) a b (g k) = (addAtP (atN p0 s t g k) a (-(g k))).set b (gi (addAtP (atN p0 s t g k) a (-(g k))) b + g k)) := rfl
      have HS1 : Hid (addAtP (atN p0 s t g k) a (-(g k)) = (atN p0 s t g k).set a (gi (atN p0 s t g k) a + -(g k))) := rfl
      have HOl := Lib.hid hO
      generalize hq0 : atN p0 s t g k = q at *
      generalize hz : g k = z at *
      have HZk := Lib.hid hz
      clear hz
      go_wp2
      go_still_tail 15, (by kernel_rfl)
      change wpList _ _ _ _ _ wr.drew
      have hH1 : Hid (wr.drew.heap[w.heap.size]? = some (.cells (nums .i32 q).toArray 30 (0, 0))) := hH.out
      have hO1 : Hid (wr.drew.ownsRow (w.heap.size + 1) 30 5 u6 k (rows5 (atN p0 s t g) k)) := own_drew hO.out
      have hB1 : Hid (Below w.heap.size w wr.drew) := below_drew hB.out
      have ca' : wr.drew.cell? ⟨w.heap.size, a, none⟩ = some (.int .i32 (gi q a)) := ca
      have fa' : wr.drew.frozen? ⟨w.heap.size, a, none⟩ = false := fa
      clear c0 c1 c2 ca fa hH hO hB HOl
      generalize wr.drew = wd at *
      go_wp2
      have hH2 : Hid ((wd.setCell ⟨w.heap.size, a, none⟩ (.int .i32 (gi q a - z))).heap[w.heap.size]? = some (.cells (nums .i32 (addAtP q a (-z))).toArray 30 (0, 0))) := by
        have := blk_set hH1.out a (.int .i32 (gi q a - z))
        rw [nums_set, Int.sub_eq_add_neg] at this
        rw [Hid, Int.sub_eq_add_neg]
        exact this
      have hO2 : Hid ((wd.setCell ⟨w.heap.size, a, none⟩ (.int .i32 (gi q a - z))).ownsRow (w.heap.size + 1) 30 5 u6 k (rows5 (atN p0 s t g) k)) := own_tou hO1.out (Tou.setCell _ _ _ _) (by omega)
      have hB2 : Hid (Below w.heap.size w (wd.setCell ⟨w.heap.size, a, none⟩ (.int .i32 (gi q a - z)))) := hB1.out.setCell (by simp) _
      clear ca' fa' hH1 hO1 hB1
      generalize wd.setCell ⟨w.heap.size, a, none⟩ (.int .i32 (gi q a - z)) = wb at *
      obtain ⟨ad', ead, c0, c1, c2⟩ := (H.out.below hB2.out).at_ k hlt
      obtain rfl : ad' = ad := by simpa using ead.symm
      rw [HTB.out] at c1
      rw [HZk.out] at c2
      have cb := nums_cell hH2.out b (by rw [L6.out]; exact hb5)
      have fb := blk_frozen hH2.out b
      generalize addAtP q a (-z) = q1 at *
      go_still_tail 15, (by kernel_rfl)
      change wpList _ _ _ _ _ wb.drew
      have hH3 : Hid (wb.drew.heap[w.heap.size]? = some (.cells (nums .i32 q1).toArray 30 (0, 0))) := hH2.out
      have hO3 : Hid (wb.drew.ownsRow (w.heap.size + 1) 30 5 u6 k (rows5 (atN p0 s t g) k)) := own_drew hO2.out
      have hB3 : Hid (Below w.heap.size w wb.drew) := below_drew hB2.out
      have cb' : wb.drew.cell? ⟨w.heap.size, b, none⟩ = some (.int .i32 (gi q1 b)) := cb
      have fb' : wb.drew.frozen? ⟨w.heap.size, b, none⟩ = false := fb
      clear c0 c1 c2 cb fb hH2 hO2 hB2
      generalize wb.drew = we at *
      have hH4 : Hid ((we.setCell ⟨w.heap.size, b, none⟩ (.int .i32 (gi q1 b + z))).heap[w.heap.size]? = some (.cells (nums .i32 (atN p0 s t g (k + 1))).toArray 30 (0, 0))) := by
        have := blk_set hH3.out b (.int .i32 (gi q1 b + z))
        rw [nums_set] at this
        rw [Hid, HN.out, HS.out]
        exact this
      have hO4 : Hid ((we.setCell ⟨w.heap.size, b, none⟩ (.int .i32 (gi q1 b + z))).ownsRow (w.heap.size + 1) 30 5 u6 k (rows5 (atN p0 s t g) k)) := own_tou hO3.out (Tou.setCell _ _ _ _) (by omega)
      have hB4 : Hid (Below w.heap.size w (we.setCell ⟨w.heap.size, b, none⟩ (.int .i32 (gi q1 b + z)))) := hB3.out.setCell (by simp) _
      have CI : Hid (Calls Tryz.prog 40 #[.pointer (some ⟨w.heap.size, 0, none⟩)] (we.setCell ⟨w.heap.size, b, none⟩ (.int .i32 (gi q1 b + z))) fun e w' => e = .returned (.bool (okFive (atN p0 s t g (k + 1)))) ∧ (we.setCell ⟨w.heap.size, b, none⟩ (.int .i32 (gi q1 b + z))) = w') :=
        c_l07Places w.heap.size _ _ L1.out B1.out (fun j hj => nums_cell hH4.out j (by rw [L1.out]; exact hj))
      have hz4 := hB4.out.size
      have hz5 := blk_lt hH4.out
      cases hq : okFive (atN p0 s t g (k + 1))
      · have EG := Lib.hid (goodN_stop hG.out hq n hk)
        have EW : Hid (wrongN p0 s t g n = (k : Int)) := by rw [Hid, wrongN, EG.out, if_neg (by omega)]
        rw [hq] at CI
        clear hq hH3 hO3 hB3
        go_wp2_with (go_at_call 40; ((with_reducible refine CI.out.mono ?_); rintro e w4 ⟨rfl, rfl⟩))
        exact bodyPost_ret (v := .tuple #[u6, .int .i64 k]) (by simp [results, Tryz.results41, go_sem]) rfl ⟨_, by rw [EW.out], by rw [EG.out]; exact own_mono hO4.out (by omega), hB4.out⟩
      · have EG := Lib.hid (goodN_next hG.out hq)
        have hF1 := Lib.hid (okFive_bd L1.out hq)
        rw [hq] at CI
        clear hq hH3 hO3 hB3
        go_wp2_with (first
          | (go_at_call 40; ((with_reducible refine CI.out.mono ?_); rintro e w4 ⟨rfl, rfl⟩; clear CI; generalize we.setCell ⟨w.heap.size, b, none⟩ (.int .i32 (gi q1 b + z)) = w4 at *))
          | (refine wpList_load_row rfl 30 (.tmp 2) rfl (w.heap.size) rfl 30 (nums .i32 (atN p0 s t g (k + 1))).toArray (0, 0) _ ?_ Tryz.underlying30 rfl HI1.out ?_; (with_reducible exact hH4.out))
          | (refine wpList_build1 rfl 34 30 (.tmp 50) rfl ((nums .i32 (atN p0 s t g (k + 1))).toArray) 5 (.agg #[.int .i32 0, .int .i32 0, .int .i32 0, .int .i32 0, .int .i32 0]) rfl Tryz.underlying34 (by kernel_rfl) (by decide) (by decide) (by simp [nums, L1.out]) ?_)
          | (at_builtin; refine ap1 rfl (.tmp 49) (.tmp 51) 34 30 rfl ((.agg #[.int .i32 0, .int .i32 0, .int .i32 0, .int .i32 0, .int .i32 0])) 5 20 (w.heap.size + 1) Tryz.underlying34 (by kernel_rfl) rfl (by decide) u6 k (rows5 (atN p0 s t g) k) (nums .i32 (atN p0 s t g (k + 1))) rfl rfl (by simp) (by simp [nums, L1.out]) (nums_oneL _ _) hO4.out (by omega) (by omega) (by omega) ?_; intro g3 d3 w5 hown hg3 hat; have hH5 := Lib.hid (blk_grown hH4.out hg3 hO4.out (by omega)); have hB5 := Lib.hid (below_grown hB4.out hg3 hO4.out (by omega) (by omega)); have hO5 := Lib.hid hown; clear hown hat hg3))
        go_roundw
        case rel => exact ⟨k + 1, by omega, by go_num, EG, hF1, hH5, by rw [Hid, rows5_succ]; exact hO5.out, hB5⟩
        case measure => simp [intOf]; omega
    · obtain rfl : k = n := by omega
      have d1 : decide ((k : Int) < (k : Int)) = false := by simp
      have EW : Hid (wrongN p0 s t g k = -1) := by rw [Hid, wrongN, hG.out, if_pos rfl]
      go_wp2
      exact bodyPost_ret (v := .tuple #[u6, .int .i64 (-1)]) (by simp [results, Tryz.results41, go_sem]) rfl ⟨_, by rw [EW.out], by rw [hG.out]; exact own_mono hO.out (by omega), hB.out⟩
end Go.Proofs.YtjhifpidbobmaaaGreatDoor
