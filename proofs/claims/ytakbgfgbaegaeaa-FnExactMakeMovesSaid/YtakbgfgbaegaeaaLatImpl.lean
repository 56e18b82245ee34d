/- The places behind each move, up to the first wrong one: the implementation's walk. -/
import Derived.Test.YtakbgfgbaegaeaaLatPure
import Derived.Test.YtakbgfgbaegaeaaMem4
namespace Go.Proofs.Ytakbgfgbaegaeaa
open Go.RowKit
set_option linter.unusedVariables false
set_option linter.unusedSimpArgs false
set_option maxRecDepth 100000

def rows5 (P : Nat → List Int) (k : Nat) : List Value := (List.range k).flatMap fun j => nums .i32 (P (j + 1))
theorem rows5_succ (P : Nat → List Int) (k : Nat) : rows5 P (k + 1) = rows5 P k ++ nums .i32 (P (k + 1)) := by
  simp [rows5, List.range_succ, List.flatMap_append]
set_option maxHeartbeats 1000000 in
theorem c_after (p0 : List Int) (A : Option Addr) (n c : Nat) (s t g : Nat → Int) (w : World) (hp : Five p0 1000000) (h : MovesAt w A n s t g) (hn : n ≤ 60) (hok : ∀ j, j < n → okMove (s j) (t j) (g j) = true) :
    Calls Try.prog 30 #[.agg (nums .i32 p0).toArray, .slice A n c] w fun e w' => ∃ v, e = .returned v ∧ w'.ownsRow w.heap.size 32 5 v (goodN p0 s t g n) (rows5 (atN p0 s t g) (goodN p0 s t g n)) ∧ Below w.heap.size w w' := by
  have H := Lib.hid h
  have HOK := Lib.hid hok
  have HP := Lib.hid hp
  have HA := Lib.hid (heap_alloc_new w (.cells (nums .i32 p0).toArray 32 (0, 0)))
  have HB0 : Hid (Below w.heap.size w (w.alloc (.cells (nums .i32 p0).toArray 32 (0, 0)))) := below_alloc (Below.refl _ _) _
  clear h hok hp
  go_enter Try.func30, Try.ntmps30
  go_wp2
  go_loopw [10, 5] (fun i v wr => ∃ k : Nat, k ≤ n ∧ i = .int .i64 k ∧ Hid (goodN p0 s t g k = k) ∧ Hid (Five (atN p0 s t g k) 1000000) ∧ Hid (wr.heap[w.heap.size]? = some (.cells (nums .i32 (atN p0 s t g k)).toArray 32 (0, 0))) ∧ Hid (wr.ownsRow (w.heap.size + 1) 32 5 v k (rows5 (atN p0 s t g) k)) ∧ Hid (Below w.heap.size w wr)) (fun i _ _ => n - (intOf i).toNat)
  case atStart => exact ⟨0, by omega, rfl, rfl, HP, HA, own_nil _ _ _ _, HB0⟩
  case round =>
    obtain ⟨k, hk, rfl, hG, hF, hH, hO, hB⟩ := hrel
    have hz := hB.out.size
    have hz1 := blk_lt hH.out
    have HIk := Lib.hid (places_info hF.out.len)
    by_cases hlt : k < n
    · have d1 : decide ((k : Int) < (n : Int)) = true := by simp; omega
      obtain ⟨ad, rfl, c0, c1, c2⟩ := (H.out.below hB.out).at_ k hlt
      obtain ⟨⟨s0, s1⟩, ⟨t0, t1⟩, g0, g1⟩ := okMove_all (HOK.out k hlt)
      obtain ⟨a, ha⟩ := Int.eq_ofNat_of_zero_le s0
      obtain ⟨b, hb⟩ := Int.eq_ofNat_of_zero_le t0
      have ha5 : a < 5 := by omega
      have hb5 : b < 5 := by omega
      rw [ha] at c0
      rw [hb] at c1
      have HN : Hid (atN p0 s t g (k + 1) = stepP (atN p0 s t g k) a b (g k)) := by rw [Hid, atN, ha, hb]
      have f5 : Five (atN p0 s t g k) 2000000 := ⟨hF.out.len, fun i => by have := hF.out.bd i; omega⟩
      have CM := fun w => Lib.hid (c_movedW (atN p0 s t g k) a b (g k) w f5 ha5 hb5 ⟨g0, g1⟩)
      have L0 := Lib.hid hF.out.len
      have f6 := (hF.out.addAt a (v := -(g k)) (V := 5000) ha5 (by omega) (by omega)).addAt b (v := g k) (V := 5000) hb5 (by omega) (by omega)
      have L1 : Hid ((atN p0 s t g (k + 1)).length = 5) := by rw [Hid, HN.out]; exact f6.len
      have HI1 := Lib.hid (places_info L1.out)
      have B1 : ∀ j, -2147483648 ≤ gi (atN p0 s t g (k + 1)) j ∧ gi (atN p0 s t g (k + 1)) j ≤ 2147483647 := fun j => by
        rw [HN.out]
        have := f6.bd j
        have e : stepP (atN p0 s t g k) a b (g k) = addAtP (addAtP (atN p0 s t g k) a (-(g k))) b (g k) := rfl
        rw [e]
        omega
      have CI := fun w => Lib.hid (c_isPlaces (atN p0 s t g (k + 1)) w L1.out B1)
      have k0 : (0 : Int) ≤ (k : Int) := by omega
      have k1 : (k : Int) < (n : Int) := by omega
      clear s0 s1 t0 t1 ha hb f5 f6 B1
      rw [← HN.out] at CM
      cases hq : okFive (atN p0 s t g (k + 1))
      · have EG := Lib.hid (goodN_stop hG.out hq n hk)
        have CI2 : ∀ w, Hid (Calls Try.prog 29 #[.agg (nums .i32 (atN p0 s t g (k + 1))).toArray] w fun e w' => e = .returned (.bool false) ∧ Below w.heap.size w w') := fun w => by rw [Hid, ← hq]; exact (CI w).out
        clear CI hq
        go_wp2_with (first
          | (refine wpList_load_row rfl 32 (.tmp 2) rfl (w.heap.size) rfl 32 (nums .i32 (atN p0 s t g k)).toArray (0, 0) _ ?_ Try.underlying32 rfl HIk.out ?_; (exact blk_alloc hH.out _))
          | (go_at_call 38; ((with_reducible refine (CM _).out.mono ?_); rintro e w2 ⟨rfl, hb⟩; have hH2 := Lib.hid (blk_below (blk_alloc hH.out _) hb); have hO2 := Lib.hid (own_below (hO.out.alloc _) hb); have hB2 := Lib.hid (Below.trans (hB.out.alloc hz _) (hb.mono (by simp; omega)))))
          | (refine ev_store_row rfl 32 (.tmp 2) (.tmp 16) rfl (w.heap.size) (nums .i32 (atN p0 s t g (k + 1))).toArray rfl rfl 32 (nums .i32 (atN p0 s t g k)).toArray ?_ HI1.out (by simp [nums, L0.out, L1.out]) (nums_one _ _) ?_; (with_reducible exact hH2.out); intro w3 hblk ht; have hH3 := Lib.hid hblk; have hO3 := Lib.hid (own_tou hO2.out ht (by omega)); have hB3 : Hid (Below w.heap.size w w3) := Below.trans hB2.out (ht.below (by omega)); have hz3 := hB3.out.size; clear hblk)
          | (refine wpList_load_row rfl 32 (.tmp 2) rfl (w.heap.size) rfl 32 (nums .i32 (atN p0 s t g (k + 1))).toArray (0, 0) _ ?_ Try.underlying32 rfl HI1.out ?_; (with_reducible exact hH3.out))
          | (go_at_call 29; ((with_reducible refine (CI2 _).out.mono ?_); rintro e w4 ⟨rfl, hb⟩; have hO4 := Lib.hid (own_below hO3.out hb); have hB4 := Lib.hid (Below.trans hB3.out (hb.mono (by omega))))))
        exact bodyPost_ret (v := u5) (by simp [results, Try.results30, go_sem]) rfl ⟨_, rfl, by rw [EG.out]; exact own_mono hO4.out (by omega), hB4.out⟩
      · have EG := Lib.hid (goodN_next hG.out hq)
        have hF1 := Lib.hid (okFive_bd L1.out hq)
        have CI2 : ∀ w, Hid (Calls Try.prog 29 #[.agg (nums .i32 (atN p0 s t g (k + 1))).toArray] w fun e w' => e = .returned (.bool true) ∧ Below w.heap.size w w') := fun w => by rw [Hid, ← hq]; exact (CI w).out
        clear CI hq
        go_wp2_with (first
          | (refine wpList_load_row rfl 32 (.tmp 2) rfl (w.heap.size) rfl 32 (nums .i32 (atN p0 s t g k)).toArray (0, 0) _ ?_ Try.underlying32 rfl HIk.out ?_; (exact blk_alloc hH.out _))
          | (go_at_call 38; ((with_reducible refine (CM _).out.mono ?_); rintro e w2 ⟨rfl, hb⟩; have hH2 := Lib.hid (blk_below (blk_alloc hH.out _) hb); have hO2 := Lib.hid (own_below (hO.out.alloc _) hb); have hB2 := Lib.hid (Below.trans (hB.out.alloc hz _) (hb.mono (by simp; omega)))))
          | (refine ev_store_row rfl 32 (.tmp 2) (.tmp 16) rfl (w.heap.size) (nums .i32 (atN p0 s t g (k + 1))).toArray rfl rfl 32 (nums .i32 (atN p0 s t g k)).toArray ?_ HI1.out (by simp [nums, L0.out, L1.out]) (nums_one _ _) ?_; (with_reducible exact hH2.out); intro w3 hblk ht; have hH3 := Lib.hid hblk; have hO3 := Lib.hid (own_tou hO2.out ht (by omega)); have hB3 : Hid (Below w.heap.size w w3) := Below.trans hB2.out (ht.below (by omega)); have hz3 := hB3.out.size; clear hblk)
          | (refine wpList_load_row rfl 32 (.tmp 2) rfl (w.heap.size) rfl 32 (nums .i32 (atN p0 s t g (k + 1))).toArray (0, 0) _ ?_ Try.underlying32 rfl HI1.out ?_; (with_reducible exact hH3.out))
          | (go_at_call 29; ((with_reducible refine (CI2 _).out.mono ?_); rintro e w4 ⟨rfl, hb⟩; have hH4 := Lib.hid (blk_below hH3.out hb); have hO4 := Lib.hid (own_below hO3.out hb); have hB4 := Lib.hid (Below.trans hB3.out (hb.mono (by omega))); have hz4 := hB4.out.size; have hz5 := blk_lt hH4.out))
          | (refine wpList_load_row rfl 32 (.tmp 2) rfl (w.heap.size) rfl 32 (nums .i32 (atN p0 s t g (k + 1))).toArray (0, 0) _ ?_ Try.underlying32 rfl HI1.out ?_; (with_reducible exact hH4.out))
          | (refine wpList_build1 rfl 46 32 (.tmp 21) rfl ((nums .i32 (atN p0 s t g (k + 1))).toArray) 5 (.agg #[.int .i32 0, .int .i32 0, .int .i32 0, .int .i32 0, .int .i32 0]) rfl Try.underlying46 (by kernel_rfl) (by decide) (by decide) (by simp [nums, L1.out]) ?_)
          | (at_builtin; refine ap1 rfl (.tmp 20) (.tmp 22) 46 32 rfl ((.agg #[.int .i32 0, .int .i32 0, .int .i32 0, .int .i32 0, .int .i32 0])) 5 20 (w.heap.size + 1) Try.underlying46 (by kernel_rfl) rfl (by decide) u5 k (rows5 (atN p0 s t g) k) (nums .i32 (atN p0 s t g (k + 1))) rfl rfl (by simp) (by simp [nums, L1.out]) (nums_oneL _ _) hO4.out (by omega) (by omega) (by omega) ?_; intro g3 d3 w5 hown hg3 hat; have hH5 := Lib.hid (blk_grown hH4.out hg3 hO4.out (by omega)); have hB5 := Lib.hid (below_grown hB4.out hg3 hO4.out (by omega) (by omega)); have hO5 := Lib.hid hown; clear hown hat hg3))
        go_roundw
        case rel => exact ⟨k + 1, by omega, by go_num, EG, hF1, hH5, by rw [Hid, rows5_succ]; exact hO5.out, hB5⟩
        case measure => simp [intOf]; omega
    · obtain rfl : k = n := by omega
      have d1 : decide ((k : Int) < (k : Int)) = false := by simp
      go_wp2
      exact bodyPost_ret (v := u5) (by simp [results, Try.results30, go_sem]) rfl ⟨_, rfl, by rw [hG.out]; exact own_mono hO.out (by omega), hB.out⟩
end Go.Proofs.Ytakbgfgbaegaeaa
