/- Texts laid together: MergeImpl, ShareSpec. -/
import Derived.Test.YtjhifpidbobmaaaGreatDoorMg15
import Derived.Test.YtjhifpidbobmaaaGreatDoorMg19
import Derived.BigQuiet
/- Moves taken together: the implementation's walk. -/
namespace Go.Proofs.YtjhifpidbobmaaaGreatDoor
open Go.RowKit
set_option linter.unusedVariables false
set_option linter.unusedSimpArgs false
set_option maxRecDepth 100000

set_option maxHeartbeats 4000000 in
theorem c_iMergeMoves (A : Option Addr) (n c : Nat) (s t g : Nat → Int) (w : World) (h : MovesAt w A n s t g) (hn : n ≤ 1048576) (hg : ∀ j, j < n → (-32768 ≤ g j ∧ g j ≤ 32767) ∧ (-128 ≤ s j ∧ s j ≤ 127) ∧ (-128 ≤ t j ∧ t j ≤ 127)) :
    Calls Tryz.prog 20 #[.slice A n c] w fun e w' => ∃ v, e = .returned (.tuple #[v, .int .i64 (mergeF n s t g).2]) ∧ w'.ownsRow w.heap.size 46 3 v (mergeF n s t g).1.length (mvRow (mergeF n s t g).1) ∧ Below w.heap.size w w' := by
  have H0 := Lib.hid h
  have cv := c_iValidMoves A n c s t g w h hn hg
  cases hm : (allB n (fun j => okMove (s j) (t j) (g j)) && decide (n ≤ 60))
  · have E : Hid (mergeF n s t g = ([], 1)) := by rw [Hid, mergeF, hm]; rfl
    rw [hm] at cv
    have CV := Lib.hid cv
    clear cv h hg hm
    go_enter Tryz.func20, Tryz.ntmps20
    go_wp2_with (go_at_call 18; ((with_reducible refine CV.out.mono ?_); rintro e w1 ⟨rfl, hb⟩))
    exact bodyPost_ret (v := .tuple #[.slice none 0 0, .int .i64 1]) (by simp [results, Tryz.results20, go_sem]) rfl ⟨_, by rw [E.out], by rw [E.out]; exact own_nil _ _ _ _, hb⟩
  · have hok2 : allB n (fun j => okMove (s j) (t j) (g j)) = true ∧ decide (n ≤ 60) = true := by simpa only [Bool.and_eq_true] using hm
    have HOK : Hid (∀ j, j < n → 1 ≤ g j ∧ g j ≤ 5000) := fun j hj => (okMove_all' (allB_get hok2.1 j hj)).2.2
    have hn60 : n ≤ 60 := of_decide_eq_true hok2.2
    have E : Hid (mergeF n s t g = if mrgOk s t g n 25 = true then (mrgL s t g n 25, 0) else ([], 3)) := by rw [Hid, mergeF, hm]; rfl
    rw [hm] at cv
    have CV := Lib.hid cv
    clear cv h hg hm hok2
    go_enter Tryz.func20, Tryz.ntmps20
    go_wp2_with (go_at_call 18; ((with_reducible refine CV.out.mono ?_); rintro e w1 ⟨rfl, hb⟩; have H := Lib.hid (H0.out.below hb); have HB1 := Lib.hid hb))
    clear hb CV
    go_loopw [13, 4] (fun i v wr => ∃ a : Nat, a ≤ 5 ∧ i = .int .i8 a ∧ Hid (mrgOk s t g n (a * 5) = true) ∧ Hid (wr.ownsRow w.heap.size 46 3 v (mrgL s t g n (a * 5)).length (mvRow (mrgL s t g n (a * 5)))) ∧ Hid (MovesAt wr A n s t g) ∧ Hid (Below w.heap.size w wr)) (fun i _ _ => 5 - (intOf i).toNat)
    case atStart => exact ⟨0, by omega, rfl, rfl, own_nil _ _ _ _, H, HB1⟩
    case round =>
      obtain ⟨a, ha, rfl, hK, hO, hM, hB⟩ := hrel
      by_cases hlt : a < 5
      · have d1 : decide ((a : Int) < 5) = true := by simp; omega
        have a0 : (0 : Int) ≤ (a : Int) := by omega
        have a1 : (a : Int) < 5 := by omega
        go_wp2
        go_loopw [16, 4] (fun i v wr => ∃ b : Nat, b ≤ 5 ∧ i = .int .i8 b ∧ Hid (mrgOk s t g n (a * 5 + b) = true) ∧ Hid (wr.ownsRow w.heap.size 46 3 v (mrgL s t g n (a * 5 + b)).length (mvRow (mrgL s t g n (a * 5 + b)))) ∧ Hid (MovesAt wr A n s t g) ∧ Hid (Below w.heap.size w wr)) (fun i _ _ => 5 - (intOf i).toNat)
        case atStart => exact ⟨0, by omega, rfl, hK, hO, hM, hB⟩
        case round =>
          obtain ⟨b, hb, rfl, hK, hO, hM, hB⟩ := hrel
          by_cases hlt2 : b < 5
          · have d2 : decide ((b : Int) < 5) = true := by simp; omega
            have b0 : (0 : Int) ≤ (b : Int) := by omega
            have b1 : (b : Int) < 5 := by omega
            go_wp2
            go_loopw [21, 7] (fun i x wr => ∃ j : Nat, j ≤ n ∧ i = .int .i64 j ∧ x = .int .i64 (sumAB s t g a b j) ∧ Hid (wr.ownsRow w.heap.size 46 3 u4 (mrgL s t g n (a * 5 + b)).length (mvRow (mrgL s t g n (a * 5 + b)))) ∧ Hid (MovesAt wr A n s t g) ∧ Hid (Below w.heap.size w wr)) (fun i _ _ => n - (intOf i).toNat)
            case atStart => exact ⟨0, by omega, rfl, rfl, hO, hM, hB⟩
            case round =>
              obtain ⟨j, hj, rfl, rfl, hO, hM, hB⟩ := hrel
              have hz := hB.out.size
              obtain ⟨z0, z1⟩ := sumAB_bd HOK.out (s := s) (t := t) a b j hj
              have z2 : sumAB s t g a b j ≤ 300000 := by omega
              clear z1
              by_cases hlt3 : j < n
              · have d3 : decide ((j : Int) < (n : Int)) = true := by simp; omega
                have j0 : (0 : Int) ≤ (j : Int) := by omega
                have j1 : (j : Int) < (n : Int) := by omega
                obtain ⟨ad, hAd, c0, c1, c2⟩ := hM.out.at_ j hlt3
                subst hAd
                obtain ⟨g0, g1⟩ := HOK.out j hlt3
                by_cases hs : s j = (a : Int)
                · rw [hs] at c0
                  by_cases ht : t j = (b : Int)
                  · rw [ht] at c1
                    have HS : Hid (sumAB s t g a b (j + 1) = sumAB s t g a b j + g j) := by rw [Hid, sumAB, if_pos ⟨hs, ht⟩]
                    go_wp2
                    go_roundw
                    case rel => exact ⟨j + 1, by omega, by go_num, by rw [HS.out], hO.out.alloc _, hM.out.below (below_alloc (Below.refl _ _) _), hB.out.alloc hz _⟩
                    case measure => simp [intOf]; omega
                  · have de : (t j == (b : Int)) = false := by simp [ht]
                    have HS : Hid (sumAB s t g a b (j + 1) = sumAB s t g a b j) := by rw [Hid, sumAB, if_neg (fun h => ht h.2)]
                    go_wp2
                    go_roundw
                    case rel => exact ⟨j + 1, by omega, by go_num, by rw [HS.out], hO.out.alloc _, hM.out.below (below_alloc (Below.refl _ _) _), hB.out.alloc hz _⟩
                    case measure => simp [intOf]; omega
                · have de : (s j == (a : Int)) = false := by simp [hs]
                  have HS : Hid (sumAB s t g a b (j + 1) = sumAB s t g a b j) := by rw [Hid, sumAB, if_neg (fun h => hs h.1)]
                  go_wp2
                  go_roundw
                  case rel => exact ⟨j + 1, by omega, by go_num, by rw [HS.out], hO.out.alloc _, hM.out.below (below_alloc (Below.refl _ _) _), hB.out.alloc hz _⟩
                  case measure => simp [intOf]; omega
              · obtain rfl : j = n := by omega
                have d3 : decide ((j : Int) < (j : Int)) = false := by simp
                have ep : (a * 5 + b) / 5 = a := by omega
                have eq : (a * 5 + b) % 5 = b := by omega
                have HOKn : Hid (mrgOk s t g j (a * 5 + b + 1) = decide (sumAB s t g a b j ≤ 5000)) := by
                  have := hK.out
                  unfold mrgOk at this
                  rw [Hid, mrgOk, allB, this, ep, eq]; rfl
                have HL : Hid (mrgL s t g j (a * 5 + b + 1) = if 0 < sumAB s t g a b j then mrgL s t g j (a * 5 + b) ++ [((a : Int), (b : Int), sumAB s t g a b j)] else mrgL s t g j (a * 5 + b)) := by
                  rw [Hid, mrgL, ep, eq]
                have hlen := mrgL_len s t g j (a * 5 + b)
                generalize hx : sumAB s t g a b j = x at *
                by_cases hbig : 5000 < x
                · have dg : decide (5000 < x) = true := by simpa using hbig
                  have hno : mrgOk s t g j 25 = false := allB_stop (k := a * 5 + b) (by simp only [ep, eq, hx]; simp; omega) (by omega)
                  have E3 : Hid (mergeF j s t g = ([], 3)) := by rw [Hid, E.out, hno]; rfl
                  clear hno
                  go_wp2
                  exact bodyPost_ret (v := .tuple #[.slice none 0 0, .int .i64 3]) (by simp [results, Tryz.results20, go_sem]) rfl ⟨_, by rw [E3.out], by rw [E3.out]; exact own_nil _ _ _ _, hB.out⟩
                · have dg : decide (5000 < x) = false := by simpa using hbig
                  have HK2 : Hid (mrgOk s t g j (a * 5 + b + 1) = true) := by rw [Hid, HOKn.out]; simp; omega
                  by_cases hpos : 0 < x
                  · have dp : decide (0 < x) = true := by simpa using hpos
                    have HL2 : Hid (mrgL s t g j (a * 5 + b + 1) = mrgL s t g j (a * 5 + b) ++ [((a : Int), (b : Int), x)]) := by rw [Hid, HL.out, if_pos hpos]
                    go_wp2_with (at_builtin; refine ap1 rfl (.tmp 47) (.tmp 53) 24 46 rfl ((.agg #[.int .i8 0, .int .i8 0, .int .i16 0])) 3 4 w.heap.size Tryz.underlying24 (by kernel_rfl) rfl (by decide) u4 (mrgL s t g j (a * 5 + b)).length (mvRow (mrgL s t g j (a * 5 + b))) [.int .i8 (a : Int), .int .i8 (b : Int), .int .i16 x] rfl rfl (by simp) rfl rfl hO.out hz (by omega) (by omega) ?_; intro g3 d3 w5 hown hg3 hat; have hB5 := Lib.hid (below_grown hB.out hg3 hO.out (Nat.le_refl _) hz); have hO5 := Lib.hid hown; clear hown hat)
                    go_roundw
                    case rel => exact ⟨b + 1, by omega, by go_num, HK2, by rw [show a * 5 + (b + 1) = a * 5 + b + 1 by omega, HL2.out, List.length_append, mvRow_snoc]; exact hO5.out, H0.out.below hB5.out, hB5⟩
                    case measure => simp [intOf]; omega
                  · have dp : decide (0 < x) = false := by simpa using hpos
                    have HL2 : Hid (mrgL s t g j (a * 5 + b + 1) = mrgL s t g j (a * 5 + b)) := by rw [Hid, HL.out, if_neg hpos]
                    go_wp2
                    go_roundw
                    case rel => exact ⟨b + 1, by omega, by go_num, HK2, by rw [show a * 5 + (b + 1) = a * 5 + b + 1 by omega, HL2.out]; exact hO, hM, hB⟩
                    case measure => simp [intOf]; omega
          · obtain rfl : b = 5 := by omega
            have d2 : decide ((5 : Int) < 5) = false := by simp
            go_wp2
            go_roundw
            case rel => exact ⟨a + 1, by omega, by go_num, by rw [show (a + 1) * 5 = a * 5 + 5 by omega]; exact hK, by rw [show (a + 1) * 5 = a * 5 + 5 by omega]; exact hO, hM, hB⟩
            case measure => simp [intOf]; omega
      · obtain rfl : a = 5 := by omega
        have d1 : decide ((5 : Int) < 5) = false := by simp
        have E0 : Hid (mergeF n s t g = (mrgL s t g n 25, 0)) := by rw [Hid, E.out, if_pos hK.out]
        go_wp2
        exact bodyPost_ret (v := .tuple #[u4, .int .i64 0]) (by simp [results, Tryz.results20, go_sem]) rfl ⟨_, by rw [E0.out], by rw [E0.out]; exact hO.out, hB.out⟩
end Go.Proofs.YtjhifpidbobmaaaGreatDoor
/- ShareCents, the reference's. -/
namespace Go.Proofs.YtjhifpidbobmaaaGreatDoor
open Go.RowKit
set_option linter.unusedVariables false
set_option linter.unusedSimpArgs false
set_option maxRecDepth 100000

theorem allB_le {p : Nat → Bool} {k n : Nat} (h : allB n p = true) (hk : k ≤ n) : allB k p = true := by
  induction n with
  | zero => obtain rfl : k = 0 := by omega
            rfl
  | succ n ih =>
    by_cases e : k = n + 1
    · subst e; exact h
    · have h2 : allB n p = true := by
        simp only [allB, Bool.and_eq_true] at h
        exact h.1
      exact ih h2 (by omega)
theorem allB_last {n : Nat} {p : Nat → Bool} (h : allB n p = true) (k : Nat) (hp : p n = true) : allB (n + 1) p = true := by rw [allB, h, hp]; rfl
theorem shareF_bad {c : Int} {zs : List Int} {n : Nat} (h : fineZ c zs n = false) : shareF c zs n = ([], 2) := by rw [shareF, if_pos h]
theorem shareF_long {c : Int} {zs : List Int} {n : Nat} (h : fineZ c zs n = true) (hn : 60 < n) : shareF c zs n = ([], 3) := by rw [shareF, if_neg (by rw [h]; simp), if_pos hn]
theorem shareF_none {c : Int} {zs : List Int} {n : Nat} (h : fineZ c zs n = true) (hn : ¬ 60 < n) (hs : sumZ zs n = 0) : shareF c zs n = ([], 6) := by rw [shareF, if_neg (by rw [h]; simp), if_neg hn, if_pos hs]
theorem shareF_some {c : Int} {zs : List Int} {n : Nat} (h : fineZ c zs n = true) (hn : ¬ 60 < n) (hs : ¬ sumZ zs n = 0) :
    shareF c zs n = (outK (baseZ c (sumZ zs n) zs n) (remZ c (sumZ zs n) zs) n (leftZ c (sumZ zs n) zs n).toNat, 0) := by rw [shareF, if_neg (by rw [h]; simp), if_neg hn, if_neg hs]
theorem fine_g {c : Int} {zs : List Int} {n : Nat} (h : allB n (fun j => inB (gi zs j) 0 5000) = true) : ∀ i, i < n → 0 ≤ gi zs i ∧ gi zs i ≤ 5000 := fun i hi => by
  have := allB_get h i hi
  simpa [inB] using this
theorem shOk_of {c : Int} {zs : List Int} {n : Nat} (h : fineZ c zs n = true) (hn : ¬ 60 < n) (hs : ¬ sumZ zs n = 0) : ShOk c (sumZ zs n) zs n := by
  simp only [fineZ, Bool.and_eq_true] at h
  have hc : 0 ≤ c ∧ c ≤ 1000000 := by simpa [inB] using h.1
  have hg := fine_g (c := c) h.2
  have := (sumZ_mono hg n (Nat.le_refl _)).1
  exact ⟨hc.1, hc.2, hg, by omega, rfl, by omega⟩
theorem share_le (c : Int) (zs : List Int) (n : Nat) (hn : n ≤ 1048576) : (shareF c zs n).1.length ≤ 1048576 := by
  unfold shareF
  split
  · exact Nat.zero_le _
  · split
    · exact Nat.zero_le _
    · split
      · exact Nat.zero_le _
      · simp only [outK_len, baseZ, List.length_map, List.length_range]; exact hn
theorem base_get {c all : Int} {zs : List Int} {n i : Nat} (hi : i < n) : gi (baseZ c all zs n) i = quoZ c all zs i := by simp [gi, baseZ, hi]
theorem base_len (c all : Int) (zs : List Int) (n : Nat) : (baseZ c all zs n).length = n := by simp [baseZ]
theorem base_bd {c all : Int} {zs : List Int} {n : Nat} (h : ShOk c all zs n) : ∀ i, i < n → 0 ≤ gi (baseZ c all zs n) i ∧ gi (baseZ c all zs n) i ≤ 1000000 := fun i hi => by
  rw [base_get hi]
  have := h.quo hi; have := h.c1
  omega
theorem nums_rangeN (k : Nat) (f : Nat → Int) : nums .i64 ((List.range k).map f) ++ [.int .i64 (f k)] = nums .i64 ((List.range (k + 1)).map f) := by
  simp [nums, List.range_succ]

theorem own_drewN {w : World} {base : Nat} {e : TypeId} {size : Nat} {v : Value} {n : Nat} {xs : List Value} (h : w.ownsRow base e size v n xs) (q : Nat) : (w.drewN q).ownsRow base e size v n xs := h
theorem made_bools (n : Nat) : madeCells #[.bool false] (n * 1) = ((List.range n).map fun _ => Value.bool false).toArray := by
  apply Array.ext
  · simp [size_madeCells]
  · intro i h1 h2
    simp [madeCells, Nat.mod_one]
theorem marks_set {key : Nat → Int} {n p r : Nat} (hr : r < n) (e : ordK key n p = (r : Int)) : ((List.range n).map fun i => Value.bool (gvK key n p i)).set r (.bool true) = (List.range n).map fun i => Value.bool (gvK key n (p + 1) i) := by
  apply List.ext_getElem?
  intro i
  unfold ordK at e
  rw [List.getElem?_set]
  by_cases c : r = i
  · subst c; simp [hr, gvK, e]
  · rw [if_neg c]
    by_cases hi : i < n
    · have : ¬ (r : Int) = (i : Int) := by omega
      simp [hi, gvK, e, this]
    · simp [hi]
theorem outs_set {base : List Int} {key : Nat → Int} {n p r : Nat} (e : ordK key n p = (r : Int)) : (nums .i64 (outK base key n p)).set r (.int .i64 (gi (outK base key n p) r + 1)) = nums .i64 (outK base key n (p + 1)) := by
  rw [outK, e, Int.toNat_natCast]
  simp [nums, List.map_set]

set_option maxHeartbeats 4000000 in
theorem c_sShareCents (A : Option Addr) (n cap : Nat) (zs : List Int) (c : Int) (w : World) (h : RdRow w A (nums .i64 zs)) (hl : zs.length = n) (hn : n ≤ 1048576) (hz : ∀ j, -9223372036854775808 ≤ gi zs j ∧ gi zs j ≤ 9223372036854775807) :
    Calls Tryz.prog 27 #[.int .i64 c, .slice A n cap] w fun e w' => ∃ v, e = .returned (.tuple #[v, .int .i64 (shareF c zs n).2]) ∧ w'.ownsRow w.heap.size 2 1 v (shareF c zs n).1.length (nums .i64 (shareF c zs n).1) ∧ Below w.heap.size w w' := by
  have H := Lib.hid h
  have HL := Lib.hid hl
  have HZ := Lib.hid hz
  have ho := World.ownsRow_made (base := w.heap.size) (e := 2) (size := 1) w #[] 0 (by simp) (by decide) rfl
  have HE := Lib.hid ho
  have HB0 : Hid (Below w.heap.size w (w.alloc (.cells #[] 2 (0, 0)))) := below_alloc (Below.refl _ _) _
  clear h hl hz ho
  go_enter Tryz.func27, Tryz.ntmps27
  go_wp2_with (go_at_call 50; ((with_reducible refine (c_l00In c 0 1000000 _).mono ?_); rintro e w1 ⟨rfl, rfl⟩))
  go_loopw [8, 7, 6] (fun i s f wr => ∃ (k : Nat) (z : Int) (b : Bool), k ≤ n ∧ i = .int .i64 k ∧ s = .int .i64 z ∧ f = .bool b ∧ w = wr ∧ Hid (b = (inB c 0 1000000 && allB k (fun j => inB (gi zs j) 0 5000))) ∧ Hid (b = true → z = sumZ zs k)) (fun i _ _ _ => n - (intOf i).toNat)
  case atStart => exact ⟨0, 0, inB c 0 1000000, by omega, rfl, rfl, rfl, rfl, by rw [Hid]; simp [allB], fun _ => rfl⟩
  case round =>
    obtain ⟨k, z, b, hk, rfl, rfl, rfl, rfl, HF, HS⟩ := hrel
    cases b with
    | true =>
      have hz := HS.out rfl
      have hf := HF.out.symm
      rw [Bool.and_eq_true] at hf
      have HC := Lib.hid hf.1
      have HA := Lib.hid hf.2
      have hg := fine_g (c := c) hf.2
      have hsm := sumZ_mono (n := k) hg k (Nat.le_refl _)
      have s0 := hsm.1
      have s1 := hsm.2.1
      clear hf hg hsm
      by_cases hlt : k < n
      · have d1 : decide ((k : Int) < (n : Int)) = true := by simp; omega
        obtain ⟨ad, rfl, c0⟩ := H.out k _ (nums_get (by rw [HL.out]; exact hlt))
        have k0 : (0 : Int) ≤ (k : Int) := by omega
        have k1 : (k : Int) < (n : Int) := by omega
        have hzk := HZ.out k
        have HSK := Lib.hid hz
        rw [← hz] at s0 s1
        clear hz
        cases hb : inB (gi zs k) 0 5000
        · have HB1 : Hid (false = (inB c 0 1000000 && allB (k + 1) (fun j => inB (gi zs j) 0 5000))) := by rw [Hid, allB, hb]; simp
          have CI := Lib.hid (fun w => hb ▸ c_l00In (gi zs k) 0 5000 w)
          clear hb
          go_wp2_with (go_at_call 50; ((with_reducible refine (CI.out _).mono ?_); rintro e w1 ⟨rfl, rfl⟩))
          go_roundw
          case rel => exact ⟨k + 1, _, false, by omega, by go_num, rfl, rfl, by first | rfl | trivial, HB1, fun h => by cases h⟩
          case measure => simp [intOf]; omega
        · have HB1 : Hid (true = (inB c 0 1000000 && allB (k + 1) (fun j => inB (gi zs j) 0 5000))) := by rw [Hid, allB, hb, HA.out, HC.out]; rfl
          have CI := Lib.hid (fun w => hb ▸ c_l00In (gi zs k) 0 5000 w)
          have hb2 : 0 ≤ gi zs k ∧ gi zs k ≤ 5000 := by simpa [inB] using hb
          obtain ⟨b0, b1⟩ := hb2
          clear hb
          go_wp2_with (go_at_call 50; ((with_reducible refine (CI.out _).mono ?_); rintro e w1 ⟨rfl, rfl⟩))
          go_roundw
          case rel => exact ⟨k + 1, _, true, by omega, by go_num, rfl, rfl, by first | rfl | trivial, HB1, fun h => by rw [HSK.out]; rfl⟩
          case measure => simp [intOf]; omega
      · obtain rfl : k = n := by omega
        have d1 : decide ((k : Int) < (k : Int)) = false := by simp
        have HFF : Hid (fineZ c zs k = true) := by rw [Hid, fineZ, HC.out, HA.out]; rfl
        subst hz
        by_cases h60 : 60 < k
        · have d2 : decide ((60 : Int) < (k : Int)) = true := by simp; omega
          have E := Lib.hid (shareF_long HFF.out h60)
          clear HS HF
          go_wp2
          go_ret2
          exact ⟨.slice (some ⟨w.heap.size, 0, none⟩) 0 0, by rw [E.out]; rfl, by rw [E.out]; exact HE.out, HB0.out⟩
        · have d2 : decide ((60 : Int) < (k : Int)) = false := by simp; omega
          by_cases hs0 : sumZ zs k = 0
          · have E := Lib.hid (shareF_none HFF.out h60 hs0)
            have d3 : (sumZ zs k == 0) = true := by rw [hs0]; rfl
            clear HS HF
            go_wp2
            go_ret2
            exact ⟨.slice (some ⟨w.heap.size, 0, none⟩) 0 0, by rw [E.out]; rfl, by rw [E.out]; exact HE.out, HB0.out⟩
          · have E := Lib.hid (shareF_some HFF.out h60 hs0)
            have d3 : (sumZ zs k == 0) = false := by simpa using hs0
            have OK := Lib.hid (shOk_of HFF.out h60 hs0)
            have p0 := OK.out.pos
            generalize hal : sumZ zs k = al at *
            have HAL := Lib.hid hal
            have a0 : ¬ al = 0 := hs0
            clear HS HF hal
            go_wp2
            go_loopw [11, 9, 10] (fun i v lf wr => ∃ j : Nat, j ≤ k ∧ i = .int .i64 j ∧ lf = .int .i64 (leftZ c al zs j) ∧ Hid (wr.ownsRow w.heap.size 2 1 v j (nums .i64 ((List.range j).map (quoZ c al zs)))) ∧ Hid (Below w.heap.size w wr)) (fun i _ _ _ => k - (intOf i).toNat)
            case atStart => exact ⟨0, by omega, rfl, rfl, HE, HB0⟩
            case round =>
              obtain ⟨j, hj, rfl, rfl, HO, HB⟩ := hrel
              by_cases hlt : j < k
              · have d4 : decide ((j : Int) < (k : Int)) = true := by simp; omega
                obtain ⟨ad, rfl, c0⟩ := (H.out.below HB.out) j _ (nums_get (by rw [HL.out]; exact hlt))
                have k0 : (0 : Int) ≤ (j : Int) := by omega
                have k1 : (j : Int) < (k : Int) := by omega
                have hzz := HB.out.size
                obtain ⟨m0, m1⟩ := OK.out.prod hlt
                obtain ⟨q0, q1⟩ := OK.out.quo hlt
                have cc1 := OK.out.c1
                obtain ⟨l0, l1⟩ := OK.out.left (k := j) (by omega)
                obtain ⟨l2, l3⟩ := OK.out.left (k := j + 1) (by omega)
                have HLE : Hid (leftZ c al zs (j + 1) = leftZ c al zs j - quoZ c al zs j) := rfl
                rw [HLE.out] at l2 l3
                have eq1 : (c * gi zs j).tdiv al = quoZ c al zs j := rfl
                have k2 : (j : Int) < (j : Int) + 1 := by omega
                go_wp2_with (at_builtin; refine ap1 rfl (.tmp 55) (.tmp 64) 50 2 rfl (.int .i64 0) 1 8 w.heap.size Tryz.underlying50 (by kernel_rfl) rfl (by decide) u9 j (nums .i64 ((List.range j).map (quoZ c al zs))) [.int .i64 (quoZ c al zs j)] rfl rfl (by simp) rfl rfl HO.out hzz (by omega) (by omega) ?_; intro g3 d3 w5 hown hg3 hat; have hB5 := Lib.hid (below_grown HB.out hg3 HO.out (Nat.le_refl _) hzz); have hO5 := Lib.hid hown; have cj := (own_get hown (j := j) (u := .int .i64 (quoZ c al zs j)) (by simp [nums])).1; clear hown hat hg3)
                go_roundw
                case rel => exact ⟨j + 1, by omega, by go_num, by rw [HLE.out], by rw [Hid, ← nums_rangeN]; exact hO5.out, hB5⟩
                case measure => simp [intOf]; omega
              · obtain rfl : j = k := by omega
                have d4 : decide ((j : Int) < (j : Int)) = false := by simp
                have hn60 : j ≤ 60 := OK.out.n60
                have hn0 : 0 < j := by
                  rcases Nat.eq_zero_or_pos j with e | e
                  · subst e; rw [← HAL.out] at p0; exact absurd p0 (by simp [sumZ])
                  · exact e
                obtain ⟨A9, c9, rfl, hA9⟩ := own_form HO.out
                obtain ⟨g9, rfl, hg9⟩ := hA9 hn0
                have hzw := HB.out.size
                have hg9u := own_lo HO.out (Nat.le_refl _) g9 rfl
                have hmk : ∀ w : World, (Instr.makeSlice 84 (.int .i64 (j : Int)) (.int .i64 (j : Int))).run Tryz.prog w = .ok (.slice (some ⟨w.heap.size, 0, none⟩) j j) (w.alloc (.cells (madeCells #[.bool false] (j * 1)) 4)) := fun w => by
                  have hinfo : (Tryz.prog.info? 4).map (fun i => (i.zero, i.size, i.bytes)) = some (some (.bool false), 1, 1) := by kernel_rfl
                  obtain ⟨i, hi, hzz⟩ := Option.map_eq_some_iff.1 hinfo
                  simp only [Prod.mk.injEq] at hzz
                  obtain ⟨hz, hs, hb⟩ := hzz
                  have := run_make (P := Tryz.prog) w 84 4 i _ Tryz.underlying84 hi hz .i64 .i64 (j : Int) (j : Int) (by omega) (Int.le_refl _) (by rw [hb]; omega) (by omega)
                  rw [hs, Int.toNat_natCast] at this
                  exact this
                rw [made_bools] at hmk
                have HG0 : Hid ((wr.alloc (.cells ((List.range j).map fun i => Value.bool (gvK (remZ c al zs) j 0 i)).toArray 4 (0, 0))).ownsRow w.heap.size 4 1 (.slice (some ⟨wr.heap.size, 0, none⟩) j j) j ((List.range j).map fun i => Value.bool (gvK (remZ c al zs) j 0 i))) := by
                  have := own_of_row (base := w.heap.size) (n := j) (size := 1) (heap_alloc_new wr (.cells ((List.range j).map fun i => Value.bool (gvK (remZ c al zs) j 0 i)).toArray 4 (0, 0))) (by simp) hzw (by omega)
                  simp only [List.toList_toArray] at this
                  exact this
                have HO1 : Hid ((wr.alloc (.cells ((List.range j).map fun i => Value.bool (gvK (remZ c al zs) j 0 i)).toArray 4 (0, 0))).ownsRow w.heap.size 2 1 (.slice (some ⟨g9, 0, none⟩) j c9) j (nums .i64 (outK (baseZ c al zs j) (remZ c al zs) j 0))) := HO.out.alloc _
                have HB1 : Hid (Below w.heap.size w (wr.alloc (.cells ((List.range j).map fun i => Value.bool (gvK (remZ c al zs) j 0 i)).toArray 4 (0, 0)))) := HB.out.alloc hzw _
                have hne : ¬ g9 = wr.heap.size := by omega
                have hgw : w.heap.size ≤ wr.heap.size := hzw
                obtain ⟨lN, hlN⟩ := Int.eq_ofNat_of_zero_le (OK.out.left (Nat.le_refl _)).1
                have hlj : lN ≤ j := by have := OK.out.left_lt; omega
                have HLN := Lib.hid hlN
                have hE0 : (fun i => Value.bool (gvK (remZ c al zs) j 0 i)) = fun _ => Value.bool false := rfl
                rw [hlN]
                clear HO HB hlN hA9 hzw
                rw [hE0] at HG0 HO1 HB1
                clear hE0
                go_wp2
                generalize wr.alloc (.cells ((List.range j).map fun _ => Value.bool false).toArray 4) = wb at *
                generalize wr.heap.size = gb at *
                go_loopw [10] (fun lf wr => ∃ p : Nat, p ≤ lN ∧ lf = .int .i64 ((lN : Int) - (p : Int)) ∧ Hid (wr.ownsRow w.heap.size 2 1 (.slice (some ⟨g9, 0, none⟩) j c9) j (nums .i64 (outK (baseZ c al zs j) (remZ c al zs) j p))) ∧ Hid (wr.ownsRow w.heap.size 4 1 (.slice (some ⟨gb, 0, none⟩) j j) j ((List.range j).map fun i => Value.bool (gvK (remZ c al zs) j p i))) ∧ Hid (Below w.heap.size w wr)) (fun lf _ => (intOf lf).toNat)
                case atStart => exact ⟨0, by omega, by simp, HO1, HG0, HB1⟩
                case round =>
                  clear HO1 HG0 HB1
                  obtain ⟨p, hp, rfl, HO, HG, HB⟩ := hrel
                  by_cases hpl : p < lN
                  · have d5 : decide (0 < (lN : Int) - (p : Int)) = true := by simp; omega
                    have hpj : p < j := by omega
                    obtain ⟨r, hr, hrj⟩ := ordK_bd (remZ c al zs) hpj
                    have HR := Lib.hid hr
                    have HGV := Lib.hid (fun (w' : World) (ho : w'.ownsRow w.heap.size 4 1 (.slice (some ⟨gb, 0, none⟩) j j) j ((List.range j).map fun i => Value.bool (gvK (remZ c al zs) j p i))) i (hi : i < j) => own_get ho (marked_get (fun i => Value.bool (gvK (remZ c al zs) j p i)) hi))
                    have HRR := Lib.hid hr
                    clear hr
                    go_wp2
                    go_loopw [14, 13] (fun iv bv wr2 => ∃ m q : Nat, m ≤ j ∧ iv = .int .i64 m ∧ bv = .int .i64 (selB (remZ c al zs) (gvK (remZ c al zs) j p) m) ∧ wr2 = wr.drewN q) (fun i _ _ => j - (intOf i).toNat)
                    case atStart => exact ⟨0, 0, by omega, rfl, rfl, rfl⟩
                    case round =>
                      obtain ⟨m, q, hm, rfl, rfl, rfl⟩ := hrel
                      by_cases hmj : m < j
                      · have d6 : decide ((m : Int) < (j : Int)) = true := by simp; omega
                        have k0 : (0 : Int) ≤ (m : Int) := by omega
                        have k1 : (m : Int) < (j : Int) := by omega
                        have cg := (HGV.out wr HG.out m hmj).1
                        cases hg : gvK (remZ c al zs) j p m
                        · rw [hg] at cg
                          obtain ⟨ad, rfl, c0⟩ := (H.out.below HB.out) m _ (nums_get (by rw [HL.out]; exact hmj))
                          rcases selB_ok (remZ c al zs) (gvK (remZ c al zs) j p) m with ⟨e, -⟩ | ⟨s, e, hs, hgs, -⟩
                          · have e1 : selB (remZ c al zs) (gvK (remZ c al zs) j p) (m + 1) = (m : Int) := by rw [selB, if_pos ⟨hg, .inl (by omega)⟩]
                            have E1 := Lib.hid e1
                            rw [e]
                            clear e e1 hg
                            have d7 : decide ((-1 : Int) < 0) = true := rfl
                            go_wp2
                            go_quiet (fail)
                            go_wp2
                            go_roundw
                            case rel => exact ⟨m + 1, _, by omega, by go_num, by rw [E1.out], rfl⟩
                            case measure => simp [intOf]; omega
                          · have d7 : decide ((s : Int) < 0) = false := by simp
                            have d8 : ¬ (s : Int) < 0 := by omega
                            have hsj : s < j := by omega
                            obtain ⟨ad2, had2, c1⟩ := (H.out.below HB.out) s _ (nums_get (by rw [HL.out]; exact hsj))
                            cases had2
                            have k2 : (0 : Int) ≤ (s : Int) := by omega
                            have k3 : (s : Int) < (j : Int) := by omega
                            obtain ⟨m0, m1⟩ := OK.out.prod hmj
                            obtain ⟨n0, n1⟩ := OK.out.prod hsj
                            have r1 : (c * gi zs m).tmod al = remZ c al zs m := rfl
                            have r2 : (c * gi zs s).tmod al = remZ c al zs s := rfl
                            cases hlt : decide (remZ c al zs s < remZ c al zs m)
                            · have e1 : selB (remZ c al zs) (gvK (remZ c al zs) j p) (m + 1) = (s : Int) := by
                                rw [selB, if_neg, e]
                                rintro ⟨_, h2 | h2⟩
                                · omega
                                · rw [e, Int.toNat_natCast] at h2; rw [decide_eq_false_iff_not] at hlt; exact hlt h2
                              have E1 := Lib.hid e1
                              rw [e]
                              clear e e1 hg hgs
                              go_wp2
                              go_quiet (fail)
                              go_wp2
                              go_roundw
                              case rel => exact ⟨m + 1, _, by omega, by go_num, by rw [E1.out], rfl⟩
                              case measure => simp [intOf]; omega
                            · have e1 : selB (remZ c al zs) (gvK (remZ c al zs) j p) (m + 1) = (m : Int) := by
                                rw [selB, if_pos ⟨hg, .inr (by rw [e, Int.toNat_natCast]; exact of_decide_eq_true hlt)⟩]
                              have E1 := Lib.hid e1
                              rw [e]
                              clear e e1 hg hgs
                              go_wp2
                              go_quiet (fail)
                              go_wp2
                              go_roundw
                              case rel => exact ⟨m + 1, _, by omega, by go_num, by rw [E1.out], rfl⟩
                              case measure => simp [intOf]; omega
                        · rw [hg] at cg
                          have e1 : selB (remZ c al zs) (gvK (remZ c al zs) j p) (m + 1) = selB (remZ c al zs) (gvK (remZ c al zs) j p) m := by rw [selB, if_neg (by rw [hg]; simp)]
                          have E1 := Lib.hid e1
                          clear e1 hg
                          go_wp2
                          go_quiet (fail)
                          go_wp2
                          go_roundw
                          case rel => exact ⟨m + 1, _, by omega, by go_num, by rw [E1.out], rfl⟩
                          case measure => simp [intOf]; omega
                      · obtain rfl : m = j := by omega
                        have d6 : decide ((m : Int) < (m : Int)) = false := by simp
                        have hrr := HRR.out
                        unfold ordK at hrr
                        rw [hrr]
                        clear hrr
                        have HGd := Lib.hid (own_drewN HG.out q)
                        have HOd := Lib.hid (own_drewN HO.out q)
                        have HBd := Lib.hid (below_drewN HB.out q)
                        clear HG HO HB
                        generalize wr.drewN q = wd at *
                        have k0 : (0 : Int) ≤ (r : Int) := by omega
                        have k1 : (r : Int) < (m : Int) := by omega
                        obtain ⟨cg, fg⟩ := own_get HGd.out (marked_get (fun i => Value.bool (gvK (remZ c al zs) m p i)) hrj)
                        have hlen : (outK (baseZ c al zs m) (remZ c al zs) m p).length = m := by rw [outK_len, base_len]
                        obtain ⟨co, fo⟩ := own_get HOd.out (nums_get (by rw [hlen]; exact hrj))
                        obtain ⟨o0, o1⟩ := outK_bd (key := remZ c al zs) (base_bd OK.out) (base_len c al zs m) p (by omega) r hrj
                        have hne2 : ¬ gb = g9 := fun e => hne e.symm
                        clear HRR
                        go_wp2
                        go_roundw
                        case rel =>
                          refine ⟨p + 1, by omega, by go_num, ?_, ?_, ?_⟩
                          · have := own_set (own_touV HOd.out (TouV.setCell (TouV.refl (.slice (some ⟨gb, 0, none⟩) m m) wd) rfl r (.bool true)) (.inr (by simp only [Value.ownBlock, ne_eq, Option.some.injEq]; exact hne))) r (by omega) (.int .i64 (gi (outK (baseZ c al zs m) (remZ c al zs) m p) r + 1))
                            rw [outs_set HR.out] at this
                            exact this
                          · have := own_touV (own_set HGd.out r (by omega) (.bool true)) (TouV.setCell (TouV.refl (.slice (some ⟨g9, 0, none⟩) m c9) _) rfl r (.int .i64 (gi (outK (baseZ c al zs m) (remZ c al zs) m p) r + 1))) (.inr (by simp only [Value.ownBlock, ne_eq, Option.some.injEq]; exact hne2))
                            rw [marks_set hrj HR.out] at this
                            exact this
                          · exact (HBd.out.setCell (by omega) _).setCell (by omega) _
                        case measure => simp [intOf]; omega
                  · obtain rfl : p = lN := by omega
                    have d5 : decide (0 < (p : Int) - (p : Int)) = false := by simp
                    go_wp2
                    go_ret2
                    refine ⟨.slice (some ⟨g9, 0, none⟩) j c9, ?_, ?_, HB.out⟩
                    · rw [E.out]; rfl
                    · have := HO.out
                      rw [E.out, HLN.out, outK_len, base_len]
                      exact this
    | false =>
      have HFF : Hid (fineZ c zs n = false) := by
        have hf := HF.out.symm
        rw [Hid, fineZ, Bool.eq_false_iff]
        intro hc
        rw [Bool.and_eq_true] at hc
        rw [hc.1, allB_le hc.2 hk] at hf
        cases hf
      have E := Lib.hid (shareF_bad HFF.out)
      clear HF HS HFF
      by_cases hlt : k < n
      · have d1 : decide ((k : Int) < (n : Int)) = true := by simp; omega
        go_wp2
        go_ret2
        exact ⟨.slice (some ⟨w.heap.size, 0, none⟩) 0 0, by rw [E.out]; rfl, by rw [E.out]; exact HE.out, HB0.out⟩
      · have d1 : decide ((k : Int) < (n : Int)) = false := by simp; omega
        go_wp2
        go_ret2
        exact ⟨.slice (some ⟨w.heap.size, 0, none⟩) 0 0, by rw [E.out]; rfl, by rw [E.out]; exact HE.out, HB0.out⟩
end Go.Proofs.YtjhifpidbobmaaaGreatDoor
