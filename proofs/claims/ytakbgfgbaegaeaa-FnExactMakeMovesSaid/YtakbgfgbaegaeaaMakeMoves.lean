/- The places behind all moves. -/
import Derived.Test.YtakbgfgbaegaeaaLatPlaces
import Derived.Test.YtakbgfgbaegaeaaLatLaw
namespace Go.Proofs.Ytakbgfgbaegaeaa
open Go.RowKit
set_option linter.unusedVariables false
set_option linter.unusedSimpArgs false
set_option maxRecDepth 100000

def makeP (p0 : List Int) (n : Nat) (s t g : Nat → Int) : List Int := if okAll p0 n s t g = true ∧ goodN p0 s t g n = n then atN p0 s t g n else [0, 0, 0, 0, 0]
theorem makeP_len {p0 : List Int} (h : p0.length = 5) (n : Nat) (s t g : Nat → Int) : (makeP p0 n s t g).length = 5 := by
  unfold makeP
  split
  · exact atN_len h s t g n
  · rfl
theorem five_one {k : IntKind} {x0 x1 x2 x3 x4 : Int} : (#[Value.int k x0, .int k x1, .int k x2, .int k x3, .int k x4].all (·.oneCell')) = true := by simp [Value.oneCell']
theorem info_five (x0 x1 x2 x3 x4 : Int) : (Try.prog.info? 32).map (·.size) = some #[Value.int .i32 x0, .int .i32 x1, .int .i32 x2, .int .i32 x3, .int .i32 x4].size := by
  have e : (Try.prog.info? 32).map (·.size) = some 5 := by kernel_rfl
  rw [e]; rfl
theorem nums_five {k : IntKind} {l : List Int} (h : l.length = 5) : (nums k l).toArray = #[.int k (gi l 0), .int k (gi l 1), .int k (gi l 2), .int k (gi l 3), .int k (gi l 4)] := by
  match l, h with
  | [a, b, c, d, e], _ => rfl

section
variable (p0 : List Int) (A : Option Addr) (n c : Nat) (s t g : Nat → Int) (w : World)
set_option maxHeartbeats 2000000 in
theorem c_sMakeMoves (hl : p0.length = 5) (hbd : ∀ j, -2147483648 ≤ gi p0 j ∧ gi p0 j ≤ 2147483647) (h : MovesAt w A n s t g) (hn : n ≤ 1048576) (hg : ∀ j, j < n → (-32768 ≤ g j ∧ g j ≤ 32767) ∧ (-128 ≤ s j ∧ s j ≤ 127) ∧ (-128 ≤ t j ∧ t j ≤ 127)) :
    Calls Try.prog 12 #[.agg (nums .i32 p0).toArray, .slice A n c] w fun e w' => e = .returned (.tuple #[.agg (nums .i32 (makeP p0 n s t g)).toArray, .int .i64 (placesF p0 n s t g).2]) ∧ Below w.heap.size w w' := by
  have HA := Lib.hid (blk_alloc (heap_alloc_new w (.cells (nums .i32 p0).toArray 32 (0, 0))) (.cells #[.int .i32 0, .int .i32 0, .int .i32 0, .int .i32 0, .int .i32 0] 32 (0, 0)))
  have hr := heap_alloc_new (w.alloc (.cells (nums .i32 p0).toArray 32 (0, 0))) (.cells #[.int .i32 0, .int .i32 0, .int .i32 0, .int .i32 0, .int .i32 0] 32 (0, 0))
  rw [World.size_alloc] at hr
  have HR := Lib.hid hr
  have HB0 : Hid (Below w.heap.size w ((w.alloc (.cells (nums .i32 p0).toArray 32 (0, 0))).alloc (.cells #[.int .i32 0, .int .i32 0, .int .i32 0, .int .i32 0, .int .i32 0] 32 (0, 0)))) := below_alloc (below_alloc (Below.refl _ _) _) _
  have HM := Lib.hid (h.below HB0.out)
  have HI0 := Lib.hid (places_info hl)
  have HIZ := Lib.hid (places_info (p := [0, 0, 0, 0, 0]) rfl)
  have HLn := Lib.hid (atN_len hl s t g)
  have cp := fun w h => c_sPlacesAt p0 A n c s t g w hl hbd h hn hg
  by_cases hc : okAll p0 n s t g = true ∧ goodN p0 s t g n = n
  · have EF : placesF p0 n s t g = (n, 0) := by rw [placesF, if_pos hc.1, if_pos hc.2]
    have EP : Hid (placesF p0 n s t g = (n, 0)) := EF
    have E : Hid (makeP p0 n s t g = atN p0 s t g n) := by rw [Hid, makeP, if_pos hc]
    rw [EF] at cp
    have CP := fun w h => Lib.hid (cp w h)
    clear cp h hbd hg hc EF hr
    by_cases h0 : n = 0
    · subst h0
      have E0 : Hid (atN p0 s t g 0 = p0) := rfl
      go_enter Try.func12, Try.ntmps12
      go_wp2_with (first
        | (refine wpList_load_row rfl 32 (.tmp 2) rfl (w.heap.size) rfl 32 (nums .i32 p0).toArray (0, 0) _ ?_ Try.underlying32 rfl HI0.out ?_; (with_reducible exact HA.out))
        | (go_at_call 20; ((with_reducible refine (CP _ HM.out).out.mono ?_); rintro e w1 ⟨v, rfl, hO, hb⟩; obtain ⟨A1, c2, rfl, hA1⟩ := own_form hO; have HA := Lib.hid (blk_below HA.out hb); have HR := Lib.hid (blk_below HR.out hb); have HO := Lib.hid hO; have HB1 := Lib.hid (below_then HB0.out hb); clear hO))
        | (refine ev_store_row rfl 32 (.tmp 4) (.tmp 21) rfl (w.heap.size + 1) (nums .i32 p0).toArray rfl rfl 32 #[.int .i32 0, .int .i32 0, .int .i32 0, .int .i32 0, .int .i32 0] ?_ HI0.out (by simp [nums, hl]) (nums_one _ _) ?_; (with_reducible exact HR.out); intro w3 hblk ht; have hR3 := Lib.hid hblk; clear hblk))
      refine bodyPost_ret (v := .tuple #[.agg (nums .i32 p0).toArray, .int .i64 0]) (results_ct rfl _ _ (w.heap.size + 1) 32 (nums .i32 p0).toArray (0, 0) _ rfl (by with_reducible exact hR3.out) Try.underlying32 rfl HI0.out rfl) rfl ⟨by rw [E.out, EP.out, E0.out], HB1.out.trans (ht.below (by omega))⟩
    · obtain ⟨m, rfl⟩ : ∃ m, n = m + 1 := ⟨n - 1, by omega⟩
      have dz : (((m + 1 : Nat) : Int) == 0) = false := by simp; omega
      have em : ((m + 1 : Nat) : Int) - 1 = (m : Int) := by omega
      have m0 : (0 : Int) ≤ (m : Int) := by omega
      have m1 : (m : Int) < ((m + 1 : Nat) : Int) := by omega
      have E5 : Hid ((nums .i32 (atN p0 s t g (m + 1))).toArray = #[.int .i32 (gi (atN p0 s t g (m + 1)) 0), .int .i32 (gi (atN p0 s t g (m + 1)) 1), .int .i32 (gi (atN p0 s t g (m + 1)) 2), .int .i32 (gi (atN p0 s t g (m + 1)) 3), .int .i32 (gi (atN p0 s t g (m + 1)) 4)]) := nums_five (HLn.out (m + 1))
      have HI5 : Hid ((Try.prog.info? 32).map (·.size) = some #[Value.int .i32 (gi (atN p0 s t g (m + 1)) 0), .int .i32 (gi (atN p0 s t g (m + 1)) 1), .int .i32 (gi (atN p0 s t g (m + 1)) 2), .int .i32 (gi (atN p0 s t g (m + 1)) 3), .int .i32 (gi (atN p0 s t g (m + 1)) 4)].size) := info_five _ _ _ _ _
      have HPl := Lib.hid (fun k (_ : k < m + 1) => HLn.out (k + 1))
      go_enter Try.func12, Try.ntmps12
      go_wp2_with (first
        | (refine wpList_load_row rfl 32 (.tmp 2) rfl (w.heap.size) rfl 32 (nums .i32 p0).toArray (0, 0) _ ?_ Try.underlying32 rfl HI0.out ?_; (with_reducible exact HA.out))
        | (go_at_call 20; ((with_reducible refine (CP _ HM.out).out.mono ?_); rintro e w1 ⟨v, rfl, hO, hb⟩; obtain ⟨A1, c2, rfl, hA1⟩ := own_form hO; obtain ⟨gg, rfl, hgg⟩ := hA1 (Nat.succ_pos m); have HA := Lib.hid (blk_below HA.out hb); have HR := Lib.hid (blk_below HR.out hb); have HB1 := Lib.hid (below_then HB0.out hb); have x0 := (own_get hO (rows5_get0 HPl.out (Nat.lt_succ_self m))).1; have x1 := (own_get hO (rows5_get HPl.out (Nat.lt_succ_self m) (show 1 < 5 by decide))).1; have x2 := (own_get hO (rows5_get HPl.out (Nat.lt_succ_self m) (show 2 < 5 by decide))).1; have x3 := (own_get hO (rows5_get HPl.out (Nat.lt_succ_self m) (show 3 < 5 by decide))).1; have x4 := (own_get hO (rows5_get HPl.out (Nat.lt_succ_self m) (show 4 < 5 by decide))).1; clear hO))
        | (refine ev_store_row rfl 32 (.tmp 4) (.tmp 27) rfl (w.heap.size + 1) #[.int .i32 (gi (atN p0 s t g (m + 1)) 0), .int .i32 (gi (atN p0 s t g (m + 1)) 1), .int .i32 (gi (atN p0 s t g (m + 1)) 2), .int .i32 (gi (atN p0 s t g (m + 1)) 3), .int .i32 (gi (atN p0 s t g (m + 1)) 4)] rfl rfl 32 #[.int .i32 0, .int .i32 0, .int .i32 0, .int .i32 0, .int .i32 0] ?_ HI5.out (Eq.refl (5 : Nat)) five_one ?_; (with_reducible exact HR.out); intro w3 hblk ht; have hR3 := Lib.hid hblk; clear hblk))
      refine bodyPost_ret (v := .tuple #[.agg #[.int .i32 (gi (atN p0 s t g (m + 1)) 0), .int .i32 (gi (atN p0 s t g (m + 1)) 1), .int .i32 (gi (atN p0 s t g (m + 1)) 2), .int .i32 (gi (atN p0 s t g (m + 1)) 3), .int .i32 (gi (atN p0 s t g (m + 1)) 4)], .int .i64 0]) (results_ct rfl _ _ (w.heap.size + 1) 32 #[.int .i32 (gi (atN p0 s t g (m + 1)) 0), .int .i32 (gi (atN p0 s t g (m + 1)) 1), .int .i32 (gi (atN p0 s t g (m + 1)) 2), .int .i32 (gi (atN p0 s t g (m + 1)) 3), .int .i32 (gi (atN p0 s t g (m + 1)) 4)] (0, 0) _ rfl (by with_reducible exact hR3.out) Try.underlying32 rfl HI5.out rfl) rfl ⟨by rw [E.out, EP.out, E5.out], HB1.out.trans (ht.below (by omega))⟩
  · have E : Hid (makeP p0 n s t g = [0, 0, 0, 0, 0]) := by rw [Hid, makeP, if_neg hc]
    have EF : (placesF p0 n s t g).2 = 1 ∨ (placesF p0 n s t g).2 = 4 := by
      unfold placesF
      split
      · rename_i h1; rw [if_neg (fun h2 => hc ⟨h1, h2⟩)]; exact .inr rfl
      · exact .inl rfl
    have dz : ((placesF p0 n s t g).2 != 0) = true := by rcases EF with e | e <;> rw [e] <;> rfl
    have dz2 : ¬ (placesF p0 n s t g).2 = 0 := by rcases EF with e | e <;> omega
    have CP := fun w h => Lib.hid (cp w h)
    clear cp h hbd hg hc EF hr
    go_enter Try.func12, Try.ntmps12
    go_wp2_with (first
      | (refine wpList_load_row rfl 32 (.tmp 2) rfl (w.heap.size) rfl 32 (nums .i32 p0).toArray (0, 0) _ ?_ Try.underlying32 rfl HI0.out ?_; (with_reducible exact HA.out))
      | (go_at_call 20; ((with_reducible refine (CP _ HM.out).out.mono ?_); rintro e w1 ⟨v, rfl, hO, hb⟩; obtain ⟨A1, c2, rfl, hA1⟩ := own_form hO; have HA := Lib.hid (blk_below HA.out hb); have HR := Lib.hid (blk_below HR.out hb); have HO := Lib.hid hO; have HB1 := Lib.hid (below_then HB0.out hb); clear hO))
      | (refine ev_store_row rfl 32 (.tmp 4) (.tmp 16) rfl (w.heap.size + 1) (nums .i32 [0, 0, 0, 0, 0]).toArray rfl rfl 32 #[.int .i32 0, .int .i32 0, .int .i32 0, .int .i32 0, .int .i32 0] ?_ HIZ.out (Eq.refl (5 : Nat)) (nums_one _ _) ?_; (with_reducible exact HR.out); intro w3 hblk ht; have hR3 := Lib.hid hblk; clear hblk))
    refine bodyPost_ret (v := .tuple #[.agg (nums .i32 [0, 0, 0, 0, 0]).toArray, .int .i64 (placesF p0 n s t g).2]) (results_ct rfl _ _ (w.heap.size + 1) 32 (nums .i32 [0, 0, 0, 0, 0]).toArray (0, 0) _ rfl (by with_reducible exact hR3.out) Try.underlying32 rfl HIZ.out rfl) rfl ⟨by rw [E.out], HB1.out.trans (ht.below (by omega))⟩
set_option maxHeartbeats 2000000 in
theorem c_iMakeMoves (hl : p0.length = 5) (hbd : ∀ j, -2147483648 ≤ gi p0 j ∧ gi p0 j ≤ 2147483647) (h : MovesAt w A n s t g) (hn : n ≤ 1048576) (hg : ∀ j, j < n → (-32768 ≤ g j ∧ g j ≤ 32767) ∧ (-128 ≤ s j ∧ s j ≤ 127) ∧ (-128 ≤ t j ∧ t j ≤ 127)) :
    Calls Try.prog 14 #[.agg (nums .i32 p0).toArray, .slice A n c] w fun e w' => e = .returned (.tuple #[.agg (nums .i32 (makeP p0 n s t g)).toArray, .int .i64 (placesF p0 n s t g).2]) ∧ Below w.heap.size w w' := by
  have HA := Lib.hid (blk_alloc (heap_alloc_new w (.cells (nums .i32 p0).toArray 32 (0, 0))) (.cells #[.int .i32 0, .int .i32 0, .int .i32 0, .int .i32 0, .int .i32 0] 32 (0, 0)))
  have hr := heap_alloc_new (w.alloc (.cells (nums .i32 p0).toArray 32 (0, 0))) (.cells #[.int .i32 0, .int .i32 0, .int .i32 0, .int .i32 0, .int .i32 0] 32 (0, 0))
  rw [World.size_alloc] at hr
  have HR := Lib.hid hr
  have HB0 : Hid (Below w.heap.size w ((w.alloc (.cells (nums .i32 p0).toArray 32 (0, 0))).alloc (.cells #[.int .i32 0, .int .i32 0, .int .i32 0, .int .i32 0, .int .i32 0] 32 (0, 0)))) := below_alloc (below_alloc (Below.refl _ _) _) _
  have HM := Lib.hid (h.below HB0.out)
  have HI0 := Lib.hid (places_info hl)
  have HIZ := Lib.hid (places_info (p := [0, 0, 0, 0, 0]) rfl)
  have HLn := Lib.hid (atN_len hl s t g)
  have cp := fun w h => c_iPlacesAt p0 A n c s t g w hl hbd h hn hg
  by_cases hc : okAll p0 n s t g = true ∧ goodN p0 s t g n = n
  · have EF : placesF p0 n s t g = (n, 0) := by rw [placesF, if_pos hc.1, if_pos hc.2]
    have EP : Hid (placesF p0 n s t g = (n, 0)) := EF
    have E : Hid (makeP p0 n s t g = atN p0 s t g n) := by rw [Hid, makeP, if_pos hc]
    rw [EF] at cp
    have CP := fun w h => Lib.hid (cp w h)
    clear cp h hbd hg hc EF hr
    by_cases h0 : n = 0
    · subst h0
      have E0 : Hid (atN p0 s t g 0 = p0) := rfl
      go_enter Try.func14, Try.ntmps14
      go_wp2_with (first
        | (refine wpList_load_row rfl 32 (.tmp 2) rfl (w.heap.size) rfl 32 (nums .i32 p0).toArray (0, 0) _ ?_ Try.underlying32 rfl HI0.out ?_; (with_reducible exact HA.out))
        | (go_at_call 21; ((with_reducible refine (CP _ HM.out).out.mono ?_); rintro e w1 ⟨v, rfl, hO, hb⟩; obtain ⟨A1, c2, rfl, hA1⟩ := own_form hO; have HA := Lib.hid (blk_below HA.out hb); have HR := Lib.hid (blk_below HR.out hb); have HO := Lib.hid hO; have HB1 := Lib.hid (below_then HB0.out hb); clear hO))
        | (refine ev_store_row rfl 32 (.tmp 4) (.tmp 23) rfl (w.heap.size + 1) (nums .i32 p0).toArray rfl rfl 32 #[.int .i32 0, .int .i32 0, .int .i32 0, .int .i32 0, .int .i32 0] ?_ HI0.out (by simp [nums, hl]) (nums_one _ _) ?_; (with_reducible exact HR.out); intro w3 hblk ht; have hR3 := Lib.hid hblk; clear hblk))
      refine bodyPost_ret (v := .tuple #[.agg (nums .i32 p0).toArray, .int .i64 0]) (results_ct rfl _ _ (w.heap.size + 1) 32 (nums .i32 p0).toArray (0, 0) _ rfl (by with_reducible exact hR3.out) Try.underlying32 rfl HI0.out rfl) rfl ⟨by rw [E.out, EP.out, E0.out], HB1.out.trans (ht.below (by omega))⟩
    · obtain ⟨m, rfl⟩ : ∃ m, n = m + 1 := ⟨n - 1, by omega⟩
      have dz : (((m + 1 : Nat) : Int) == 0) = false := by simp; omega
      have em : ((m + 1 : Nat) : Int) - 1 = (m : Int) := by omega
      have m0 : (0 : Int) ≤ (m : Int) := by omega
      have m1 : (m : Int) < ((m + 1 : Nat) : Int) := by omega
      have E5 : Hid ((nums .i32 (atN p0 s t g (m + 1))).toArray = #[.int .i32 (gi (atN p0 s t g (m + 1)) 0), .int .i32 (gi (atN p0 s t g (m + 1)) 1), .int .i32 (gi (atN p0 s t g (m + 1)) 2), .int .i32 (gi (atN p0 s t g (m + 1)) 3), .int .i32 (gi (atN p0 s t g (m + 1)) 4)]) := nums_five (HLn.out (m + 1))
      have HI5 : Hid ((Try.prog.info? 32).map (·.size) = some #[Value.int .i32 (gi (atN p0 s t g (m + 1)) 0), .int .i32 (gi (atN p0 s t g (m + 1)) 1), .int .i32 (gi (atN p0 s t g (m + 1)) 2), .int .i32 (gi (atN p0 s t g (m + 1)) 3), .int .i32 (gi (atN p0 s t g (m + 1)) 4)].size) := info_five _ _ _ _ _
      have HPl := Lib.hid (fun k (_ : k < m + 1) => HLn.out (k + 1))
      go_enter Try.func14, Try.ntmps14
      go_wp2_with (first
        | (refine wpList_load_row rfl 32 (.tmp 2) rfl (w.heap.size) rfl 32 (nums .i32 p0).toArray (0, 0) _ ?_ Try.underlying32 rfl HI0.out ?_; (with_reducible exact HA.out))
        | (go_at_call 21; ((with_reducible refine (CP _ HM.out).out.mono ?_); rintro e w1 ⟨v, rfl, hO, hb⟩; obtain ⟨A1, c2, rfl, hA1⟩ := own_form hO; obtain ⟨gg, rfl, hgg⟩ := hA1 (Nat.succ_pos m); have HA := Lib.hid (blk_below HA.out hb); have HR := Lib.hid (blk_below HR.out hb); have HB1 := Lib.hid (below_then HB0.out hb); have x0 := (own_get hO (rows5_get0 HPl.out (Nat.lt_succ_self m))).1; have x1 := (own_get hO (rows5_get HPl.out (Nat.lt_succ_self m) (show 1 < 5 by decide))).1; have x2 := (own_get hO (rows5_get HPl.out (Nat.lt_succ_self m) (show 2 < 5 by decide))).1; have x3 := (own_get hO (rows5_get HPl.out (Nat.lt_succ_self m) (show 3 < 5 by decide))).1; have x4 := (own_get hO (rows5_get HPl.out (Nat.lt_succ_self m) (show 4 < 5 by decide))).1; clear hO))
        | (refine ev_store_row rfl 32 (.tmp 4) (.tmp 29) rfl (w.heap.size + 1) #[.int .i32 (gi (atN p0 s t g (m + 1)) 0), .int .i32 (gi (atN p0 s t g (m + 1)) 1), .int .i32 (gi (atN p0 s t g (m + 1)) 2), .int .i32 (gi (atN p0 s t g (m + 1)) 3), .int .i32 (gi (atN p0 s t g (m + 1)) 4)] rfl rfl 32 #[.int .i32 0, .int .i32 0, .int .i32 0, .int .i32 0, .int .i32 0] ?_ HI5.out (Eq.refl (5 : Nat)) five_one ?_; (with_reducible exact HR.out); intro w3 hblk ht; have hR3 := Lib.hid hblk; clear hblk))
      refine bodyPost_ret (v := .tuple #[.agg #[.int .i32 (gi (atN p0 s t g (m + 1)) 0), .int .i32 (gi (atN p0 s t g (m + 1)) 1), .int .i32 (gi (atN p0 s t g (m + 1)) 2), .int .i32 (gi (atN p0 s t g (m + 1)) 3), .int .i32 (gi (atN p0 s t g (m + 1)) 4)], .int .i64 0]) (results_ct rfl _ _ (w.heap.size + 1) 32 #[.int .i32 (gi (atN p0 s t g (m + 1)) 0), .int .i32 (gi (atN p0 s t g (m + 1)) 1), .int .i32 (gi (atN p0 s t g (m + 1)) 2), .int .i32 (gi (atN p0 s t g (m + 1)) 3), .int .i32 (gi (atN p0 s t g (m + 1)) 4)] (0, 0) _ rfl (by with_reducible exact hR3.out) Try.underlying32 rfl HI5.out rfl) rfl ⟨by rw [E.out, EP.out, E5.out], HB1.out.trans (ht.below (by omega))⟩
  · have E : Hid (makeP p0 n s t g = [0, 0, 0, 0, 0]) := by rw [Hid, makeP, if_neg hc]
    have EF : (placesF p0 n s t g).2 = 1 ∨ (placesF p0 n s t g).2 = 4 := by
      unfold placesF
      split
      · rename_i h1; rw [if_neg (fun h2 => hc ⟨h1, h2⟩)]; exact .inr rfl
      · exact .inl rfl
    have dz : ((placesF p0 n s t g).2 != 0) = true := by rcases EF with e | e <;> rw [e] <;> rfl
    have dz2 : ¬ (placesF p0 n s t g).2 = 0 := by rcases EF with e | e <;> omega
    have CP := fun w h => Lib.hid (cp w h)
    clear cp h hbd hg hc EF hr
    go_enter Try.func14, Try.ntmps14
    go_wp2_with (first
      | (refine wpList_load_row rfl 32 (.tmp 2) rfl (w.heap.size) rfl 32 (nums .i32 p0).toArray (0, 0) _ ?_ Try.underlying32 rfl HI0.out ?_; (with_reducible exact HA.out))
      | (go_at_call 21; ((with_reducible refine (CP _ HM.out).out.mono ?_); rintro e w1 ⟨v, rfl, hO, hb⟩; obtain ⟨A1, c2, rfl, hA1⟩ := own_form hO; have HA := Lib.hid (blk_below HA.out hb); have HR := Lib.hid (blk_below HR.out hb); have HO := Lib.hid hO; have HB1 := Lib.hid (below_then HB0.out hb); clear hO))
      | (refine ev_store_row rfl 32 (.tmp 4) (.tmp 17) rfl (w.heap.size + 1) (nums .i32 [0, 0, 0, 0, 0]).toArray rfl rfl 32 #[.int .i32 0, .int .i32 0, .int .i32 0, .int .i32 0, .int .i32 0] ?_ HIZ.out (Eq.refl (5 : Nat)) (nums_one _ _) ?_; (with_reducible exact HR.out); intro w3 hblk ht; have hR3 := Lib.hid hblk; clear hblk))
    refine bodyPost_ret (v := .tuple #[.agg (nums .i32 [0, 0, 0, 0, 0]).toArray, .int .i64 (placesF p0 n s t g).2]) (results_ct rfl _ _ (w.heap.size + 1) 32 (nums .i32 [0, 0, 0, 0, 0]).toArray (0, 0) _ rfl (by with_reducible exact hR3.out) Try.underlying32 rfl HIZ.out rfl) rfl ⟨by rw [E.out], HB1.out.trans (ht.below (by omega))⟩
end
set_option maxHeartbeats 800000 in
theorem walk_FnExactMakeMoves (W : World) (a0 : List Int) (l0 : a0.length = 5) (w0 : ∀ z ∈ a0, (Lit.int .i32 z).wf = true) (A0 : Option Addr) (cap0 : Nat) (es0 : List (List Value)) (w1 : ∀ c ∈ es0, IntCells [.i8, .i8, .i16] c) (r0 : RdRow W A0 es0.flatten) (s0 : es0.length * 4 ≤ 140737488351232) (m0 : es0.length ≤ maxLen) :
    Calls Try.prog 4 #[.agg (nums .i32 a0).toArray, .slice A0 es0.length cap0] W fun e w' => e = .returned (.bool true) ∧ Below W.heap.size W w' := by
  obtain ⟨zs, rfl, hz⟩ := moves_of (W := W) (A := A0) w1
  have hL := movesAt_of r0
  have hg : ∀ j, j < zs.length → (-32768 ≤ (zs.getD j (0, 0, 0)).2.2 ∧ (zs.getD j (0, 0, 0)).2.2 ≤ 32767) ∧ (-128 ≤ (zs.getD j (0, 0, 0)).1 ∧ (zs.getD j (0, 0, 0)).1 ≤ 127) ∧ (-128 ≤ (zs.getD j (0, 0, 0)).2.1 ∧ (zs.getD j (0, 0, 0)).2.1 ≤ 127) := fun j hj => by
    have ed : zs.getD j (0, 0, 0) = zs[j]'hj := by simp [List.getD, hj]
    rw [ed]; exact hz _ (List.getElem_mem hj)
  rw [List.length_map] at s0 m0 ⊢
  generalize zs.length = n at *
  have hg0 : ∃ s t g : Nat → Int, (fun j => (zs.getD j (0, 0, 0)).1) = s ∧ (fun j => (zs.getD j (0, 0, 0)).2.1) = t ∧ (fun j => (zs.getD j (0, 0, 0)).2.2) = g := ⟨_, _, _, rfl, rfl, rfl⟩
  obtain ⟨s, t, g, hss, htt, hgg⟩ := hg0
  rw [hss, htt, hgg] at hL
  have hg' : ∀ j, j < n → (-32768 ≤ g j ∧ g j ≤ 32767) ∧ (-128 ≤ s j ∧ s j ≤ 127) ∧ (-128 ≤ t j ∧ t j ≤ 127) := fun j hj => by rw [← hgg, ← hss, ← htt]; exact hg j hj
  have H := Lib.hid hL
  have HG := Lib.hid hg'
  have hm : n ≤ 9223372036854775807 := by omega
  clear hL hg hg' hz w1 r0 hgg hss htt
  have HBD := Lib.hid (gi_bd32 w0)
  have L0 := Lib.hid l0
  have HI := Lib.hid (arr5_info l0)
  have HA := Lib.hid (heap_alloc_new W (.cells (nums .i32 a0).toArray 31 (0, 0)))
  have H := Lib.hid (H.out.below (show Below W.heap.size W (W.alloc (.cells (nums .i32 a0).toArray 31 (0, 0))) from below_alloc (Below.refl _ _) _))
  clear w0 l0
  by_cases hn : n ≤ 1048576
  · have E : Hid ((if n ≤ 1048576 then 1048576 - (n : Int) else -1) = 1048576 - (n : Int)) := by rw [Hid, if_pos hn]
    have d : decide ((1048576 : Int) - (n : Int) < 0) = false := by simp; omega
    have HSz := fun w => Lib.hid (E.out ▸ c_szMoveS A0 n cap0 w hm)
    go_enter Try.func4, Try.ntmps4
    have L5 := Lib.hid (makeP_len L0.out n s t g)
    have HIR := Lib.hid (places_info L5.out)
    go_wp2_with (first
      | (go_at_call 5; ((with_reducible refine (HSz _).out.mono ?_); rintro e w1 ⟨rfl, rfl⟩))
      | (refine wpList_load_row rfl 31 (.tmp 2) rfl (W.heap.size) rfl 31 _ (0, 0) _ HA.out Try.underlying31 rfl HI.out ?_)
      | (go_at_call 13; ((with_reducible refine (c_toPlaces a0 _ L0.out).mono ?_); rintro e w1 ⟨rfl, hb⟩; have H := Lib.hid (H.out.below hb); have HA := Lib.hid (blk_below HA.out hb); (try have HY := Lib.hid (HY.out.below hb)); (try have HP := Lib.hid (blk_below HP.out hb))))
      | (go_at_call 7; ((with_reducible refine (c_toMoveS A0 n cap0 s t g _ H.out hn).mono ?_); rintro e w1 ⟨b, rfl, hL, hb⟩; have H := Lib.hid (H.out.below hb); have HA := Lib.hid (blk_below HA.out hb); (try have HP := Lib.hid (blk_below HP.out hb)); (try have HX := Lib.hid (HY.out.below hb)); have HY := Lib.hid hL; clear hL))
      | (go_at_call 12; ((with_reducible refine (c_sMakeMoves _ _ n _ s t g _ L0.out HBD.out HY.out hn HG.out).mono ?_); rintro e w1 ⟨rfl, hb⟩; have H := Lib.hid (H.out.below hb); have HY := Lib.hid (HY.out.below hb); have HA := Lib.hid (blk_below HA.out hb)))
      | (go_at_call 14; ((with_reducible refine (c_iMakeMoves _ _ n _ s t g _ L0.out HBD.out HY.out hn HG.out).mono ?_); rintro e w1 ⟨rfl, hb⟩; have H := Lib.hid (H.out.below hb); have HY := Lib.hid (HY.out.below hb); have HA := Lib.hid (blk_below HA.out hb); (try have HP := Lib.hid (blk_below HP.out hb))))
      | (go_at_call 15; ((with_reducible refine (c_eqPlaces _ _ L5.out).mono ?_); rintro e w1 ⟨rfl, hb⟩; have H := Lib.hid (H.out.below hb); have HY := Lib.hid (HY.out.below hb); have HA := Lib.hid (blk_below HA.out hb)))
      | (refine ev_store_row rfl 32 (.tmp 6) (.tmp 22) rfl (w1.heap.size) (nums .i32 (makeP a0 n s t g)).toArray rfl rfl 32 _ (heap_alloc_new w1 _) HIR.out (by simp [nums, L5.out]) (nums_one _ _) ?_; intro w1 hblk ht; have hb := tou_newP ht; clear ht; have H := Lib.hid (H.out.below hb); have HY := Lib.hid (HY.out.below hb); have HA := Lib.hid (blk_below HA.out hb); have HP := Lib.hid hblk; clear hblk)
      | (refine ev_store_row rfl 32 (.tmp 9) (.tmp 31) rfl (w1.heap.size) (nums .i32 (makeP a0 n s t g)).toArray rfl rfl 32 _ (heap_alloc_new w1 _) HIR.out (by simp [nums, L5.out]) (nums_one _ _) ?_; intro w1 hblk ht; have hb := tou_newP ht; clear ht; have H := Lib.hid (H.out.below hb); have HY := Lib.hid (HY.out.below hb); have HA := Lib.hid (blk_below HA.out hb); have HP := Lib.hid (blk_below HP.out hb); have HQ := Lib.hid hblk; clear hblk)
      | (refine wpList_load_row rfl 32 (.tmp 6) rfl (_) rfl 32 _ (0, 0) _ HP.out Try.underlying32 rfl HIR.out ?_)
      | (refine wpList_load_row rfl 32 (.tmp 9) rfl (_) rfl 32 _ (0, 0) _ HQ.out Try.underlying32 rfl HIR.out ?_)
      | (go_at_call 9; ((with_reducible refine (c_eqMoveS _ _ n _ _ s t g _ HX.out HY.out hn).mono ?_); rintro e w1 ⟨rfl, hb⟩)))
    go_ret
    exact ⟨rfl, by (repeat (first | with_reducible exact Below.refl _ _ | with_reducible refine below_alloc ?_ _ | with_reducible refine below_drew ?_ | with_reducible refine below_drewN ?_ _ | with_reducible refine below_then ?_ (by assumption)))⟩
  · have E : Hid ((if n ≤ 1048576 then 1048576 - (n : Int) else -1) = -1) := by rw [Hid, if_neg hn]
    have HSz := fun w => Lib.hid (E.out ▸ c_szMoveS A0 n cap0 w hm)
    go_enter Try.func4, Try.ntmps4
    go_wp2_with (go_at_call 5; ((with_reducible refine (HSz _).out.mono ?_); rintro e w1 ⟨rfl, rfl⟩))
    go_ret
    exact ⟨rfl, by (repeat (first | with_reducible exact Below.refl _ _ | with_reducible refine below_alloc ?_ _ | with_reducible refine below_drew ?_ | with_reducible refine below_drewN ?_ _ | with_reducible refine below_then ?_ (by assumption)))⟩
end Go.Proofs.Ytakbgfgbaegaeaa
