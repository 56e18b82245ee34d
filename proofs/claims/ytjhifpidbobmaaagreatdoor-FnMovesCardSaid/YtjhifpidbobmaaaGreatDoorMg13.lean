/- Texts laid together: LatLaw, MakeMoves. -/
import Derived.Test.YtjhifpidbobmaaaGreatDoorMg11
import Derived.Test.YtjhifpidbobmaaaGreatDoorMg12
/- The law on the first wrong move. -/
namespace Go.Proofs.YtjhifpidbobmaaaGreatDoor
open Go.RowKit
set_option linter.unusedVariables false
set_option linter.unusedSimpArgs false
set_option maxRecDepth 100000


theorem arr5_info {p : List Int} (h : p.length = 5) : (Tryz.prog.info? 29).map (·.size) = some (nums .i32 p).toArray.size := by
  have e : (Tryz.prog.info? 29).map (·.size) = some 5 := by kernel_rfl
  rw [e]; simp [nums, h]
theorem gi_bd32 {zs : List Int} (h : ∀ z ∈ zs, (Lit.int .i32 z).wf = true) (j : Nat) : -2147483648 ≤ gi zs j ∧ gi zs j ≤ 2147483647 := by
  unfold gi
  by_cases hj : j < zs.length
  · have e : zs.getD j 0 = zs[j]'hj := by simp [List.getD, hj]
    rw [e]
    exact wf_i32 (h _ (List.getElem_mem hj))
  · have e : zs.getD j 0 = 0 := by simp [List.getD, List.getElem?_eq_none (show zs.length ≤ j by omega)]
    omega
end Go.Proofs.YtjhifpidbobmaaaGreatDoor
/- The places behind all moves. -/
namespace Go.Proofs.YtjhifpidbobmaaaGreatDoor
open Go.RowKit
set_option linter.unusedVariables false
set_option linter.unusedSimpArgs false
set_option maxRecDepth 100000

def makeP (p0 : List Int) (n : Nat) (s t g : Nat → Int) : List Int := if okAll p0 n s t g = true ∧ goodN p0 s t g n = n then atN p0 s t g n else [0, 0, 0, 0, 0]
theorem makeP_len {p0 : List Int} (h : p0.length = 5) (n : Nat) (s t g : Nat → Int) : (makeP p0 n s t g).length = 5 := by
  unfold makeP
  split
  · exact atN_len h s t g n
  · rfl
theorem five_one {k : IntKind} {x0 x1 x2 x3 x4 : Int} : (#[Value.int k x0, .int k x1, .int k x2, .int k x3, .int k x4].all (·.oneCell')) = true := by simp [Value.oneCell']
theorem info_five (x0 x1 x2 x3 x4 : Int) : (Tryz.prog.info? 30).map (·.size) = some #[Value.int .i32 x0, .int .i32 x1, .int .i32 x2, .int .i32 x3, .int .i32 x4].size := by
  have e : (Tryz.prog.info? 30).map (·.size) = some 5 := by kernel_rfl
  rw [e]; rfl
theorem nums_five {k : IntKind} {l : List Int} (h : l.length = 5) : (nums k l).toArray = #[.int k (gi l 0), .int k (gi l 1), .int k (gi l 2), .int k (gi l 3), .int k (gi l 4)] := by
  match l, h with
  | [a, b, c, d, e], _ => rfl

section
variable (p0 : List Int) (A : Option Addr) (n c : Nat) (s t g : Nat → Int) (w : World)
set_option maxHeartbeats 2000000 in
theorem c_sMakeMoves (hl : p0.length = 5) (hbd : ∀ j, -2147483648 ≤ gi p0 j ∧ gi p0 j ≤ 2147483647) (h : MovesAt w A n s t g) (hn : n ≤ 1048576) (hg : ∀ j, j < n → (-32768 ≤ g j ∧ g j ≤ 32767) ∧ (-128 ≤ s j ∧ s j ≤ 127) ∧ (-128 ≤ t j ∧ t j ≤ 127)) :
    Calls Tryz.prog 11 #[.agg (nums .i32 p0).toArray, .slice A n c] w fun e w' => e = .returned (.tuple #[.agg (nums .i32 (makeP p0 n s t g)).toArray, .int .i64 (placesF p0 n s t g).2]) ∧ Below w.heap.size w w' := by
  have HA := Lib.hid (blk_alloc (heap_alloc_new w (.cells (nums .i32 p0).toArray 30 (0, 0))) (.cells #[.int .i32 0, .int .i32 0, .int .i32 0, .int .i32 0, .int .i32 0] 30 (0, 0)))
  have hr := heap_alloc_new (w.alloc (.cells (nums .i32 p0).toArray 30 (0, 0))) (.cells #[.int .i32 0, .int .i32 0, .int .i32 0, .int .i32 0, .int .i32 0] 30 (0, 0))
  rw [World.size_alloc] at hr
  have HR := Lib.hid hr
  have HB0 : Hid (Below w.heap.size w ((w.alloc (.cells (nums .i32 p0).toArray 30 (0, 0))).alloc (.cells #[.int .i32 0, .int .i32 0, .int .i32 0, .int .i32 0, .int .i32 0] 30 (0, 0)))) := below_alloc (below_alloc (Below.refl _ _) _) _
  have HM := Lib.hid (h.below HB0.out)
  have HI0 := Lib.hid (places_info hl)
  have HIZ := Lib.hid (places_info (p := [0, 0, 0, 0, 0]) rfl)
  have HLn := Lib.hid (atN_len hl s t g)
  have cp := fun w h => c_sPlacesAt p0 A n c s t g w hl hbd h hn hg
  by_cases hc : okAll p0 n s t g = true ∧ goodN p0 s t g n = n
  · have EF : placesF p0 n s t g = (n, 0) := by rw [placesF, if_pos hc.1, if_pos hc.2]
    have EP : Hid (placesF p0 n s t g = (n, 0)) := EF
    have E : Hid (makeP p0 n s t g = atN p0 s t g n) := by rw [Hid, makeP, if_pos hc]
    rw [EF] at cp
    have CP := fun w h => Lib.hid (cp w h)
    clear cp h hbd hg hc EF hr
    by_cases h0 : n = 0
    · subst h0
      have E0 : Hid (atN p0 s t g 0 = p0) := rfl
      go_enter Tryz.func11, Tryz.ntmps11
      go_wp2_with (first
        | (refine wpList_load_row rfl 30 (.tmp 2) rfl (w.heap.size) rfl 30 (nums .i32 p0).toArray (0, 0) _ ?_ Tryz.underlying30 rfl HI0.out ?_; (with_reducible exact HA.out))
        | (go_at_call 13; ((with_reducible refine (CP _ HM.out).out.mono ?_); rintro e w1 ⟨v, rfl, hO, hb⟩; obtain ⟨A1, c2, rfl, hA1⟩ := own_form hO; have HA := Lib.hid (blk_below HA.out hb); have HR := Lib.hid (blk_below HR.out hb); have HO := Lib.hid hO; have HB1 := Lib.hid (below_then HB0.out hb); clear hO))
        | (refine ev_store_row rfl 30 (.tmp 4) (.tmp 21) rfl (w.heap.size + 1) (nums .i32 p0).toArray rfl rfl 30 #[.int .i32 0, .int .i32 0, .int .i32 0, .int .i32 0, .int .i32 0] ?_ HI0.out (by simp [nums, hl]) (nums_one _ _) ?_; (with_reducible exact HR.out); intro w3 hblk ht; have hR3 := Lib.hid hblk; clear hblk))
      refine bodyPost_ret (v := .tuple #[.agg (nums .i32 p0).toArray, .int .i64 0]) (results_ct rfl _ _ (w.heap.size + 1) 30 (nums .i32 p0).toArray (0, 0) _ rfl (by with_reducible exact hR3.out) Tryz.underlying30 rfl HI0.out rfl) rfl ⟨by rw [E.out, EP.out, E0.out], HB1.out.trans (ht.below (by omega))⟩
    · obtain ⟨m, rfl⟩ : ∃ m, n = m + 1 := ⟨n - 1, by omega⟩
      have dz : (((m + 1 : Nat) : Int) == 0) = false := by simp; omega
      have em : ((m + 1 : Nat) : Int) - 1 = (m : Int) := by omega
      have m0 : (0 : Int) ≤ (m : Int) := by omega
      have m1 : (m : Int) < ((m + 1 : Nat) : Int) := by omega
      have E5 : Hid ((nums .i32 (atN p0 s t g (m + 1))).toArray = #[.int .i32 (gi (atN p0 s t g (m + 1)) 0), .int .i32 (gi (atN p0 s t g (m + 1)) 1), .int .i32 (gi (atN p0 s t g (m + 1)) 2), .int .i32 (gi (atN p0 s t g (m + 1)) 3), .int .i32 (gi (atN p0 s t g (m + 1)) 4)]) := nums_five (HLn.out (m + 1))
      have HI5 : Hid ((Tryz.prog.info? 30).map (·.size) = some #[Value.int .i32 (gi (atN p0 s t g (m + 1)) 0), .int .i32 (gi (atN p0 s t g (m + 1)) 1), .int .i32 (gi (atN p0 s t g (m + 1)) 2), .int .i32 (gi (atN p0 s t g (m + 1)) 3), .int .i32 (gi (atN p0 s t g (m + 1)) 4)].size) := info_five _ _ _ _ _
      have HPl := Lib.hid (fun k (_ : k < m + 1) => HLn.out (k + 1))
      go_enter Tryz.func11, Tryz.ntmps11
      go_wp2_with (first
        | (refine wpList_load_row rfl 30 (.tmp 2) rfl (w.heap.size) rfl 30 (nums .i32 p0).toArray (0, 0) _ ?_ Tryz.underlying30 rfl HI0.out ?_; (with_reducible exact HA.out))
        | (go_at_call 13; ((with_reducible refine (CP _ HM.out).out.mono ?_); rintro e w1 ⟨v, rfl, hO, hb⟩; obtain ⟨A1, c2, rfl, hA1⟩ := own_form hO; obtain ⟨gg, rfl, hgg⟩ := hA1 (Nat.succ_pos m); have HA := Lib.hid (blk_below HA.out hb); have HR := Lib.hid (blk_below HR.out hb); have HB1 := Lib.hid (below_then HB0.out hb); have x0 := (own_get hO (rows5_get0 HPl.out (Nat.lt_succ_self m))).1; have x1 := (own_get hO (rows5_get HPl.out (Nat.lt_succ_self m) (show 1 < 5 by decide))).1; have x2 := (own_get hO (rows5_get HPl.out (Nat.lt_succ_self m) (show 2 < 5 by decide))).1; have x3 := (own_get hO (rows5_get HPl.out (Nat.lt_succ_self m) (show 3 < 5 by decide))).1; have x4 := (own_get hO (rows5_get HPl.out (Nat.lt_succ_self m) (show 4 < 5 by decide))).1; clear hO))
        | (refine ev_store_row rfl 30 (.tmp 4) (.tmp 27) rfl (w.heap.size + 1) #[.int .i32 (gi (atN p0 s t g (m + 1)) 0), .int .i32 (gi (atN p0 s t g (m + 1)) 1), .int .i32 (gi (atN p0 s t g (m + 1)) 2), .int .i32 (gi (atN p0 s t g (m + 1)) 3), .int .i32 (gi (atN p0 s t g (m + 1)) 4)] rfl rfl 30 #[.int .i32 0, .int .i32 0, .int .i32 0, .int .i32 0, .int .i32 0] ?_ HI5.out (Eq.refl (5 : Nat)) five_one ?_; (with_reducible exact HR.out); intro w3 hblk ht; have hR3 := Lib.hid hblk; clear hblk))
      refine bodyPost_ret (v := .tuple #[.agg #[.int .i32 (gi (atN p0 s t g (m + 1)) 0), .int .i32 (gi (atN p0 s t g (m + 1)) 1), .int .i32 (gi (atN p0 s t g (m + 1)) 2), .int .i32 (gi (atN p0 s t g (m + 1)) 3), .int .i32 (gi (atN p0 s t g (m + 1)) 4)], .int .i64 0]) (results_ct rfl _ _ (w.heap.size + 1) 30 #[.int .i32 (gi (atN p0 s t g (m + 1)) 0), .int .i32 (gi (atN p0 s t g (m + 1)) 1), .int .i32 (gi (atN p0 s t g (m + 1)) 2), .int .i32 (gi (atN p0 s t g (m + 1)) 3), .int .i32 (gi (atN p0 s t g (m + 1)) 4)] (0, 0) _ rfl (by with_reducible exact hR3.out) Tryz.underlying30 rfl HI5.out rfl) rfl ⟨by rw [E.out, EP.out, E5.out], HB1.out.trans (ht.below (by omega))⟩
  · have E : Hid (makeP p0 n s t g = [0, 0, 0, 0, 0]) := by rw [Hid, makeP, if_neg hc]
    have EF : (placesF p0 n s t g).2 = 1 ∨ (placesF p0 n s t g).2 = 4 := by
      unfold placesF
      split
      · rename_i h1; rw [if_neg (fun h2 => hc ⟨h1, h2⟩)]; exact .inr rfl
      · exact .inl rfl
    have dz : ((placesF p0 n s t g).2 != 0) = true := by rcases EF with e | e <;> rw [e] <;> rfl
    have dz2 : ¬ (placesF p0 n s t g).2 = 0 := by rcases EF with e | e <;> omega
    have CP := fun w h => Lib.hid (cp w h)
    clear cp h hbd hg hc EF hr
    go_enter Tryz.func11, Tryz.ntmps11
    go_wp2_with (first
      | (refine wpList_load_row rfl 30 (.tmp 2) rfl (w.heap.size) rfl 30 (nums .i32 p0).toArray (0, 0) _ ?_ Tryz.underlying30 rfl HI0.out ?_; (with_reducible exact HA.out))
      | (go_at_call 13; ((with_reducible refine (CP _ HM.out).out.mono ?_); rintro e w1 ⟨v, rfl, hO, hb⟩; obtain ⟨A1, c2, rfl, hA1⟩ := own_form hO; have HA := Lib.hid (blk_below HA.out hb); have HR := Lib.hid (blk_below HR.out hb); have HO := Lib.hid hO; have HB1 := Lib.hid (below_then HB0.out hb); clear hO))
      | (refine ev_store_row rfl 30 (.tmp 4) (.tmp 16) rfl (w.heap.size + 1) (nums .i32 [0, 0, 0, 0, 0]).toArray rfl rfl 30 #[.int .i32 0, .int .i32 0, .int .i32 0, .int .i32 0, .int .i32 0] ?_ HIZ.out (Eq.refl (5 : Nat)) (nums_one _ _) ?_; (with_reducible exact HR.out); intro w3 hblk ht; have hR3 := Lib.hid hblk; clear hblk))
    refine bodyPost_ret (v := .tuple #[.agg (nums .i32 [0, 0, 0, 0, 0]).toArray, .int .i64 (placesF p0 n s t g).2]) (results_ct rfl _ _ (w.heap.size + 1) 30 (nums .i32 [0, 0, 0, 0, 0]).toArray (0, 0) _ rfl (by with_reducible exact hR3.out) Tryz.underlying30 rfl HIZ.out rfl) rfl ⟨by rw [E.out], HB1.out.trans (ht.below (by omega))⟩
set_option maxHeartbeats 2000000 in
theorem c_iMakeMoves (hl : p0.length = 5) (hbd : ∀ j, -2147483648 ≤ gi p0 j ∧ gi p0 j ≤ 2147483647) (h : MovesAt w A n s t g) (hn : n ≤ 1048576) (hg : ∀ j, j < n → (-32768 ≤ g j ∧ g j ≤ 32767) ∧ (-128 ≤ s j ∧ s j ≤ 127) ∧ (-128 ≤ t j ∧ t j ≤ 127)) :
    Calls Tryz.prog 10 #[.agg (nums .i32 p0).toArray, .slice A n c] w fun e w' => e = .returned (.tuple #[.agg (nums .i32 (makeP p0 n s t g)).toArray, .int .i64 (placesF p0 n s t g).2]) ∧ Below w.heap.size w w' := by
  have HA := Lib.hid (blk_alloc (heap_alloc_new w (.cells (nums .i32 p0).toArray 30 (0, 0))) (.cells #[.int .i32 0, .int .i32 0, .int .i32 0, .int .i32 0, .int .i32 0] 30 (0, 0)))
  have hr := heap_alloc_new (w.alloc (.cells (nums .i32 p0).toArray 30 (0, 0))) (.cells #[.int .i32 0, .int .i32 0, .int .i32 0, .int .i32 0, .int .i32 0] 30 (0, 0))
  rw [World.size_alloc] at hr
  have HR := Lib.hid hr
  have HB0 : Hid (Below w.heap.size w ((w.alloc (.cells (nums .i32 p0).toArray 30 (0, 0))).alloc (.cells #[.int .i32 0, .int .i32 0, .int .i32 0, .int .i32 0, .int .i32 0] 30 (0, 0)))) := below_alloc (below_alloc (Below.refl _ _) _) _
  have HM := Lib.hid (h.below HB0.out)
  have HI0 := Lib.hid (places_info hl)
  have HIZ := Lib.hid (places_info (p := [0, 0, 0, 0, 0]) rfl)
  have HLn := Lib.hid (atN_len hl s t g)
  have cp := fun w h => c_iPlacesAt p0 A n c s t g w hl hbd h hn hg
  by_cases hc : okAll p0 n s t g = true ∧ goodN p0 s t g n = n
  · have EF : placesF p0 n s t g = (n, 0) := by rw [placesF, if_pos hc.1, if_pos hc.2]
    have EP : Hid (placesF p0 n s t g = (n, 0)) := EF
    have E : Hid (makeP p0 n s t g = atN p0 s t g n) := by rw [Hid, makeP, if_pos hc]
    rw [EF] at cp
    have CP := fun w h => Lib.hid (cp w h)
    clear cp h hbd hg hc EF hr
    by_cases h0 : n = 0
    · subst h0
      have E0 : Hid (atN p0 s t g 0 = p0) := rfl
      go_enter Tryz.func10, Tryz.ntmps10
      go_wp2_with (first
        | (refine wpList_load_row rfl 30 (.tmp 2) rfl (w.heap.size) rfl 30 (nums .i32 p0).toArray (0, 0) _ ?_ Tryz.underlying30 rfl HI0.out ?_; (with_reducible exact HA.out))
        | (go_at_call 12; ((with_reducible refine (CP _ HM.out).out.mono ?_); rintro e w1 ⟨v, rfl, hO, hb⟩; obtain ⟨A1, c2, rfl, hA1⟩ := own_form hO; have HA := Lib.hid (blk_below HA.out hb); have HR := Lib.hid (blk_below HR.out hb); have HO := Lib.hid hO; have HB1 := Lib.hid (below_then HB0.out hb); clear hO))
        | (refine ev_store_row rfl 30 (.tmp 4) (.tmp 23) rfl (w.heap.size + 1) (nums .i32 p0).toArray rfl rfl 30 #[.int .i32 0, .int .i32 0, .int .i32 0, .int .i32 0, .int .i32 0] ?_ HI0.out (by simp [nums, hl]) (nums_one _ _) ?_; (with_reducible exact HR.out); intro w3 hblk ht; have hR3 := Lib.hid hblk; clear hblk))
      refine bodyPost_ret (v := .tuple #[.agg (nums .i32 p0).toArray, .int .i64 0]) (results_ct rfl _ _ (w.heap.size + 1) 30 (nums .i32 p0).toArray (0, 0) _ rfl (by with_reducible exact hR3.out) Tryz.underlying30 rfl HI0.out rfl) rfl ⟨by rw [E.out, EP.out, E0.out], HB1.out.trans (ht.below (by omega))⟩
    · obtain ⟨m, rfl⟩ : ∃ m, n = m + 1 := ⟨n - 1, by omega⟩
      have dz : (((m + 1 : Nat) : Int) == 0) = false := by simp; omega
      have em : ((m + 1 : Nat) : Int) - 1 = (m : Int) := by omega
      have m0 : (0 : Int) ≤ (m : Int) := by omega
      have m1 : (m : Int) < ((m + 1 : Nat) : Int) := by omega
      have E5 : Hid ((nums .i32 (atN p0 s t g (m + 1))).toArray = #[.int .i32 (gi (atN p0 s t g (m + 1)) 0), .int .i32 (gi (atN p0 s t g (m + 1)) 1), .int .i32 (gi (atN p0 s t g (m + 1)) 2), .int .i32 (gi (atN p0 s t g (m + 1)) 3), .int .i32 (gi (atN p0 s t g (m + 1)) 4)]) := nums_five (HLn.out (m + 1))
      have HI5 : Hid ((Tryz.prog.info? 30).map (·.size) = some #[Value.int .i32 (gi (atN p0 s t g (m + 1)) 0), .int .i32 (gi (atN p0 s t g (m + 1)) 1), .int .i32 (gi (atN p0 s t g (m + 1)) 2), .int .i32 (gi (atN p0 s t g (m + 1)) 3), .int .i32 (gi (atN p0 s t g (m + 1)) 4)].size) := info_five _ _ _ _ _
      have HPl := Lib.hid (fun k (_ : k < m + 1) => HLn.out (k + 1))
      go_enter Tryz.func10, Tryz.ntmps10
      go_wp2_with (first
        | (refine wpList_load_row rfl 30 (.tmp 2) rfl (w.heap.size) rfl 30 (nums .i32 p0).toArray (0, 0) _ ?_ Tryz.underlying30 rfl HI0.out ?_; (with_reducible exact HA.out))
        | (go_at_call 12; ((with_reducible refine (CP _ HM.out).out.mono ?_); rintro e w1 ⟨v, rfl, hO, hb⟩; obtain ⟨A1, c2, rfl, hA1⟩ := own_form hO; obtain ⟨gg, rfl, hgg⟩ := hA1 (Nat.succ_pos m); have HA := Lib.hid (blk_below HA.out hb); have HR := Lib.hid (blk_below HR.out hb); have HB1 := Lib.hid (below_then HB0.out hb); have x0 := (own_get hO (rows5_get0 HPl.out (Nat.lt_succ_self m))).1; have x1 := (own_get hO (rows5_get HPl.out (Nat.lt_succ_self m) (show 1 < 5 by decide))).1; have x2 := (own_get hO (rows5_get HPl.out (Nat.lt_succ_self m) (show 2 < 5 by decide))).1; have x3 := (own_get hO (rows5_get HPl.out (Nat.lt_succ_self m) (show 3 < 5 by decide))).1; have x4 := (own_get hO (rows5_get HPl.out (Nat.lt_succ_self m) (show 4 < 5 by decide))).1; clear hO))
        | (refine ev_store_row rfl 30 (.tmp 4) (.tmp 29) rfl (w.heap.size + 1) #[.int .i32 (gi (atN p0 s t g (m + 1)) 0), .int .i32 (gi (atN p0 s t g (m + 1)) 1), .int .i32 (gi (atN p0 s t g (m + 1)) 2), .int .i32 (gi (atN p0 s t g (m + 1)) 3), .int .i32 (gi (atN p0 s t g (m + 1)) 4)] rfl rfl 30 #[.int .i32 0, .int .i32 0, .int .i32 0, .int .i32 0, .int .i32 0] ?_ HI5.out (Eq.refl (5 : Nat)) five_one ?_; (with_reducible exact HR.out); intro w3 hblk ht; have hR3 := Lib.hid hblk; clear hblk))
      refine bodyPost_ret (v := .tuple #[.agg #[.int .i32 (gi (atN p0 s t g (m + 1)) 0), .int .i32 (gi (atN p0 s t g (m + 1)) 1), .int .i32 (gi (atN p0 s t g (m + 1)) 2), .int .i32 (gi (atN p0 s t g (m + 1)) 3), .int .i32 (gi (atN p0 s t g (m + 1)) 4)], .int .i64 0]) (results_ct rfl _ _ (w.heap.size + 1) 30 #[.int .i32 (gi (atN p0 s t g (m + 1)) 0), .int .i32 (gi (atN p0 s t g (m + 1)) 1), .int .i32 (gi (atN p0 s t g (m + 1)) 2), .int .i32 (gi (atN p0 s t g (m + 1)) 3), .int .i32 (gi (atN p0 s t g (m + 1)) 4)] (0, 0) _ rfl (by with_reducible exact hR3.out) Tryz.underlying30 rfl HI5.out rfl) rfl ⟨by rw [E.out, EP.out, E5.out], HB1.out.trans (ht.below (by omega))⟩
  · have E : Hid (makeP p0 n s t g = [0, 0, 0, 0, 0]) := by rw [Hid, makeP, if_neg hc]
    have EF : (placesF p0 n s t g).2 = 1 ∨ (placesF p0 n s t g).2 = 4 := by
      unfold placesF
      split
      · rename_i h1; rw [if_neg (fun h2 => hc ⟨h1, h2⟩)]; exact .inr rfl
      · exact .inl rfl
    have dz : ((placesF p0 n s t g).2 != 0) = true := by rcases EF with e | e <;> rw [e] <;> rfl
    have dz2 : ¬ (placesF p0 n s t g).2 = 0 := by rcases EF with e | e <;> omega
    have CP := fun w h => Lib.hid (cp w h)
    clear cp h hbd hg hc EF hr
    go_enter Tryz.func10, Tryz.ntmps10
    go_wp2_with (first
      | (refine wpList_load_row rfl 30 (.tmp 2) rfl (w.heap.size) rfl 30 (nums .i32 p0).toArray (0, 0) _ ?_ Tryz.underlying30 rfl HI0.out ?_; (with_reducible exact HA.out))
      | (go_at_call 12; ((with_reducible refine (CP _ HM.out).out.mono ?_); rintro e w1 ⟨v, rfl, hO, hb⟩; obtain ⟨A1, c2, rfl, hA1⟩ := own_form hO; have HA := Lib.hid (blk_below HA.out hb); have HR := Lib.hid (blk_below HR.out hb); have HO := Lib.hid hO; have HB1 := Lib.hid (below_then HB0.out hb); clear hO))
      | (refine ev_store_row rfl 30 (.tmp 4) (.tmp 17) rfl (w.heap.size + 1) (nums .i32 [0, 0, 0, 0, 0]).toArray rfl rfl 30 #[.int .i32 0, .int .i32 0, .int .i32 0, .int .i32 0, .int .i32 0] ?_ HIZ.out (Eq.refl (5 : Nat)) (nums_one _ _) ?_; (with_reducible exact HR.out); intro w3 hblk ht; have hR3 := Lib.hid hblk; clear hblk))
    refine bodyPost_ret (v := .tuple #[.agg (nums .i32 [0, 0, 0, 0, 0]).toArray, .int .i64 (placesF p0 n s t g).2]) (results_ct rfl _ _ (w.heap.size + 1) 30 (nums .i32 [0, 0, 0, 0, 0]).toArray (0, 0) _ rfl (by with_reducible exact hR3.out) Tryz.underlying30 rfl HIZ.out rfl) rfl ⟨by rw [E.out], HB1.out.trans (ht.below (by omega))⟩
end
end Go.Proofs.YtjhifpidbobmaaaGreatDoor
