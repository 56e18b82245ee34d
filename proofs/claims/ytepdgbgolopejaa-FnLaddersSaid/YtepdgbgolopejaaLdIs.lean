/- Whether a valid fabric has a loop: the program's. -/
import Derived.Test.YtepdgbgolopejaaLdSpec
import Derived.Deep.RegionHeld3
import Derived.Deep.RegionWith
import Derived.BigRegion
namespace Go.Proofs.Ytepdgbgolopejaa
open Go.RowKit
set_option linter.unusedVariables false
set_option linter.unusedSimpArgs false
set_option maxRecDepth 100000

/-- What the region keeps. -/
abbrev IS4 (h : Nat) (cast : Int) (A : Option Addr) (n cap r x : Nat) (w' : World) : Prop := (w'.cell? ⟨h, 0, none⟩ = some (.int .i16 cast) ∧ w'.cell? ⟨h, 1, none⟩ = some (.slice A n cap)) ∧ w'.cell? ⟨h + 1, 0, none⟩ = some (.int .i16 (r : Int)) ∧ w'.cell? ⟨h + 1, 1, none⟩ = some (.int .i16 (x : Int))
theorem is4_below {h n cap r x : Nat} {cast : Int} {A : Option Addr} {w' w1 : World} (hb : Below w'.heap.size w' w1) (hc : IS4 h cast A n cap r x w') : IS4 h cast A n cap r x w1 :=
  ⟨⟨(hb.cell (World.block_lt_of_cell? w' _ hc.1.1)).trans hc.1.1, (hb.cell (World.block_lt_of_cell? w' _ hc.1.2)).trans hc.1.2⟩, (hb.cell (World.block_lt_of_cell? w' _ hc.2.1)).trans hc.2.1, (hb.cell (World.block_lt_of_cell? w' _ hc.2.2)).trans hc.2.2⟩
set_option maxHeartbeats 20000000 in
theorem c_isLoop (r x : Nat) (cast : Int) (A : Option Addr) (cap : Nat) (L : List (List UInt8)) (w : World) (hF : FabAt w cast A cap L) (hV : FabV cast L) (hr : r ≤ L.length) (hx : x < widN cast L r) :
    Calls Try.prog 61 #[.agg #[.int .i16 cast, .slice A L.length cap], .agg #[.int .i16 (r : Int), .int .i16 (x : Int)]] w fun e w' => e = .returned (.bool true) ∧ Below w.heap.size w w' := by
  have s1 := heap_alloc_new w (.cells #[.int .i16 cast, .slice A L.length cap] 27 (0, 0))
  have s2 := heap_alloc_new (w.alloc (.cells #[.int .i16 cast, .slice A L.length cap] 27 (0, 0))) (.cells #[.int .i16 (r : Int), .int .i16 (x : Int)] 39 (0, 0))
  rw [World.size_alloc] at s2
  have hb2 : Below w.heap.size w ((w.alloc (.cells #[.int .i16 cast, .slice A L.length cap] 27 (0, 0))).alloc (.cells #[.int .i16 (r : Int), .int .i16 (x : Int)] 39 (0, 0))) := below_alloc (below_alloc (Below.refl _ _) _) _
  have HA := Lib.hid (blk_alloc s1 (.cells #[.int .i16 (r : Int), .int .i16 (x : Int)] 39 (0, 0)))
  have HX := Lib.hid s2
  have HF := Lib.hid (hF.below hb2)
  have HB := Lib.hid hb2
  have CW := Lib.hid (fun w' h => c_widths cast A cap L w' h hV)
  have HG := Lib.hid (widL_get (cast := cast) (L := L) (show r < L.length + 1 by omega))
  have h30 := hV.num
  have hw := hV.wid r hr
  have q1 : inB (r : Int) 0 (L.length : Int) = true := by simp [inB]; omega
  have q2 : inB (x : Int) 0 ((widN cast L r : Int) - 1) = true := by simp [inB]; omega
  have CI1 := fun w => Lib.hid (q1 ▸ c_within (r : Int) 0 (L.length : Int) w)
  have CI2 := fun w => Lib.hid (q2 ▸ c_within (x : Int) 0 ((widN cast L r : Int) - 1) w)
  clear hF hV s1 s2 hb2 q1 q2
  generalize widN cast L r = m at *
  have x60 : (x : Int) < 60 := by omega
  have r30 : (r : Int) ≤ 30 := by omega
  have r31 : (r : Int) < (L.length : Int) + 1 := by omega
  have r0 : (0 : Int) ≤ (r : Int) := by omega
  have wm : IntKind.i64.wrap ((m : Int) - 1) = (m : Int) - 1 := IntWalk.i64_in _ (by omega)
  have wr0 : IntKind.i64.wrap (r : Int) = (r : Int) := IntWalk.i64_in _ (by omega)
  have wx0 : IntKind.i64.wrap (x : Int) = (x : Int) := IntWalk.i64_in _ (by omega)
  go_enter Try.func61, Try.ntmps61
  go_wp2
  have HS0 : Hid (IS4 w.heap.size cast A L.length cap r x (((w.alloc (.cells #[.int .i16 cast, .slice A L.length cap] 27 (0, 0))).alloc (.cells #[.int .i16 (r : Int), .int .i16 (x : Int)] 39 (0, 0))).drew)) := ⟨⟨blk_cell HA.out 0, blk_cell HA.out 1⟩, blk_cell HX.out 0, blk_cell HX.out 1⟩
  have HFd := Lib.hid (HF.out.below (below_drew (Below.refl _ _)))
  have HBd := Lib.hid (below_drew HB.out)
  refine wp_region_held_drew (S := (fun w' => (w'.cell? ⟨w.heap.size, 0, none⟩ = some (.int .i16 cast) ∧ w'.cell? ⟨w.heap.size, 1, none⟩ = some (.slice A L.length cap)) ∧ w'.cell? ⟨w.heap.size + 1, 0, none⟩ = some (.int .i16 (r : Int)) ∧ w'.cell? ⟨w.heap.size + 1, 1, none⟩ = some (.int .i16 (x : Int)))) (by kernel_rfl) HS0.out (fun hHeld => ?_)
  refine wpAnyH_take (i := 0) (v := ?v0) rfl (by kernel_rfl) (by kernel_rfl) (by kernel_rfl) (fun _ _ _ h => h) (Or.inl ⟨by rfl, ?h0⟩) (by assumption) ?r0
  case h0 => (intro w9 hSw; (try dsimp only at hSw); go_simp; (try with_reducible rfl))
  try simp only [Act.put, List.setIfInBounds_toArray, List.set_cons_zero, List.set_cons_succ]
  refine wpAnyH_take (i := 1) (v := ?v1) rfl (by kernel_rfl) (by kernel_rfl) (by kernel_rfl) (fun _ _ _ h => h) (Or.inl ⟨by rfl, ?h1⟩) (by assumption) ?r1
  case h1 => (intro w9 hSw; (try dsimp only at hSw); go_simp; (try with_reducible rfl))
  try simp only [Act.put, List.setIfInBounds_toArray, List.set_cons_zero, List.set_cons_succ]
  refine wpAnyH_take (i := 2) (v := ?v2) rfl (by kernel_rfl) (by kernel_rfl) (by kernel_rfl) (fun _ _ _ h => h) (Or.inl ⟨by rfl, ?h2⟩) (by assumption) ?r2
  case h2 => (intro w9 hSw; (try dsimp only at hSw); go_simp; (try with_reducible rfl))
  try simp only [Act.put, List.setIfInBounds_toArray, List.set_cons_zero, List.set_cons_succ]
  refine wpAnyH_take (i := 3) (v := ?v3) rfl (by kernel_rfl) (by kernel_rfl) (by kernel_rfl) (fun _ _ _ h => h) (Or.inl ⟨by rfl, ?h3⟩) (by assumption) ?r3
  case h3 => (intro w9 hSw; (try dsimp only at hSw); go_simp; (try with_reducible rfl))
  try simp only [Act.put, List.setIfInBounds_toArray, List.set_cons_zero, List.set_cons_succ]
  refine wpAnyH_take (i := 4) (v := ?v4) rfl (by kernel_rfl) (by kernel_rfl) (by kernel_rfl) (fun _ _ _ h => h) (Or.inl ⟨by rfl, ?h4⟩) (by assumption) ?r4
  case h4 => (intro w9 hSw; (try dsimp only at hSw); go_simp; (try with_reducible rfl))
  try simp only [Act.put, List.setIfInBounds_toArray, List.set_cons_zero, List.set_cons_succ]
  refine wpAnyH_ready (rs := [5]) (by kernel_rfl) (by simp) ?_
  refine AllReadyH.cons rfl (fun K hK => ?_) AllReadyH.nil
  go_simp
  (go_at_call 43; ((with_reducible refine (c_lenStr _ _ _ _).mono ?_); rintro e w3 ⟨rfl, rfl⟩))
  refine hK.out _ _ (by exact HS0.out) (fun hHeld => ?_)
  clear hK K
  try simp only [Act.put, List.setIfInBounds_toArray, List.set_cons_zero, List.set_cons_succ]
  refine wpAnyH_ready (rs := [6]) (by kernel_rfl) (by simp) ?_
  refine AllReadyH.cons rfl (fun K hK => ?_) AllReadyH.nil
  go_simp
  (go_at_call 32; ((with_reducible refine (CI1 _).out.mono ?_); rintro e w3 ⟨rfl, rfl⟩))
  refine hK.out _ _ (by exact HS0.out) (fun hHeld => ?_)
  clear hK K
  try simp only [Act.put, List.setIfInBounds_toArray, List.set_cons_zero, List.set_cons_succ]
  refine wpAnyH_take (i := 7) (v := ?v7) rfl (by kernel_rfl) (by kernel_rfl) (by kernel_rfl) (fun _ _ _ h => h) (Or.inl ⟨by rfl, ?h7⟩) (by assumption) ?r7
  case h7 => (intro w9 hSw; (try dsimp only at hSw); go_simp; (try with_reducible rfl))
  try simp only [Act.put, List.setIfInBounds_toArray, List.set_cons_zero, List.set_cons_succ]
  refine wpAnyH_take (i := 8) (v := ?v8) rfl (by kernel_rfl) (by kernel_rfl) (by kernel_rfl) (fun _ _ _ h => h) (Or.inl ⟨by rfl, ?h8⟩) (by assumption) ?r8
  case h8 => (intro w9 hSw; (try dsimp only at hSw); go_simp; (try with_reducible rfl))
  try simp only [Act.put, List.setIfInBounds_toArray, List.set_cons_zero, List.set_cons_succ]
  refine wpAnyH_take (i := 9) (v := ?v9) rfl (by kernel_rfl) (by kernel_rfl) (by kernel_rfl) (fun _ _ _ h => h) (Or.inl ⟨by rfl, ?h9⟩) (by assumption) ?r9
  case h9 => (intro w9 hSw; (try dsimp only at hSw); go_simp; (try with_reducible rfl))
  try simp only [Act.put, List.setIfInBounds_toArray, List.set_cons_zero, List.set_cons_succ]
  refine wpAnyH_take (i := 10) (v := ?v10) rfl (by kernel_rfl) (by kernel_rfl) (by kernel_rfl) (fun _ _ _ h => h) (Or.inl ⟨by rfl, ?h10⟩) (by assumption) ?r10
  case h10 => (intro w9 hSw; (try dsimp only at hSw); go_simp; (try with_reducible rfl))
  try simp only [Act.put, List.setIfInBounds_toArray, List.set_cons_zero, List.set_cons_succ]
  refine wpAnyH_take (i := 11) (v := ?v11) rfl (by kernel_rfl) (by kernel_rfl) (by kernel_rfl) (fun _ _ _ h => h) (Or.inl ⟨by rfl, ?h11⟩) (by assumption) ?r11
  case h11 => (intro w9 hSw; (try dsimp only at hSw); go_simp; (try with_reducible rfl))
  try simp only [Act.put, List.setIfInBounds_toArray, List.set_cons_zero, List.set_cons_succ]
  refine wpAnyH_take (i := 13) (v := ?v13) rfl (by kernel_rfl) (by kernel_rfl) (by kernel_rfl) (fun _ _ _ h => h) (Or.inl ⟨by rfl, ?h13⟩) (by assumption) ?r13
  case h13 => (intro w9 hSw; (try dsimp only at hSw); go_simp; (try with_reducible rfl))
  try simp only [Act.put, List.setIfInBounds_toArray, List.set_cons_zero, List.set_cons_succ]
  refine wpAnyH_take (i := 14) (v := ?v14) rfl (by kernel_rfl) (by kernel_rfl) (by kernel_rfl) (fun _ _ _ h => h) (Or.inl ⟨by rfl, ?h14⟩) (by assumption) ?r14
  case h14 => (intro w9 hSw; (try dsimp only at hSw); go_simp; (try with_reducible rfl))
  try simp only [Act.put, List.setIfInBounds_toArray, List.set_cons_zero, List.set_cons_succ]
  refine wpAnyH_ready (rs := [12]) (by kernel_rfl) (by simp) ?_
  refine AllReadyH.cons rfl (fun K hK => ?_) AllReadyH.nil
  go_simp
  (go_at_call 56; ((with_reducible refine (CW.out _ HFd.out).mono ?_); rintro e w2 ⟨v, rfl, hO, hb2⟩; obtain ⟨A1, c1, rfl, hA1⟩ := own_form hO; obtain ⟨g1, rfl, _⟩ := hA1 (Nat.succ_pos _); have x1 := (own_get hO HG.out).1; have HB2 := Lib.hid (below_then HBd.out hb2); have HS2 := Lib.hid (is4_below hb2 HS0.out); clear hb2 hO hA1))
  refine hK.out _ _ (by exact HS2.out) (fun hHeld => ?_)
  clear hK K
  try simp only [Act.put, List.setIfInBounds_toArray, List.set_cons_zero, List.set_cons_succ]
  refine wpAnyH_take (i := 15) (v := ?v15) rfl (by kernel_rfl) (by kernel_rfl) (by kernel_rfl) (fun _ _ _ h => h) (Or.inl ⟨by rfl, ?h15⟩) (by assumption) ?r15
  case h15 => (intro w9 hSw; (try dsimp only at hSw); go_simp; (try with_reducible rfl))
  try simp only [Act.put, List.setIfInBounds_toArray, List.set_cons_zero, List.set_cons_succ]
  refine wpAnyH_ready (rs := [16]) (by kernel_rfl) (by simp) ?_
  refine AllReadyH.cons rfl (fun K hK => ?_) AllReadyH.nil
  go_simp
  refine hK.out _ _ (by exact HS2.out) (fun hHeld => ?_)
  clear hK K
  try simp only [Act.put, List.setIfInBounds_toArray, List.set_cons_zero, List.set_cons_succ]
  refine wpAnyH_ready (rs := [17]) (by kernel_rfl) (by simp) ?_
  refine AllReadyH.cons rfl (fun K hK => ?_) AllReadyH.nil
  go_simp
  refine hK.out _ _ (by exact HS2.out) (fun hHeld => ?_)
  clear hK K
  try simp only [Act.put, List.setIfInBounds_toArray, List.set_cons_zero, List.set_cons_succ]
  refine wpAnyH_ready (rs := [18]) (by kernel_rfl) (by simp) ?_
  refine AllReadyH.cons rfl (fun K hK => ?_) AllReadyH.nil
  go_simp
  (go_at_call 32; ((with_reducible refine (CI2 _).out.mono ?_); rintro e w3 ⟨rfl, rfl⟩))
  refine hK.out _ _ (by exact HS2.out) (fun hHeld => ?_)
  clear hK K
  try simp only [Act.put, List.setIfInBounds_toArray, List.set_cons_zero, List.set_cons_succ]
  refine wpAnyH_ready (rs := [19]) (by kernel_rfl) (by simp) ?_
  refine AllReadyH.cons rfl (fun K hK => ?_) AllReadyH.nil
  go_simp
  refine hK.out _ _ (by exact HS2.out) (fun hHeld => ?_)
  clear hK K
  try simp only [Act.put, List.setIfInBounds_toArray, List.set_cons_zero, List.set_cons_succ]
  refine wpAnyH_ready (rs := [20]) (by kernel_rfl) (by simp) ?_
  refine AllReadyH.cons rfl (fun K hK => ?_) AllReadyH.nil
  go_simp
  refine hK.out _ _ (by exact HS2.out) (fun hHeld => ?_)
  clear hK K
  try simp only [Act.put, List.setIfInBounds_toArray, List.set_cons_zero, List.set_cons_succ]
  refine wpAnyH_done (by kernel_rfl) ?_ _
  all_goals go_wp2
  all_goals exact bodyPost_ret (v := .bool true) (by simp [results, Try.results61, go_sem]) rfl ⟨rfl, HB2.out⟩
end Go.Proofs.Ytepdgbgolopejaa
