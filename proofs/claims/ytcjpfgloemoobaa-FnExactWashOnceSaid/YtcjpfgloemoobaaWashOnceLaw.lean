/- The law on one wash. -/
import Derived.Test.YtcjpfgloemoobaaWashOnce
import Derived.Deep.RegionHeld3
import Derived.Deep.WholeRow
import Derived.Deep.DeepCutAuto
namespace Go.Proofs.Ytcjpfgloemoobaa
open Go.RowKit
set_option linter.unusedVariables false
set_option linter.unusedSimpArgs false
set_option maxRecDepth 100000

theorem c_eqCloth (a b c d e : Int) (w : World) :
    Calls Try.prog 33 #[.agg #[.int .i16 a, .int .i16 b, .int .i8 c, .int .i8 d, .int .i8 e], .agg #[.int .i16 a, .int .i16 b, .int .i8 c, .int .i8 d, .int .i8 e]] w fun u w' => u = .returned (.bool true) ∧ Below w.heap.size w w' := by
  go_enter Try.func33, Try.ntmps33
  go_wp2
  go_ret
  exact ⟨rfl, by (repeat (first | with_reducible exact Below.refl _ _ | with_reducible refine below_alloc ?_ _ | with_reducible refine below_drew ?_ | with_reducible refine below_drewN ?_ _ | with_reducible refine below_then ?_ (by assumption)))⟩
theorem frozen_past (w : World) (b o : Nat) (h : w.heap.size ≤ b) : w.frozen? ⟨b, o, none⟩ = false := by
  simp [World.frozen?, Array.getElem?_eq_none h]
theorem frozen_new (w : World) (o : Nat) : w.frozen? ⟨w.heap.size, o, none⟩ = false := frozen_past w _ o (Nat.le_refl _)
theorem washOnce_lit (a b c d e p q r : Int) : ∃ z0 z1 z2 z3 z4 k, washOnceF a b c d e p q r = (#[.int .i16 z0, .int .i16 z1, .int .i8 z2, .int .i8 z3, .int .i8 z4], k) := by
  unfold washOnceF
  split
  · exact ⟨_, _, _, _, _, _, rfl⟩
  · exact ⟨_, _, _, _, _, _, rfl⟩
set_option maxHeartbeats 1600000 in
theorem walk_FnExactWashOnce (W : World) (a0_0 a0_1 a0_2 a0_3 a0_4 : Int) (w0_0 : (Lit.int .i16 a0_0).wf = true) (w0_1 : (Lit.int .i16 a0_1).wf = true) (w0_2 : (Lit.int .i8 a0_2).wf = true) (w0_3 : (Lit.int .i8 a0_3).wf = true) (w0_4 : (Lit.int .i8 a0_4).wf = true) (a1_0 a1_1 a1_2 : Int) (w1_0 : (Lit.int .i8 a1_0).wf = true) (w1_1 : (Lit.int .i8 a1_1).wf = true) (w1_2 : (Lit.int .i8 a1_2).wf = true) :
    Calls Try.prog 9 #[.agg #[.int .i16 a0_0, .int .i16 a0_1, .int .i8 a0_2, .int .i8 a0_3, .int .i8 a0_4], .agg #[.int .i8 a1_0, .int .i8 a1_1, .int .i8 a1_2]] W fun e w' => e = .returned (.bool true) ∧ Below W.heap.size W w' := by
  have h0 := wf_i16 w0_0
  have h1 := wf_i16 w0_1
  clear w0_0 w0_1 w0_2 w0_3 w0_4 w1_0 w1_1 w1_2
  obtain ⟨z0, z1, z2, z3, z4, k, hz⟩ := washOnce_lit a0_0 a0_1 a0_2 a0_3 a0_4 a1_0 a1_1 a1_2
  have CS : ∀ w : World, Hid (Calls Try.prog 31 #[.agg #[.int .i16 a0_0, .int .i16 a0_1, .int .i8 a0_2, .int .i8 a0_3, .int .i8 a0_4], .agg #[.int .i8 a1_0, .int .i8 a1_1, .int .i8 a1_2]] w fun u w' => u = .returned (.tuple #[.agg #[.int .i16 z0, .int .i16 z1, .int .i8 z2, .int .i8 z3, .int .i8 z4], .int .i64 k]) ∧ Below w.heap.size w w') := by
    intro w
    have := c_sWashOnce a0_0 a0_1 a0_2 a0_3 a0_4 a1_0 a1_1 a1_2 w h0 h1
    rw [hz] at this
    exact this
  have CI : ∀ w : World, Hid (Calls Try.prog 32 #[.agg #[.int .i16 a0_0, .int .i16 a0_1, .int .i8 a0_2, .int .i8 a0_3, .int .i8 a0_4], .agg #[.int .i8 a1_0, .int .i8 a1_1, .int .i8 a1_2]] w fun u w' => u = .returned (.tuple #[.agg #[.int .i16 z0, .int .i16 z1, .int .i8 z2, .int .i8 z3, .int .i8 z4], .int .i64 k]) ∧ Below w.heap.size w w') := by
    intro w
    have := c_iWashOnce a0_0 a0_1 a0_2 a0_3 a0_4 a1_0 a1_1 a1_2 w h0 h1
    rw [hz] at this
    exact this
  clear hz
  go_enter Try.func9, Try.ntmps9
  go_wp2
  go_cut [5, 6] (fun p c wx => ∃ g, p = .pointer (some ⟨g, 0, none⟩) ∧ c = .int .i64 k ∧ W.heap.size + 2 ≤ g ∧ g < wx.heap.size ∧ Below W.heap.size W wx ∧ (wx.cell? ⟨W.heap.size, 0, none⟩ = some (.int .i16 a0_0) ∧ wx.cell? ⟨W.heap.size, 1, none⟩ = some (.int .i16 a0_1) ∧ wx.cell? ⟨W.heap.size, 2, none⟩ = some (.int .i8 a0_2) ∧ wx.cell? ⟨W.heap.size, 3, none⟩ = some (.int .i8 a0_3) ∧ wx.cell? ⟨W.heap.size, 4, none⟩ = some (.int .i8 a0_4) ∧ wx.cell? ⟨W.heap.size + 1, 0, none⟩ = some (.int .i8 a1_0) ∧ wx.cell? ⟨W.heap.size + 1, 1, none⟩ = some (.int .i8 a1_1) ∧ wx.cell? ⟨W.heap.size + 1, 2, none⟩ = some (.int .i8 a1_2)) ∧ (wx.cell? ⟨g, 0, none⟩ = some (.int .i16 z0) ∧ wx.cell? ⟨g, 1, none⟩ = some (.int .i16 z1) ∧ wx.cell? ⟨g, 2, none⟩ = some (.int .i8 z2) ∧ wx.cell? ⟨g, 3, none⟩ = some (.int .i8 z3) ∧ wx.cell? ⟨g, 4, none⟩ = some (.int .i8 z4)))
  case first =>
    go_region_held3 (fun w' => (w'.cell? ⟨W.heap.size, 0, none⟩ = some (.int .i16 a0_0) ∧ w'.cell? ⟨W.heap.size, 1, none⟩ = some (.int .i16 a0_1) ∧ w'.cell? ⟨W.heap.size, 2, none⟩ = some (.int .i8 a0_2) ∧ w'.cell? ⟨W.heap.size, 3, none⟩ = some (.int .i8 a0_3) ∧ w'.cell? ⟨W.heap.size, 4, none⟩ = some (.int .i8 a0_4) ∧ w'.cell? ⟨W.heap.size + 1, 0, none⟩ = some (.int .i8 a1_0) ∧ w'.cell? ⟨W.heap.size + 1, 1, none⟩ = some (.int .i8 a1_1) ∧ w'.cell? ⟨W.heap.size + 1, 2, none⟩ = some (.int .i8 a1_2))) (simp [*, go_sem])
      (first | (go_at_call 16; ((with_reducible refine (c_toCloth _ _ _ _ _ _).mono ?_); rintro e w1 ⟨rfl, hb⟩; obtain ⟨hc_, hf_, hz_⟩ := bfacts hb; (try simp only [World.size_alloc, World.size_setCell, World.size_drew] at hc_ hf_ hz_); have hzz0 : W.heap.size < w1.heap.size := (by omega); have hzz1 : W.heap.size + 1 < w1.heap.size := (by omega); (have hne0 := Nat.ne_of_lt hzz0); (have hne1 := Nat.ne_of_lt hzz1); (have hne2 := (Nat.ne_of_lt hzz0).symm); (have hne3 := (Nat.ne_of_lt hzz1).symm); (try have hzA := Nat.lt_of_lt_of_le hzA hz_); (try have hzB := Nat.lt_of_lt_of_le hzB hz_); (try have hzC := Nat.lt_of_lt_of_le hzC hz_); (try (first | (have hq := hzB; clear hq; have hzC := Nat.lt_of_succ_le hz_) | (have hq := hzA; clear hq; have hzB := Nat.lt_of_succ_le hz_) | have hzA := Nat.lt_of_succ_le hz_)))) | (go_at_call 17; ((with_reducible refine (c_toProgram _ _ _ _).mono ?_); rintro e w1 ⟨rfl, hb⟩; obtain ⟨hc_, hf_, hz_⟩ := bfacts hb; (try simp only [World.size_alloc, World.size_setCell, World.size_drew] at hc_ hf_ hz_); have hzz0 : W.heap.size < w1.heap.size := (by omega); have hzz1 : W.heap.size + 1 < w1.heap.size := (by omega); (have hne0 := Nat.ne_of_lt hzz0); (have hne1 := Nat.ne_of_lt hzz1); (have hne2 := (Nat.ne_of_lt hzz0).symm); (have hne3 := (Nat.ne_of_lt hzz1).symm); (try have hzA := Nat.lt_of_lt_of_le hzA hz_); (try have hzB := Nat.lt_of_lt_of_le hzB hz_); (try have hzC := Nat.lt_of_lt_of_le hzC hz_); (try (first | (have hq := hzB; clear hq; have hzC := Nat.lt_of_succ_le hz_) | (have hq := hzA; clear hq; have hzB := Nat.lt_of_succ_le hz_) | have hzA := Nat.lt_of_succ_le hz_)))) | (go_at_call 31; ((with_reducible refine ((CS _).out).mono ?_); rintro e w1 ⟨rfl, hb⟩; obtain ⟨hc_, hf_, hz_⟩ := bfacts hb; (try simp only [World.size_alloc, World.size_setCell, World.size_drew] at hc_ hf_ hz_); have hzz0 : W.heap.size < w1.heap.size := (by omega); have hzz1 : W.heap.size + 1 < w1.heap.size := (by omega); (have hne0 := Nat.ne_of_lt hzz0); (have hne1 := Nat.ne_of_lt hzz1); (have hne2 := (Nat.ne_of_lt hzz0).symm); (have hne3 := (Nat.ne_of_lt hzz1).symm); (try have hzA := Nat.lt_of_lt_of_le hzA hz_); (try have hzB := Nat.lt_of_lt_of_le hzB hz_); (try have hzC := Nat.lt_of_lt_of_le hzC hz_); (try (first | (have hq := hzB; clear hq; have hzC := Nat.lt_of_succ_le hz_) | (have hq := hzA; clear hq; have hzB := Nat.lt_of_succ_le hz_) | have hzA := Nat.lt_of_succ_le hz_)))))
    all_goals go_wp2_with fail
    all_goals go_meet
    all_goals refine ⟨_, rfl, rfl, ?_, ?_, ?_, ?_, ?_⟩
    all_goals first
      | (with_reducible refine show Below _ _ _ from ?_; repeat (first | with_reducible exact Below.refl _ _ | with_reducible refine below_alloc ?_ _ | with_reducible refine below_drew ?_ | with_reducible refine below_drewN ?_ _ | with_reducible refine below_then ?_ (by assumption) | (with_reducible refine Below.setCell ?_ ?_ _; rotate_left; (first | (simp; done) | (simp; omega)))))
      | omega
      | (simp only [World.size_alloc, World.size_setCell, World.size_drew]; omega)
      | (simp [*, go_sem]; done)
  case rest =>
    obtain ⟨g, rfl, rfl, hg2, hgl, hB, hS, hG⟩ := hcut
    obtain ⟨a0, a1, a2, a3, a4, b0, b1, b2⟩ := hS
    obtain ⟨g0, g1, g2, g3, g4⟩ := hG
    have hW0 : W.heap.size < wc.heap.size := by omega
    have hW1 : W.heap.size + 1 < wc.heap.size := by omega
    have hgw : ¬ g = W.heap.size := by omega
    have hgw' : ¬ g = W.heap.size + 1 := by omega
    have HB := Lib.hid hB
    clear hB
    go_wp2
    go_cut [7, 8] (fun p c wx => ∃ q, p = .pointer (some ⟨q, 0, none⟩) ∧ c = .int .i64 k ∧ Below W.heap.size W wx ∧ (wx.cell? ⟨g, 0, none⟩ = some (.int .i16 z0) ∧ wx.cell? ⟨g, 1, none⟩ = some (.int .i16 z1) ∧ wx.cell? ⟨g, 2, none⟩ = some (.int .i8 z2) ∧ wx.cell? ⟨g, 3, none⟩ = some (.int .i8 z3) ∧ wx.cell? ⟨g, 4, none⟩ = some (.int .i8 z4)) ∧ (wx.cell? ⟨q, 0, none⟩ = some (.int .i16 z0) ∧ wx.cell? ⟨q, 1, none⟩ = some (.int .i16 z1) ∧ wx.cell? ⟨q, 2, none⟩ = some (.int .i8 z2) ∧ wx.cell? ⟨q, 3, none⟩ = some (.int .i8 z3) ∧ wx.cell? ⟨q, 4, none⟩ = some (.int .i8 z4)))
    case first =>
      go_region_held3 (fun w' => (w'.cell? ⟨W.heap.size, 0, none⟩ = some (.int .i16 a0_0) ∧ w'.cell? ⟨W.heap.size, 1, none⟩ = some (.int .i16 a0_1) ∧ w'.cell? ⟨W.heap.size, 2, none⟩ = some (.int .i8 a0_2) ∧ w'.cell? ⟨W.heap.size, 3, none⟩ = some (.int .i8 a0_3) ∧ w'.cell? ⟨W.heap.size, 4, none⟩ = some (.int .i8 a0_4) ∧ w'.cell? ⟨W.heap.size + 1, 0, none⟩ = some (.int .i8 a1_0) ∧ w'.cell? ⟨W.heap.size + 1, 1, none⟩ = some (.int .i8 a1_1) ∧ w'.cell? ⟨W.heap.size + 1, 2, none⟩ = some (.int .i8 a1_2))) (simp [*, go_sem])
        (first | (go_at_call 16; ((with_reducible refine (c_toCloth _ _ _ _ _ _).mono ?_); rintro e w1 ⟨rfl, hb⟩; obtain ⟨hc_, hf_, hz_⟩ := bfacts hb; (try simp only [World.size_alloc, World.size_setCell, World.size_drew] at hc_ hf_ hz_); have hzz0 : W.heap.size < w1.heap.size := (by omega); have hzz1 : W.heap.size + 1 < w1.heap.size := (by omega); (have hgl : g < w1.heap.size := (by omega)); (have hgn : ¬ g = w1.heap.size := (by omega)); (have hgn' : ¬ w1.heap.size = g := (by omega)); (have hne0 := Nat.ne_of_lt hzz0); (have hne1 := Nat.ne_of_lt hzz1); (have hne2 := (Nat.ne_of_lt hzz0).symm); (have hne3 := (Nat.ne_of_lt hzz1).symm); (try have hzA := Nat.lt_of_lt_of_le hzA hz_); (try have hzB := Nat.lt_of_lt_of_le hzB hz_); (try have hzC := Nat.lt_of_lt_of_le hzC hz_); (try (first | (have hq := hzB; clear hq; have hzC := Nat.lt_of_succ_le hz_) | (have hq := hzA; clear hq; have hzB := Nat.lt_of_succ_le hz_) | have hzA := Nat.lt_of_succ_le hz_)))) | (go_at_call 17; ((with_reducible refine (c_toProgram _ _ _ _).mono ?_); rintro e w1 ⟨rfl, hb⟩; obtain ⟨hc_, hf_, hz_⟩ := bfacts hb; (try simp only [World.size_alloc, World.size_setCell, World.size_drew] at hc_ hf_ hz_); have hzz0 : W.heap.size < w1.heap.size := (by omega); have hzz1 : W.heap.size + 1 < w1.heap.size := (by omega); (have hgl : g < w1.heap.size := (by omega)); (have hgn : ¬ g = w1.heap.size := (by omega)); (have hgn' : ¬ w1.heap.size = g := (by omega)); (have hne0 := Nat.ne_of_lt hzz0); (have hne1 := Nat.ne_of_lt hzz1); (have hne2 := (Nat.ne_of_lt hzz0).symm); (have hne3 := (Nat.ne_of_lt hzz1).symm); (try have hzA := Nat.lt_of_lt_of_le hzA hz_); (try have hzB := Nat.lt_of_lt_of_le hzB hz_); (try have hzC := Nat.lt_of_lt_of_le hzC hz_); (try (first | (have hq := hzB; clear hq; have hzC := Nat.lt_of_succ_le hz_) | (have hq := hzA; clear hq; have hzB := Nat.lt_of_succ_le hz_) | have hzA := Nat.lt_of_succ_le hz_)))) | (go_at_call 32; ((with_reducible refine ((CI _).out).mono ?_); rintro e w1 ⟨rfl, hb⟩; obtain ⟨hc_, hf_, hz_⟩ := bfacts hb; (try simp only [World.size_alloc, World.size_setCell, World.size_drew] at hc_ hf_ hz_); have hzz0 : W.heap.size < w1.heap.size := (by omega); have hzz1 : W.heap.size + 1 < w1.heap.size := (by omega); (have hgl : g < w1.heap.size := (by omega)); (have hgn : ¬ g = w1.heap.size := (by omega)); (have hgn' : ¬ w1.heap.size = g := (by omega)); (have hne0 := Nat.ne_of_lt hzz0); (have hne1 := Nat.ne_of_lt hzz1); (have hne2 := (Nat.ne_of_lt hzz0).symm); (have hne3 := (Nat.ne_of_lt hzz1).symm); (try have hzA := Nat.lt_of_lt_of_le hzA hz_); (try have hzB := Nat.lt_of_lt_of_le hzB hz_); (try have hzC := Nat.lt_of_lt_of_le hzC hz_); (try (first | (have hq := hzB; clear hq; have hzC := Nat.lt_of_succ_le hz_) | (have hq := hzA; clear hq; have hzB := Nat.lt_of_succ_le hz_) | have hzA := Nat.lt_of_succ_le hz_)))))
      all_goals go_wp2_with fail
      all_goals go_meet
      all_goals refine ⟨_, rfl, rfl, ?_, ?_, ?_⟩
      all_goals first
        | (with_reducible refine show Below _ _ _ from ?_; repeat (first | with_reducible exact Below.refl _ _ | with_reducible exact HB.out | with_reducible refine below_alloc ?_ _ | with_reducible refine below_drew ?_ | with_reducible refine below_drewN ?_ _ | with_reducible refine below_then ?_ (by assumption) | (with_reducible refine Below.setCell ?_ ?_ _; rotate_left; (first | (simp; done) | (simp; omega)))))
        | (simp [*, go_sem]; done)
    case rest =>
      obtain ⟨q, rfl, rfl, hB, hG, hQ⟩ := hcut
      obtain ⟨g0, g1, g2, g3, g4⟩ := hG
      obtain ⟨q0, q1, q2, q3, q4⟩ := hQ
      go_wp2_with (first | (go_at_call 33; ((with_reducible refine (c_eqCloth _ _ _ _ _ _).mono ?_); rintro e w1 ⟨rfl, hb⟩)))
      all_goals go_ret
      exact ⟨rfl, below_then hB hb⟩
end Go.Proofs.Ytcjpfgloemoobaa
