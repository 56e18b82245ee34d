/- The law on by how much a cloth felts. -/
import Derived.Test.YtcjpfgloemoobaaWashBy
import Derived.Deep.RegionHeld3
namespace Go.Proofs.Ytcjpfgloemoobaa
open Go.RowKit
set_option linter.unusedVariables false
set_option linter.unusedSimpArgs false
set_option maxRecDepth 100000

set_option maxHeartbeats 800000 in
theorem walk_FnExactFeltsBy (W : World) (a0_0 a0_1 a0_2 a0_3 a0_4 : Int) (w0_0 : (Lit.int .i16 a0_0).wf = true) (w0_1 : (Lit.int .i16 a0_1).wf = true) (w0_2 : (Lit.int .i8 a0_2).wf = true) (w0_3 : (Lit.int .i8 a0_3).wf = true) (w0_4 : (Lit.int .i8 a0_4).wf = true) (a1_0 a1_1 a1_2 : Int) (w1_0 : (Lit.int .i8 a1_0).wf = true) (w1_1 : (Lit.int .i8 a1_1).wf = true) (w1_2 : (Lit.int .i8 a1_2).wf = true) :
    Calls Try.prog 3 #[.agg #[.int .i16 a0_0, .int .i16 a0_1, .int .i8 a0_2, .int .i8 a0_3, .int .i8 a0_4], .agg #[.int .i8 a1_0, .int .i8 a1_1, .int .i8 a1_2]] W fun e w' => e = .returned (.bool true) ∧ Below W.heap.size W w' := by
  have h0 := wf_i16 w0_0
  have h1 := wf_i16 w0_1
  clear w0_0 w0_1 w0_2 w0_3 w0_4 w1_0 w1_1 w1_2
  go_enter Try.func3, Try.ntmps3
  go_wp2
  go_region_held3 (fun w' => (w'.cell? ⟨W.heap.size, 0, none⟩ = some (.int .i16 a0_0) ∧ w'.cell? ⟨W.heap.size, 1, none⟩ = some (.int .i16 a0_1) ∧ w'.cell? ⟨W.heap.size, 2, none⟩ = some (.int .i8 a0_2) ∧ w'.cell? ⟨W.heap.size, 3, none⟩ = some (.int .i8 a0_3) ∧ w'.cell? ⟨W.heap.size, 4, none⟩ = some (.int .i8 a0_4) ∧ w'.cell? ⟨W.heap.size + 1, 0, none⟩ = some (.int .i8 a1_0) ∧ w'.cell? ⟨W.heap.size + 1, 1, none⟩ = some (.int .i8 a1_1) ∧ w'.cell? ⟨W.heap.size + 1, 2, none⟩ = some (.int .i8 a1_2))) (simp [*, go_sem])
    (first | (go_at_call 16; ((with_reducible refine (c_toCloth _ _ _ _ _ _).mono ?_); rintro e w1 ⟨rfl, hb⟩; obtain ⟨hc_, hf_, hz_⟩ := bfacts hb; (try simp only [World.size_alloc, World.size_setCell, World.size_drew] at hc_ hf_ hz_); have hzz0 : W.heap.size < w1.heap.size := (by omega); have hzz1 : W.heap.size + 1 < w1.heap.size := (by omega))) | (go_at_call 17; ((with_reducible refine (c_toProgram _ _ _ _).mono ?_); rintro e w1 ⟨rfl, hb⟩; obtain ⟨hc_, hf_, hz_⟩ := bfacts hb; (try simp only [World.size_alloc, World.size_setCell, World.size_drew] at hc_ hf_ hz_); have hzz0 : W.heap.size < w1.heap.size := (by omega); have hzz1 : W.heap.size + 1 < w1.heap.size := (by omega))) | (go_at_call 15; ((with_reducible refine (c_sFeltsBy _ _ _ _ _ _ _ _ _ h0 h1).mono ?_); rintro e w1 ⟨rfl, hb⟩; obtain ⟨hc_, hf_, hz_⟩ := bfacts hb; (try simp only [World.size_alloc, World.size_setCell, World.size_drew] at hc_ hf_ hz_); have hzz0 : W.heap.size < w1.heap.size := (by omega); have hzz1 : W.heap.size + 1 < w1.heap.size := (by omega))))
  go_wp2
  go_region_held3 (fun w' => (w'.cell? ⟨W.heap.size, 0, none⟩ = some (.int .i16 a0_0) ∧ w'.cell? ⟨W.heap.size, 1, none⟩ = some (.int .i16 a0_1) ∧ w'.cell? ⟨W.heap.size, 2, none⟩ = some (.int .i8 a0_2) ∧ w'.cell? ⟨W.heap.size, 3, none⟩ = some (.int .i8 a0_3) ∧ w'.cell? ⟨W.heap.size, 4, none⟩ = some (.int .i8 a0_4) ∧ w'.cell? ⟨W.heap.size + 1, 0, none⟩ = some (.int .i8 a1_0) ∧ w'.cell? ⟨W.heap.size + 1, 1, none⟩ = some (.int .i8 a1_1) ∧ w'.cell? ⟨W.heap.size + 1, 2, none⟩ = some (.int .i8 a1_2))) (simp [*, go_sem])
    (first | (go_at_call 16; ((with_reducible refine (c_toCloth _ _ _ _ _ _).mono ?_); rintro e w1 ⟨rfl, hb⟩; obtain ⟨hc_, hf_, hz_⟩ := bfacts hb; (try simp only [World.size_alloc, World.size_setCell, World.size_drew] at hc_ hf_ hz_); have hzz0 : W.heap.size < w1.heap.size := (by omega); have hzz1 : W.heap.size + 1 < w1.heap.size := (by omega))) | (go_at_call 17; ((with_reducible refine (c_toProgram _ _ _ _).mono ?_); rintro e w1 ⟨rfl, hb⟩; obtain ⟨hc_, hf_, hz_⟩ := bfacts hb; (try simp only [World.size_alloc, World.size_setCell, World.size_drew] at hc_ hf_ hz_); have hzz0 : W.heap.size < w1.heap.size := (by omega); have hzz1 : W.heap.size + 1 < w1.heap.size := (by omega))) | (go_at_call 18; ((with_reducible refine (c_iFeltsBy _ _ _ _ _ _ _ _ _ h0 h1).mono ?_); rintro e w1 ⟨rfl, hb⟩; obtain ⟨hc_, hf_, hz_⟩ := bfacts hb; (try simp only [World.size_alloc, World.size_setCell, World.size_drew] at hc_ hf_ hz_); have hzz0 : W.heap.size < w1.heap.size := (by omega); have hzz1 : W.heap.size + 1 < w1.heap.size := (by omega))))
  go_wp2
  all_goals go_ret
  exact ⟨rfl, by (repeat (first | with_reducible exact Below.refl _ _ | with_reducible refine below_alloc ?_ _ | with_reducible refine below_drew ?_ | with_reducible refine below_drewN ?_ _ | with_reducible refine below_then ?_ (by assumption)))⟩
end Go.Proofs.Ytcjpfgloemoobaa
