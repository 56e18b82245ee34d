/- The plan that wastes the least: the program's function. -/
import Derived.Test.YtfdljhepfoppaaaWasteOpen
namespace Go.Proofs.Ytfdljhepfoppaaa
open Go.RowKit
set_option linter.unusedVariables false
set_option linter.unusedSimpArgs false
set_option maxRecDepth 100000

def wasteO (keep : Int) (nl no : Nat) (s g so go : Nat → Int) : Option Visit := bestV (wasteF keep nl) none (allPlans nl no s g so go true)
/-- What LeastWaste hands back. -/
def wasteR (keep : Int) (nl no : Nat) (s g so go : Nat → Int) : List Int × Int × Int :=
  if (lotsOk nl s g && ordersOk no so go) = true then (if inB keep 0 5000 = true then (if (wasteO keep nl no s g so go).isSome = true then (bestL (wasteO keep nl no s g so go), leastL (wasteF keep nl) (wasteO keep nl no s g so go), 0) else ([], 0, 6)) else ([], 0, 2)) else ([], 0, 1)
theorem wasteR_le (keep : Int) (nl no : Nat) (s g so go : Nat → Int) : (wasteR keep nl no s g so go).1.length ≤ no := by
  unfold wasteR
  split
  · split
    · split
      · exact best_len
      · exact Nat.zero_le _
    · exact Nat.zero_le _
  · exact Nat.zero_le _
set_option maxHeartbeats 2000000 in
theorem c_iLeastWaste (A B : Option Addr) (nl no c c1 : Nat) (keep : Int) (s g so go : Nat → Int) (w : World) (hL : LotsAt w A nl s g) (hO : LotsAt w B no so go) (hnl : nl ≤ 1048576) (hno : no ≤ 1048576)
    (hg : ∀ j, j < nl → -32768 ≤ g j ∧ g j ≤ 32767) (hgo : ∀ j, j < no → -32768 ≤ go j ∧ go j ≤ 32767) :
    Calls Try.prog 16 #[.slice A nl c, .slice B no c1, .int .i64 keep] w fun e w' => ∃ v, e = .returned (.tuple #[v, .int .i64 (wasteR keep nl no s g so go).2.1, .int .i64 (wasteR keep nl no s g so go).2.2]) ∧ w'.ownsRow w.heap.size 2 1 v (wasteR keep nl no s g so go).1.length (nums .i64 (wasteR keep nl no s g so go).1) ∧ Below w.heap.size w w' := by
  have hE := heap_alloc_new w (.cells #[.int .i64 keep] 2 (0, 0))
  have hB0 : Below w.heap.size w (w.alloc (.cells #[.int .i64 keep] 2 (0, 0))) := below_alloc (Below.refl _ _) _
  have hz : (w.alloc (.cells #[.int .i64 keep] 2 (0, 0))).heap.size = w.heap.size + 1 := World.size_alloc ..
  have he : ∀ args w, (callFunc 44 args).run Try.prog w = .ok (.enter 44 args) w := enters_of Try.func44 (by kernel_rfl) rfl
  have c0 := c_areValid A B nl no c c1 s g so go _ (hL.below hB0) (hO.below hB0) hnl hno hg hgo
  have HW := Lib.hid hB0
  have HZ := Lib.hid hz
  have HE := Lib.hid hE
  cases q1 : (lotsOk nl s g && ordersOk no so go)
  · have E : Hid (wasteR keep nl no s g so go = ([], 0, 1)) := by rw [Hid, wasteR, q1]; rfl
    rw [q1] at c0
    have C0 := Lib.hid c0
    clear c0 hL hO hg hgo q1 he hE hB0 hz
    go_enter Try.func16, Try.ntmps16
    go_wp2_with (go_at_call 35; ((with_reducible refine C0.out.mono ?_); rintro e w1 ⟨rfl, hb⟩))
    exact bodyPost_ret (v := .tuple #[.slice none 0 0, .int .i64 0, .int .i64 1]) (by simp [results, Try.results16, go_sem]) rfl ⟨_, by rw [E.out], by rw [E.out]; exact own_nil _ _ _ _, below_then HW.out hb⟩
  · rw [q1] at c0
    have C0 := Lib.hid c0
    have q12 : lotsOk nl s g = true ∧ ordersOk no so go = true := by simpa only [Bool.and_eq_true] using q1
    obtain ⟨h6, hg'⟩ := lotsOk_bd q12.1
    obtain ⟨h7, hgo'⟩ := ordersOk_bd q12.2
    have E0 : wasteR keep nl no s g so go = if inB keep 0 5000 = true then (if (wasteO keep nl no s g so go).isSome = true then (bestL (wasteO keep nl no s g so go), leastL (wasteF keep nl) (wasteO keep nl no s g so go), 0) else ([], 0, 6)) else ([], 0, 2) := by rw [wasteR, q1]; rfl
    cases q3 : inB keep 0 5000
    · have E : Hid (wasteR keep nl no s g so go = ([], 0, 2)) := by rw [Hid, E0, q3]; rfl
      have C1 := fun w => Lib.hid (q3 ▸ c_within keep 0 5000 w)
      clear c0 hL hO hg hgo q1 he hE hB0 hz E0 q12 hg' hgo' q3
      go_enter Try.func16, Try.ntmps16
      go_wp2_with (first
        | (go_at_call 35; ((with_reducible refine C0.out.mono ?_); rintro e w1 ⟨rfl, hb⟩; have hx := blk_below HE.out hb; have hy := cell_of_row w1 w.heap.size 0 _ _ _ hx))
        | (go_at_call 43; ((with_reducible refine (C1 _).out.mono ?_); rintro e w3 ⟨rfl, rfl⟩)))
      exact bodyPost_ret (v := .tuple #[.slice none 0 0, .int .i64 0, .int .i64 2]) (by simp [results, Try.results16, go_sem]) rfl ⟨_, by rw [E.out], by rw [E.out]; exact own_nil _ _ _ _, below_then HW.out hb⟩
    · rw [q3, if_pos rfl] at E0
      have C1 := fun w => Lib.hid (q3 ▸ c_within keep 0 5000 w)
      have CP := fun w1 (hb : Below w.heap.size w w1) (hx : w1.heap[w.heap.size]? = some (.cells #[.int .i64 keep] 2 (0, 0))) => Lib.hid (c_leastPlan (wasteF keep nl) A B nl no c c1 true s g so go 44 #[.pointer (some ⟨w.heap.size, 0, none⟩)] [(w.heap.size, Obj.cells #[.int .i64 keep] 2 (0, 0))] w1 he (fun D P Lf o w' _ h2 h3 h4 hP hG => c_lw1 h7 h6 w.heap.size keep D P Lf o w' h2 h3 h4 hP hG) (hL.below hb) (hO.below hb) h6 h7 hg' hgo' (fun p hp => by
        obtain rfl : p = (w.heap.size, Obj.cells #[.int .i64 keep] 2 (0, 0)) := by simpa using hp
        exact hx))
      simp only [show bestV (wasteF keep nl) none (allPlans nl no s g so go true) = wasteO keep nl no s g so go from rfl] at CP
      have CP := Lib.hid CP
      clear c0 hL hO hg hgo q1 q12 hg' hgo' he q3 hE hB0 hz
      generalize wasteO keep nl no s g so go = o at *
      cases q2 : o.isSome
      · have E : Hid (wasteR keep nl no s g so go = ([], 0, 6)) := by rw [Hid, E0, q2]; rfl
        clear E0
        go_enter Try.func16, Try.ntmps16
        go_wp2_with (first
          | (go_at_call 35; ((with_reducible refine C0.out.mono ?_); rintro e w1 ⟨rfl, hb⟩; have hx := blk_below HE.out hb; have hy := cell_of_row w1 w.heap.size 0 _ _ _ hx; have HX := Lib.hid hx; have HB1 := Lib.hid (below_then HW.out hb); clear hb hx))
          | (go_at_call 43; ((with_reducible refine (C1 _).out.mono ?_); rintro e w3 ⟨rfl, rfl⟩))
          | (go_at_call 36; ((refine ((CP.out _ HB1.out HX.out).out).mono ?_); rintro e w2 ⟨vb, rfl, hO2, hb2⟩; have HB2 := Lib.hid (below_then HB1.out hb2); clear hO2 hb2; rw [q2])))
        exact bodyPost_ret (v := .tuple #[.slice none 0 0, .int .i64 0, .int .i64 6]) (by simp [results, Try.results16, go_sem]) rfl ⟨_, by rw [E.out], by rw [E.out]; exact own_nil _ _ _ _, HB2.out⟩
      · have E : Hid (wasteR keep nl no s g so go = (bestL o, leastL (wasteF keep nl) o, 0)) := by rw [Hid, E0, q2]; rfl
        clear E0
        go_enter Try.func16, Try.ntmps16
        go_wp2_with (first
          | (go_at_call 35; ((with_reducible refine C0.out.mono ?_); rintro e w1 ⟨rfl, hb⟩; have hx := blk_below HE.out hb; have hy := cell_of_row w1 w.heap.size 0 _ _ _ hx; have HX := Lib.hid hx; have HB1 := Lib.hid (below_then HW.out hb); clear hb hx))
          | (go_at_call 43; ((with_reducible refine (C1 _).out.mono ?_); rintro e w3 ⟨rfl, rfl⟩))
          | (go_at_call 36; ((refine ((CP.out _ HB1.out HX.out).out).mono ?_); rintro e w2 ⟨vb, rfl, hO2, hb2⟩; have HO2 := Lib.hid (own_mono hO2 HB1.out.size); have HB2 := Lib.hid (below_then HB1.out hb2); clear hO2 hb2; rw [q2])))
        exact bodyPost_ret (v := .tuple #[vb, .int .i64 (leastL (wasteF keep nl) o), .int .i64 0]) (by simp [results, Try.results16, go_sem]) rfl ⟨_, by rw [E.out], by rw [E.out]; exact HO2.out, HB2.out⟩
end Go.Proofs.Ytfdljhepfoppaaa
