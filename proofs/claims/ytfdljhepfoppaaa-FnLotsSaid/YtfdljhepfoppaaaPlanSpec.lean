/- The plan that serves the most orders: the reference's functions. -/
import Derived.Test.YtfdljhepfoppaaaPlanFrom
import Derived.Deep.QuietTactic
import Derived.BigQuiet
namespace Go.Proofs.Ytfdljhepfoppaaa
open Go.RowKit
set_option linter.unusedVariables false
set_option linter.unusedSimpArgs false
set_option maxRecDepth 100000

/-- The first k lots' grams, zeros behind them. -/
def gramsK (g : Nat → Int) (k : Nat) : List Int := (List.range k).map g ++ List.replicate (6 - k) 0
theorem gramsK_len {g : Nat → Int} {k : Nat} (h : k ≤ 6) : (gramsK g k).length = 6 := by simp [gramsK]; omega
theorem gramsK_set {g : Nat → Int} {k : Nat} (h : k < 6) : (gramsK g k).set k (g k) = gramsK g (k + 1) := by
  have e : List.replicate (6 - k) (0 : Int) = 0 :: List.replicate (6 - (k + 1)) 0 := by rw [show 6 - k = (6 - (k + 1)) + 1 by omega, List.replicate_succ]
  rw [gramsK, gramsK, e, List.set_append_right _ _ (by simp), List.range_succ, List.map_append]
  simp
theorem gramsK_pad {g : Nat → Int} {nl : Nat} : gramsK g nl = pad ((List.range nl).map g) := by simp [gramsK, pad]
theorem allPlans_congr (nl no : Nat) (s g so go : Nat → Int) (all : Bool) : allPlans nl no s g so go all = visits nl s so go all no 0 [] ((List.range nl).map g) := rfl
set_option maxHeartbeats 4000000 in
theorem c_l07Best (A B : Option Addr) (nl no c c1 what : Nat) (keep : Int) (s g so go : Nat → Int) (w : World) (hwh : what = 0 ∨ what = 1 ∨ what = 2) (hL : LotsAt w A nl s g) (hO : LotsAt w B no so go) (nl6 : nl ≤ 6) (no7 : no ≤ 7) (bg : ∀ j, j < nl → 0 ≤ g j ∧ g j ≤ 5000) (bo : ∀ j, j < no → 1 ≤ go j ∧ go j ≤ 5000) :
    Calls Try.prog 39 #[.slice A nl c, .slice B no c1, .int .i64 (what : Int), .int .i64 keep] w fun e w' => ∃ vb, e = .returned (.tuple #[vb, .int .i64 (leastL (costF what keep nl) (bestV (costF what keep nl) none (allPlans nl no s g so go (!(what == 0))))), .bool (bestV (costF what keep nl) none (allPlans nl no s g so go (!(what == 0)))).isSome]) ∧
      w'.ownsRow w.heap.size 2 1 vb (bestL (bestV (costF what keep nl) none (allPlans nl no s g so go (!(what == 0))))).length (nums .i64 (bestL (bestV (costF what keep nl) none (allPlans nl no s g so go (!(what == 0)))))) ∧ Below w.heap.size w w' := by
  have hW := heap_alloc_new w (.cells #[.slice A nl c, .slice B no c1, .int .i64 (what : Int), .int .i64 keep, .slice none 0 0, .int .i64 0, .bool false] 85 (0, 0))
  have hB0 : Below w.heap.size w (w.alloc (.cells #[.slice A nl c, .slice B no c1, .int .i64 (what : Int), .int .i64 keep, .slice none 0 0, .int .i64 0, .bool false] 85 (0, 0))) := below_alloc (Below.refl _ _) _
  have HWA := Lib.hid hW
  have HBA := Lib.hid hB0
  have HL := Lib.hid hL
  have HO := Lib.hid hO
  have HBG := Lib.hid bg
  have HBO := Lib.hid bo
  have HIA : Hid ((Try.prog.info? 86).map (·.size) = some 6) := by show (Try.prog.info? 86).map (·.size) = some 6; kernel_rfl
  clear hW hB0 hL hO bg bo
  go_enter Try.func39, Try.ntmps39
  go_wp2
  have hW2 := blk_alloc HWA.out (.cells #[.int .i64 0, .int .i64 0, .int .i64 0, .int .i64 0, .int .i64 0, .int .i64 0] 86 (0, 0))
  have hZ2 := heap_alloc_new (w.alloc (.cells #[.slice A nl c, .slice B no c1, .int .i64 (what : Int), .int .i64 keep, .slice none 0 0, .int .i64 0, .bool false] 85 (0, 0))) (.cells #[.int .i64 0, .int .i64 0, .int .i64 0, .int .i64 0, .int .i64 0, .int .i64 0] 86 (0, 0))
  rw [World.size_alloc] at hZ2
  have HW2 := Lib.hid hW2
  have HZ2 : Hid (((w.alloc (.cells #[.slice A nl c, .slice B no c1, .int .i64 (what : Int), .int .i64 keep, .slice none 0 0, .int .i64 0, .bool false] 85 (0, 0))).alloc (.cells #[.int .i64 0, .int .i64 0, .int .i64 0, .int .i64 0, .int .i64 0, .int .i64 0] 86 (0, 0))).heap[w.heap.size + 1]? = some (.cells (nums .i64 (gramsK g 0)).toArray 86 (0, 0))) := hZ2
  have HB2 := Lib.hid (below_alloc HBA.out (.cells #[.int .i64 0, .int .i64 0, .int .i64 0, .int .i64 0, .int .i64 0, .int .i64 0] 86 (0, 0)))
  clear hW2 hZ2 HWA HBA
  go_loopw [13] (fun i wr => ∃ k : Nat, i = .int .i64 k ∧ k ≤ nl ∧ Hid (wr.heap[w.heap.size]? = some (.cells #[.slice A nl c, .slice B no c1, .int .i64 (what : Int), .int .i64 keep, .slice none 0 0, .int .i64 0, .bool false] 85 (0, 0))) ∧ Hid (wr.heap[w.heap.size + 1]? = some (.cells (nums .i64 (gramsK g k)).toArray 86 (0, 0))) ∧ Hid (Below w.heap.size w wr)) (fun i _ => nl - (intOf i).toNat)
  case atStart => exact ⟨0, rfl, by omega, HW2, HZ2, HB2⟩
  case round =>
    obtain ⟨k, rfl, hk, hS, hZ, hB⟩ := hrel
    by_cases hlt : k < nl
    · have d1 : decide ((k : Int) < (nl : Int)) = true := by simp; omega
      have k0 : (0 : Int) ≤ (k : Int) := by omega
      have k1 : (k : Int) < (nl : Int) := by omega
      have k6 : (k : Int) < 6 := by omega
      obtain ⟨al, rfl, s0, s1⟩ := (HL.out.below hB.out).at_ k hlt
      obtain ⟨g0, g1⟩ := HBG.out k hlt
      have zk := nums_cell hZ.out k (by rw [gramsK_len (by omega)]; omega)
      have fk := blk_frozen hZ.out k
      go_wp2
      have hZ3 := blk_set hZ.out k (.int .i64 (g k))
      rw [nums_set, gramsK_set (by omega)] at hZ3
      go_roundw
      case rel => exact ⟨k + 1, by go_num, by omega, blk_far hS.out (show w.heap.size ≠ w.heap.size + 1 by omega) _ _, hZ3, hB.out.setCell (by simp) _⟩
      case measure => simp [intOf]; omega
    · obtain rfl : k = nl := by omega
      have d1 : decide ((k : Int) < (k : Int)) = false := by simp
      have HIG : Hid ((Try.prog.info? 86).map (·.size) = some (nums .i64 (gramsK g k)).toArray.size) := by rw [Hid, HIA.out]; simp [nums, gramsK_len nl6]
      have hSS : SS ⟨w.heap.size, A, B, k, no, c, c1, what, keep, w⟩ none (wr.alloc (.cells #[] 2 (0, 0))) := ⟨⟨.slice none 0 0, blk_alloc hS.out _, own_nil _ _ _ _⟩, below_alloc hB.out _⟩
      have hOE := own_empty (base := w.heap.size) (size := 1) (heap_alloc_new wr (.cells #[] 2 (0, 0))) hB.out.size
      have CF := c_from ⟨w.heap.size, A, B, k, no, c, c1, what, keep, w⟩ (s := s) (g := g) (so := so) (go := go) hwh nl6 no7 HBO.out (Nat.le_refl _) HL.out HO.out no 0 [] ((List.range k).map g) none wr.heap.size 0 (wr.alloc (.cells #[] 2 (0, 0))) (by simp) hSS hOE ⟨by simp, LeftOk.first (fun j hj => by have := HBG.out j hj; omega)⟩
      rw [← gramsK_pad, show negs [] = 0 from rfl] at CF
      have HCF := Lib.hid CF
      have hZa := Lib.hid (blk_alloc hZ.out (.cells #[] 2 (0, 0)))
      clear CF hSS hOE
      go_wp2_with (first
        | (refine wpList_load_row rfl 86 (.tmp 12) rfl (w.heap.size + 1) rfl 86 (nums .i64 (gramsK g k)).toArray (0, 0) _ ?_ Try.underlying86 rfl HIG.out ?_; (with_reducible exact hZa.out))
        | (go_at_call 60; ((refine HCF.out.mono ?_); rintro e w5 ⟨rfl, hS5, _⟩; have HS5 := Lib.hid hS5; clear hS5; obtain ⟨vb, hW5, hO5⟩ := HS5.out.hW; have HO5 := Lib.hid hO5; have z4 : w5.cell? ⟨w.heap.size, 4, none⟩ = some vb := cell_of_row w5 w.heap.size 4 _ _ _ hW5; have z5 : w5.cell? ⟨w.heap.size, 5, none⟩ = some (.int .i64 (leastL (costF what keep k) (bestV (costF what keep k) none (allPlans k no s g so go (!(what == 0)))))) := cell_of_row w5 w.heap.size 5 _ _ _ hW5; have z6 : w5.cell? ⟨w.heap.size, 6, none⟩ = some (.bool (bestV (costF what keep k) none (allPlans k no s g so go (!(what == 0)))).isSome) := cell_of_row w5 w.heap.size 6 _ _ _ hW5; clear hW5 hO5)))
      go_quiet (fail)
      go_wp2
      exact bodyPost_ret (v := .tuple #[vb, .int .i64 (leastL (costF what keep k) (bestV (costF what keep k) none (allPlans k no s g so go (!(what == 0))))), .bool (bestV (costF what keep k) none (allPlans k no s g so go (!(what == 0)))).isSome]) (by simp [results, Try.results39, go_sem]) rfl ⟨_, rfl, (show (w5.drewN _).ownsRow _ _ _ _ _ _ from HO5.out), below_drewN HS5.out.b _⟩
set_option maxHeartbeats 2000000 in
theorem c_sMostOrders (A B : Option Addr) (nl no c c1 : Nat) (s g so go : Nat → Int) (w : World) (hL : LotsAt w A nl s g) (hO : LotsAt w B no so go) (hnl : nl ≤ 1048576) (hno : no ≤ 1048576)
    (hg : ∀ j, j < nl → -32768 ≤ g j ∧ g j ≤ 32767) (hgo : ∀ j, j < no → -32768 ≤ go j ∧ go j ≤ 32767) :
    Calls Try.prog 13 #[.slice A nl c, .slice B no c1] w fun e w' => ∃ v, e = .returned (.tuple #[v, .int .i64 (mostR nl no s g so go).2.1, .int .i64 (mostR nl no s g so go).2.2]) ∧ w'.ownsRow w.heap.size 2 1 v (mostR nl no s g so go).1.length (nums .i64 (mostR nl no s g so go).1) ∧ Below w.heap.size w w' := by
  have c0 : Calls Try.prog 31 #[.slice A nl c] w fun e w' => e = .returned (.bool (lotsOk nl s g)) ∧ w = w' := c_l07Lots A nl c s g w hL hnl hg
  have d0 : Calls Try.prog 32 #[.slice B no c1] w fun e w' => e = .returned (.bool (ordersOk no so go)) ∧ w = w' := c_l07Orders B no c1 so go w hO hno hgo
  have hE := heap_alloc_new w (.cells #[] 2 (0, 0))
  have HE := Lib.hid hE
  clear hE
  cases q1 : lotsOk nl s g
  · have E : Hid (mostR nl no s g so go = ([], 0, 1)) := by rw [Hid, mostR, q1]; rfl
    rw [q1] at c0
    have C0 := Lib.hid c0
    clear c0 d0 hL hO hg hgo q1
    go_enter Try.func13, Try.ntmps13
    go_wp2_with (go_at_call 31; ((with_reducible refine C0.out.mono ?_); rintro e w1 ⟨rfl, rfl⟩))
    exact bodyPost_ret (v := .tuple #[.slice (some ⟨w.heap.size, 0, none⟩) 0 0, .int .i64 0, .int .i64 1]) (by simp [results, Try.results13, go_sem]) rfl ⟨_, by rw [E.out], by rw [E.out]; exact own_empty HE.out (Nat.le_refl _), by (repeat (first | with_reducible exact Below.refl _ _ | with_reducible refine below_alloc ?_ _ | with_reducible refine below_drew ?_ | with_reducible refine below_drewN ?_ _ | with_reducible refine below_then ?_ (by assumption)))⟩
  · cases q2 : ordersOk no so go
    · have E : Hid (mostR nl no s g so go = ([], 0, 1)) := by rw [Hid, mostR, q1, q2]; rfl
      rw [q1] at c0
      rw [q2] at d0
      have C0 := Lib.hid c0
      have D0 := Lib.hid d0
      clear c0 d0 hL hO hg hgo q1 q2
      go_enter Try.func13, Try.ntmps13
      go_wp2_with (first
        | (go_at_call 31; ((with_reducible refine C0.out.mono ?_); rintro e w1 ⟨rfl, rfl⟩))
        | (go_at_call 32; ((with_reducible refine D0.out.mono ?_); rintro e w1 ⟨rfl, rfl⟩)))
      exact bodyPost_ret (v := .tuple #[.slice (some ⟨w.heap.size, 0, none⟩) 0 0, .int .i64 0, .int .i64 1]) (by simp [results, Try.results13, go_sem]) rfl ⟨_, by rw [E.out], by rw [E.out]; exact own_empty HE.out (Nat.le_refl _), by (repeat (first | with_reducible exact Below.refl _ _ | with_reducible refine below_alloc ?_ _ | with_reducible refine below_drew ?_ | with_reducible refine below_drewN ?_ _ | with_reducible refine below_then ?_ (by assumption)))⟩
    · rw [q1] at c0
      rw [q2] at d0
      have C0 := Lib.hid c0
      have D0 := Lib.hid d0
      obtain ⟨h6, hg'⟩ := lotsOk_bd q1
      obtain ⟨h7, hgo'⟩ := ordersOk_bd q2
      have hf : costF 0 0 nl = negF := funext fun v => costF_zero 0 nl v
      have E : Hid (mostR nl no s g so go = (bestL (mostO nl no s g so go), (no : Int) - leastL negF (mostO nl no s g so go), 0)) := by rw [Hid, mostR, q1, q2]; rfl
      obtain ⟨b0, b1⟩ := most_bd nl no s g so go
      have cb := c_l07Best A B nl no c c1 0 0 s g so go w (.inl rfl) hL hO h6 h7 hg' hgo'
      rw [hf] at cb
      change Calls _ _ _ _ (fun e w' => ∃ vb, e = .returned (.tuple #[vb, .int .i64 (leastL negF (mostO nl no s g so go)), .bool (mostO nl no s g so go).isSome]) ∧ w'.ownsRow w.heap.size 2 1 vb (bestL (mostO nl no s g so go)).length (nums .i64 (bestL (mostO nl no s g so go))) ∧ Below w.heap.size w w') at cb
      generalize mostO nl no s g so go = oo at *
      have CB := Lib.hid cb
      clear c0 d0 hL hO hg hgo q1 q2 hg' hgo' cb hf
      go_enter Try.func13, Try.ntmps13
      go_wp2_with (first
        | (go_at_call 31; ((with_reducible refine C0.out.mono ?_); rintro e w1 ⟨rfl, rfl⟩))
        | (go_at_call 32; ((with_reducible refine D0.out.mono ?_); rintro e w1 ⟨rfl, rfl⟩))
        | (go_at_call 39; ((refine CB.out.mono ?_); rintro e w2 ⟨vb, rfl, hO2, hb2⟩; have HO2 := Lib.hid hO2; have HB2 := Lib.hid hb2; clear hO2 hb2)))
      exact bodyPost_ret (v := .tuple #[vb, .int .i64 ((no : Int) - leastL negF oo), .int .i64 0]) (by simp [results, Try.results13, go_sem]) rfl ⟨_, by rw [E.out], by rw [E.out]; exact HO2.out, HB2.out⟩
end Go.Proofs.Ytfdljhepfoppaaa
