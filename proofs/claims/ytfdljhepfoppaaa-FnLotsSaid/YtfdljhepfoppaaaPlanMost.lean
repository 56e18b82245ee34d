/- The plan that serves the most orders: the program's functions. -/
import Derived.Test.YtfdljhepfoppaaaPlanLeast
import Derived.Deep.QuietTactic
import Derived.BigQuiet
namespace Go.Proofs.Ytfdljhepfoppaaa
open Go.RowKit
set_option linter.unusedVariables false
set_option linter.unusedSimpArgs false
set_option maxRecDepth 100000

set_option maxHeartbeats 4000000 in
theorem c_leastPlan (f : Visit → Int) (A B : Option Addr) (nl no c c1 : Nat) (all : Bool) (s g so go : Nat → Int) (F : Nat) (caps : Array Value) (S0 : List (Nat × Obj)) (w : World)
    (heF : ∀ args w, (callFunc F args).run Try.prog w = .ok (.enter F args) w)
    (hnum : ∀ (D : PLay) P Lf o w, D.f = f → D.no = no → D.nl = nl → (∀ p ∈ S0, p ∈ D.S) → PS D P Lf o w → GoodV nl all P Lf → Calls Try.prog F (#[.slice (some ⟨D.bp, 0, none⟩) no no, D.vl] ++ caps) w fun e w' => e = .returned (.int .i64 (f (P, Lf))) ∧ Below w.heap.size w w')
    (hL : LotsAt w A nl s g) (hO : LotsAt w B no so go) (nl6 : nl ≤ 6) (no7 : no ≤ 7) (bg : ∀ j, j < nl → 0 ≤ g j ∧ g j ≤ 5000) (bo : ∀ j, j < no → 1 ≤ go j ∧ go j ≤ 5000) (hS0 : ∀ p ∈ S0, w.heap[p.1]? = some p.2) :
    Calls Try.prog 36 #[.slice A nl c, .slice B no c1, .bool all, .func (.func F) #[] caps] w fun e w' => ∃ vb, e = .returned (.tuple #[vb, .int .i64 (leastL f (bestV f none (allPlans nl no s g so go all))), .bool (bestV f none (allPlans nl no s g so go all)).isSome]) ∧
      w'.ownsRow w.heap.size 2 1 vb (bestL (bestV f none (allPlans nl no s g so go all))).length (nums .i64 (bestL (bestV f none (allPlans nl no s g so go all)))) ∧ Below w.heap.size w w' := by
  have k0 := blk_alloc (blk_alloc (blk_alloc (heap_alloc_new w (.cells #[.func (.func F) #[] caps] 63 (0, 0))) (.cells #[.slice none 0 0] 29 (0, 0))) (.cells #[.int .i64 0] 2 (0, 0))) (.cells #[.bool false] 4 (0, 0))
  have k1 := blk_alloc (blk_alloc (heap_alloc_new (w.alloc (.cells #[.func (.func F) #[] caps] 63 (0, 0))) (.cells #[.slice none 0 0] 29 (0, 0))) (.cells #[.int .i64 0] 2 (0, 0))) (.cells #[.bool false] 4 (0, 0))
  have k2 := blk_alloc (heap_alloc_new ((w.alloc (.cells #[.func (.func F) #[] caps] 63 (0, 0))).alloc (.cells #[.slice none 0 0] 29 (0, 0))) (.cells #[.int .i64 0] 2 (0, 0))) (.cells #[.bool false] 4 (0, 0))
  have k3 := heap_alloc_new (((w.alloc (.cells #[.func (.func F) #[] caps] 63 (0, 0))).alloc (.cells #[.slice none 0 0] 29 (0, 0))).alloc (.cells #[.int .i64 0] 2 (0, 0))) (.cells #[.bool false] 4 (0, 0))
  simp only [World.size_alloc] at k1 k2 k3
  have hB4 : Below w.heap.size w ((((w.alloc (.cells #[.func (.func F) #[] caps] 63 (0, 0))).alloc (.cells #[.slice none 0 0] 29 (0, 0))).alloc (.cells #[.int .i64 0] 2 (0, 0))).alloc (.cells #[.bool false] 4 (0, 0))) := by (repeat (first | with_reducible exact Below.refl _ _ | with_reducible refine below_alloc ?_ _ | with_reducible refine below_drew ?_ | with_reducible refine below_drewN ?_ _ | with_reducible refine below_then ?_ (by assumption)))
  have CP := Lib.hid (c_plans f A B nl no c c1 all s g so go F caps w.heap.size (w.heap.size + 1 + 1 + 1) (w.heap.size + 1 + 1) (w.heap.size + 1) S0 w _ heF hnum hL hO nl6 no7 bg bo k0 k3 k2 k1
    (fun p hp => ⟨blk_below (hS0 p hp) hB4, by have := blk_lt (hS0 p hp); omega, by have := blk_lt (hS0 p hp); omega, by have := blk_lt (hS0 p hp); omega⟩) (by omega) (by omega) hB4)
  clear hnum hL hO bg bo hS0 k0 k1 k2 k3 hB4
  generalize bestV f none (allPlans nl no s g so go all) = o at *
  go_enter Try.func36, Try.ntmps36
  go_wp2_with (go_at_call 57; ((with_reducible refine CP.out.mono ?_); rintro e w3 ⟨rfl, ⟨vb, h1, h2⟩, h3, h4, hb⟩; have HO := Lib.hid h2; have HB := Lib.hid hb; have y1 := cell_of_row w3 _ 0 _ _ _ h1; have y2 := cell_of_row w3 _ 0 _ _ _ h3; have y3 := cell_of_row w3 _ 0 _ _ _ h4; clear h1 h2 h3 h4 hb))
  go_quiet (fail)
  go_wp2
  exact bodyPost_ret (v := .tuple #[vb, .int .i64 (leastL f o), .bool o.isSome]) (by simp [results, Try.results36, go_sem]) rfl ⟨_, rfl, (show (w3.drewN _).ownsRow _ _ _ _ _ _ from HO.out), below_drewN HB.out _⟩
def negF (v : Visit) : Int := negs v.1
set_option maxHeartbeats 1000000 in
theorem c_mo1 {nl no : Nat} (no7 : no ≤ 7) (D : PLay) (P Lf : List Int) (o : Option Visit) (w : World) (hno : D.no = no) (h : PS D P Lf o w) (hg : GoodV nl false P Lf) :
    Calls Try.prog 37 (#[.slice (some ⟨D.bp, 0, none⟩) no no, D.vl] ++ #[]) w fun e w' => e = .returned (.int .i64 (negF (P, Lf))) ∧ Below w.heap.size w w' := by
  have hlp : P.length = no := h.lp.trans hno
  have HP := Lib.hid h.pl
  have HLP := Lib.hid hlp
  have HG := Lib.hid hg
  clear h hg hlp hno
  show Calls Try.prog 37 #[.slice (some ⟨D.bp, 0, none⟩) no no, D.vl] w _
  go_enter Try.func37, Try.ntmps37
  go_wp2
  go_loop [5, 10] (fun m i => ∃ k : Nat, k ≤ no ∧ i = .int .i64 k ∧ m = .int .i64 (negs (P.take k))) (fun _ i => no - (intOf i).toNat)
  case atStart => exact ⟨0, by omega, rfl, rfl⟩
  case round =>
    obtain ⟨k, hk, rfl, rfl⟩ := hrel
    by_cases hlt : k < no
    · have d1 : decide ((k : Int) < (no : Int)) = true := by simp; omega
      have k0 : (0 : Int) ≤ (k : Int) := by omega
      have k1 : (k : Int) < (no : Int) := by omega
      have x0 := nums_cell HP.out k (by rw [HLP.out]; exact hlt)
      have n0 := negs_nonneg (P.take k)
      have n1 := negs_le (P.take k)
      have n2 : (P.take k).length ≤ k := List.length_take_le _ _
      have hsn : P.take (k + 1) = P.take k ++ [gi P k] := by
        have hkl : k < P.length := by rw [HLP.out]; exact hlt
        rw [List.take_add_one, List.getElem?_eq_getElem hkl]
        simp [gi, List.getD_eq_getElem?_getD, hkl]
      have HN : Hid (negs (P.take (k + 1)) = negs (P.take k) + if gi P k < 0 then 1 else 0) := by rw [Hid, hsn, negs_snoc]
      clear hsn
      by_cases hneg : gi P k < 0
      · have dn : decide (gi P k < 0) = true := by simpa using hneg
        rw [if_pos hneg] at HN
        clear hneg
        go_wp2
        go_round
        case rel => exact ⟨k + 1, by omega, by go_num, by rw [HN.out]⟩
        case measure => simp [intOf]; omega
      · have dn : decide (gi P k < 0) = false := by simpa using hneg
        rw [if_neg hneg, Int.add_zero] at HN
        clear hneg
        go_wp2
        go_round
        case rel => exact ⟨k + 1, by omega, by go_num, by rw [HN.out]⟩
        case measure => simp [intOf]; omega
    · obtain rfl : k = no := by omega
      have d1 : decide ((k : Int) < (k : Int)) = false := by simp
      go_wp2
      go_ret
      exact ⟨by rw [← HLP.out, List.take_length]; rfl, Below.refl _ _⟩
def mostO (nl no : Nat) (s g so go : Nat → Int) : Option Visit := bestV negF none (allPlans nl no s g so go false)
/-- What MostOrders hands back. -/
def mostR (nl no : Nat) (s g so go : Nat → Int) : List Int × Int × Int :=
  if (lotsOk nl s g && ordersOk no so go) = true then (bestL (mostO nl no s g so go), (no : Int) - leastL negF (mostO nl no s g so go), 0) else ([], 0, 1)
theorem allPlans_len {nl no : Nat} {s g so go : Nat → Int} {all : Bool} : ∀ v ∈ allPlans nl no s g so go all, v.1.length = no :=
  visits_mem (P := fun i plan left => plan.length = i) (no := no) (fun i plan left k _ _ _ h => by simp [h]) (fun _ i plan left _ h => by simp [h]) no 0 [] _ (by omega) rfl
theorem bestV_mem {f : Visit → Int} {L : List Visit} {v : Visit} (h : bestV f none L = some v) : v ∈ L := minO_mem h
theorem best_len {f : Visit → Int} {nl no : Nat} {s g so go : Nat → Int} {all : Bool} : (bestL (bestV f none (allPlans nl no s g so go all))).length ≤ no := by
  cases h : bestV f none (allPlans nl no s g so go all) with
  | none => exact Nat.zero_le _
  | some v => exact Nat.le_of_eq (allPlans_len v (bestV_mem h))
theorem mostR_le (nl no : Nat) (s g so go : Nat → Int) : (mostR nl no s g so go).1.length ≤ no := by
  unfold mostR
  split
  · exact best_len
  · exact Nat.zero_le _
theorem most_bd (nl no : Nat) (s g so go : Nat → Int) : 0 ≤ leastL negF (mostO nl no s g so go) ∧ leastL negF (mostO nl no s g so go) ≤ no := by
  cases h : mostO nl no s g so go with
  | none => simp [leastL]
  | some v =>
    have := allPlans_len v (bestV_mem h)
    have h1 := negs_nonneg v.1
    have h2 := negs_le v.1
    simp only [leastL, negF]
    omega
theorem c_lenOrder (A : Option Addr) (n c : Nat) (w : World) : Calls Try.prog 38 #[.slice A n c] w fun u w' => u = .returned (.int .i64 (n : Int)) ∧ w = w' := by
  go_enter Try.func38, Try.ntmps38
  go_wp2
  go_ret
  exact ⟨rfl, rfl⟩
set_option maxHeartbeats 2000000 in
theorem c_iMostOrders (A B : Option Addr) (nl no c c1 : Nat) (s g so go : Nat → Int) (w : World) (hL : LotsAt w A nl s g) (hO : LotsAt w B no so go) (hnl : nl ≤ 1048576) (hno : no ≤ 1048576)
    (hg : ∀ j, j < nl → -32768 ≤ g j ∧ g j ≤ 32767) (hgo : ∀ j, j < no → -32768 ≤ go j ∧ go j ≤ 32767) :
    Calls Try.prog 12 #[.slice A nl c, .slice B no c1] w fun e w' => ∃ v, e = .returned (.tuple #[v, .int .i64 (mostR nl no s g so go).2.1, .int .i64 (mostR nl no s g so go).2.2]) ∧ w'.ownsRow w.heap.size 2 1 v (mostR nl no s g so go).1.length (nums .i64 (mostR nl no s g so go).1) ∧ Below w.heap.size w w' := by
  have c0 := c_areValid A B nl no c c1 s g so go w hL hO hnl hno hg hgo
  have he : ∀ args w, (callFunc 37 args).run Try.prog w = .ok (.enter 37 args) w := enters_of Try.func37 (by kernel_rfl) rfl
  cases q1 : (lotsOk nl s g && ordersOk no so go)
  · have E : Hid (mostR nl no s g so go = ([], 0, 1)) := by rw [Hid, mostR, q1]; rfl
    rw [q1] at c0
    have C0 := Lib.hid c0
    clear c0 hL hO hg hgo q1 he
    go_enter Try.func12, Try.ntmps12
    go_wp2_with (go_at_call 35; ((with_reducible refine C0.out.mono ?_); rintro e w1 ⟨rfl, hb⟩))
    exact bodyPost_ret (v := .tuple #[.slice none 0 0, .int .i64 0, .int .i64 1]) (by simp [results, Try.results12, go_sem]) rfl ⟨_, by rw [E.out], by rw [E.out]; exact own_nil _ _ _ _, hb⟩
  · rw [q1] at c0
    have C0 := Lib.hid c0
    have q12 : lotsOk nl s g = true ∧ ordersOk no so go = true := by simpa only [Bool.and_eq_true] using q1
    obtain ⟨h6, hg'⟩ := lotsOk_bd q12.1
    obtain ⟨h7, hgo'⟩ := ordersOk_bd q12.2
    have E : Hid (mostR nl no s g so go = (bestL (mostO nl no s g so go), (no : Int) - leastL negF (mostO nl no s g so go), 0)) := by rw [Hid, mostR, q1]; rfl
    obtain ⟨b0, b1⟩ := most_bd nl no s g so go
    simp only [mostO] at b0 b1
    have CP := fun w1 (hb : Below w.heap.size w w1) => Lib.hid (c_leastPlan negF A B nl no c c1 false s g so go 37 #[] [] w1 he (fun D P Lf o w _ h2 _ _ hP hG => c_mo1 h7 D P Lf o w h2 hP hG) (hL.below hb) (hO.below hb) h6 h7 hg' hgo' (fun p hp => by simp at hp))
    have CP := Lib.hid CP
    clear c0 hL hO hg hgo q1 q12 hg' hgo' he
    go_enter Try.func12, Try.ntmps12
    go_wp2_with (first
      | (go_at_call 35; ((with_reducible refine C0.out.mono ?_); rintro e w1 ⟨rfl, hb⟩; have HB1 := Lib.hid hb; clear hb))
      | (go_at_call 36; ((refine ((CP.out _ HB1.out).out).mono ?_); rintro e w2 ⟨vb, rfl, hO2, hb2⟩; have HO2 := Lib.hid (own_mono hO2 HB1.out.size); have HB2 := Lib.hid (below_then HB1.out hb2); clear hO2 hb2))
      | (go_at_call 38; ((with_reducible refine (c_lenOrder _ _ _ _).mono ?_); rintro e w3 ⟨rfl, rfl⟩)))
    exact bodyPost_ret (v := .tuple #[vb, .int .i64 ((no : Int) - leastL negF (mostO nl no s g so go)), .int .i64 0]) (by simp [results, Try.results12, go_sem, mostO]) rfl ⟨_, by rw [E.out], by rw [E.out]; exact HO2.out, HB2.out⟩
end Go.Proofs.Ytfdljhepfoppaaa
