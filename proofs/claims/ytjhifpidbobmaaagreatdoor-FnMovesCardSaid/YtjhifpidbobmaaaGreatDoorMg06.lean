/- Texts laid together: PlacesOk, LatPure. -/
import Derived.Test.YtjhifpidbobmaaaGreatDoorMg04
import Derived.Test.YtjhifpidbobmaaaGreatDoorMg05
/- Five places: what can be. -/
namespace Go.Proofs.YtjhifpidbobmaaaGreatDoor
open Go.RowKit
set_option linter.unusedVariables false
set_option linter.unusedSimpArgs false
set_option maxRecDepth 100000

/-- n 32-bit numbers lie at A. -/
structure I32At (w : World) (A : Option Addr) (n : Nat) (z : Nat → Int) : Prop where
  at_ : ∀ j, j < n → ∃ ad, A = some ad ∧ w.cell? (ad.add j) = some (.int .i32 (z j))
theorem I32At.below {w w1 : World} {A : Option Addr} {n : Nat} {z : Nat → Int} (h : I32At w A n z) (hb : Below w.heap.size w w1) : I32At w1 A n z := by
  refine ⟨fun j hj => ?_⟩
  obtain ⟨ad, e, c0⟩ := h.at_ j hj
  exact ⟨ad, e, (hb.cell (World.block_lt_of_cell? w _ c0)).trans c0⟩
def okP1 (x : Int) : Bool := inB x 0 1000000
theorem c_l07Much (x : Int) (w : World) : Calls Tryz.prog 69 #[.int .i64 x] w fun e w' => e = .returned (.bool (okP1 x)) ∧ w = w' := by
  go_enter Tryz.func69, Tryz.ntmps69
  go_wp2_with (go_at_call 50; ((with_reducible refine (c_l00In _ _ _ _).mono ?_); rintro e w1 ⟨rfl, rfl⟩))
  go_ret
  exact ⟨rfl, rfl⟩
theorem c_okI32 (x : Int) (w : World) (hx : -2147483648 ≤ x ∧ x ≤ 2147483647) : Calls Tryz.prog 68 #[.int .i32 x] w fun e w' => e = .returned (.bool (okP1 x)) ∧ Below w.heap.size w w' := by
  obtain ⟨x0, x1⟩ := hx
  go_enter Tryz.func68, Tryz.ntmps68
  go_wp2_with (go_at_call 45; ((with_reducible refine (c_within _ _ _ _).mono ?_); rintro e w1 ⟨rfl, rfl⟩))
  go_ret
  exact ⟨rfl, Below.refl _ _⟩
set_option maxHeartbeats 800000 in
theorem c_indexI32 (F : Nat) (caps : Array Value) (he : ∀ args w, (callFunc F args).run Tryz.prog w = .ok (.enter F args) w) (q : Nat → Bool) (A : Option Addr) (n c : Nat) (z : Nat → Int) (w : World) (h : I32At w A n z) (hn : n ≤ 1048576)
    (hstep : ∀ j, j < n → ∀ w1, Below w.heap.size w w1 → Calls Tryz.prog F (#[.int .i32 (z j)] ++ caps) w1 fun e w2 => e = .returned (.bool (q j)) ∧ Below w1.heap.size w1 w2) :
    Calls Tryz.prog 102 #[.slice A n c, .func (.func F) #[] caps] w fun e w' => ∃ r : Int, e = .returned (.int .i64 r) ∧ decide (0 ≤ r) = (!(allB n fun j => !q j)) ∧ Below w.heap.size w w' := by
  have H := Lib.hid h
  have HS := Lib.hid hstep
  clear h hstep
  go_enter Tryz.func102, Tryz.ntmps102
  go_wp2
  go_loopw [8] (fun i wr => ∃ k : Nat, k ≤ n ∧ i = .int .i64 k ∧ Hid (allB k (fun j => !q j) = true) ∧ Hid (Below w.heap.size w wr)) (fun i _ => n - (intOf i).toNat)
  case atStart => exact ⟨0, by omega, rfl, rfl, Below.refl _ _⟩
  case round =>
    obtain ⟨k, hk, rfl, hI, hB⟩ := hrel
    by_cases hlt : k < n
    · have d1 : decide ((k : Int) < (n : Int)) = true := by simp; omega
      obtain ⟨ad, rfl, c0⟩ := (H.out.below hB.out).at_ k hlt
      have k0 : (0 : Int) ≤ (k : Int) := by omega
      have k1 : (k : Int) < (n : Int) := by omega
      go_wp2
      refine (HS.out k hlt wr hB.out).mono ?_
      rintro e w1 ⟨rfl, hb⟩
      have hB1 := Lib.hid (Below.trans hB.out (hb.mono hB.out.size))
      cases hq : q k
      · have E : Hid (allB (k + 1) (fun j => !q j) = true) := by rw [Hid, allB, hI.out, hq]; rfl
        go_wp2
        go_roundw
        case rel => exact ⟨k + 1, by omega, by go_num, E, hB1⟩
        case measure => simp [intOf]; omega
      · have E := Lib.hid (allB_stop (p := fun j => !q j) (k := k) (n := n) (by simp [hq]) hlt)
        go_wp2
        go_ret
        exact ⟨_, rfl, by rw [E.out]; simp, hB1.out⟩
    · obtain rfl : k = n := by omega
      have d1 : decide ((k : Int) < (k : Int)) = false := by simp
      go_wp2
      go_ret
      exact ⟨_, rfl, by rw [hI.out]; rfl, hB.out⟩
theorem c_areAllI321 (x : Int) (b : Nat) (w : World) (hx : -2147483648 ≤ x ∧ x ≤ 2147483647) (hc : w.cell? ⟨b, 0, none⟩ = some (.func (.func 68) #[] #[])) (hb : b < w.heap.size) :
    Calls Tryz.prog 88 #[.int .i32 x, .pointer (some ⟨b, 0, none⟩)] w fun e w' => e = .returned (.bool (!okP1 x)) ∧ Below w.heap.size w w' := by
  have he : ∀ args w, (callFunc 68 args).run Tryz.prog w = .ok (.enter 68 args) w := enters_of Tryz.func68 (by kernel_rfl) rfl
  have hne : ¬ b = w.heap.size := by omega
  go_enter Tryz.func88, Tryz.ntmps88
  go_wp2_with (go_at_call 68; ((with_reducible refine (c_okI32 _ _ hx).mono ?_); rintro e w1 ⟨rfl, hb⟩))
  go_ret
  exact ⟨rfl, by (repeat (first | with_reducible exact Below.refl _ _ | with_reducible refine below_alloc ?_ _ | with_reducible refine below_drew ?_ | with_reducible refine below_drewN ?_ _ | with_reducible refine below_then ?_ (by assumption)))⟩
theorem c_areAllI32 (A : Option Addr) (n c : Nat) (z : Nat → Int) (w : World) (h : I32At w A n z) (hn : n ≤ 1048576) (hg : ∀ j, j < n → -2147483648 ≤ z j ∧ z j ≤ 2147483647) :
    Calls Tryz.prog 67 #[.slice A n c, .func (.func 68) #[] #[]] w fun e w' => e = .returned (.bool (allB n fun j => okP1 (z j))) ∧ Below w.heap.size w w' := by
  have he : ∀ args w, (callFunc 88 args).run Tryz.prog w = .ok (.enter 88 args) w := enters_of Tryz.func88 (by kernel_rfl) rfl
  have hcell := cell_of_row _ w.heap.size 0 _ _ _ (heap_alloc_new w (.cells #[.func (.func 68) #[] #[]] 99 (0, 0)))
  have hI := c_indexI32 88 #[.pointer (some ⟨w.heap.size, 0, none⟩)] he (fun j => !okP1 (z j)) A n c z (w.alloc (.cells #[.func (.func 68) #[] #[]] 99 (0, 0))) (h.below (by (repeat (first | with_reducible exact Below.refl _ _ | with_reducible refine below_alloc ?_ _ | with_reducible refine below_drew ?_ | with_reducible refine below_drewN ?_ _ | with_reducible refine below_then ?_ (by assumption))))) hn
    (fun j hj w1 hb => c_areAllI321 (z j) w.heap.size w1 (hg j hj) ((hb.cell (p := ⟨w.heap.size, 0, none⟩) (by simp)).trans hcell) (Nat.lt_of_lt_of_le (by simp) hb.size))
  have HI := Lib.hid hI
  have hB : Below w.heap.size w (w.alloc (.cells #[.func (.func 68) #[] #[]] 99 (0, 0))) := by (repeat (first | with_reducible exact Below.refl _ _ | with_reducible refine below_alloc ?_ _ | with_reducible refine below_drew ?_ | with_reducible refine below_drewN ?_ _ | with_reducible refine below_then ?_ (by assumption)))
  have HB := Lib.hid hB
  have EN := allB_not n (fun j => okP1 (z j))
  have HE := Lib.hid EN
  clear hI hcell hB EN
  have HC : Hid (Calls Tryz.prog 87 #[.slice A n c, .func (.func 88) #[] #[.pointer (some ⟨w.heap.size, 0, none⟩)]] (w.alloc (.cells #[.func (.func 68) #[] #[]] 99 (0, 0))) fun e w' => e = .returned (.bool (!(allB n fun j => okP1 (z j)))) ∧ Below w.heap.size w w') := by
    show Calls _ _ _ _ _
    generalize w.alloc (.cells #[.func (.func 68) #[] #[]] 99 (0, 0)) = wa at *
    go_enter Tryz.func87, Tryz.ntmps87
    go_wp2_with (go_at_call 102; ((with_reducible refine HI.out.mono ?_); rintro e w1 ⟨r, rfl, hz, hb⟩; have HZ := Lib.hid hz; clear hz))
    go_ret
    exact ⟨by rw [← HE.out, ← HZ.out]; rfl, Below.trans HB.out (hb.mono HB.out.size)⟩
  clear HI
  go_enter Tryz.func67, Tryz.ntmps67
  go_wp2_with (go_at_call 87; ((with_reducible refine HC.out.mono ?_); rintro e w1 ⟨rfl, hb⟩))
  go_ret
  exact ⟨by simp, hb⟩
theorem c_l07Places (gb : Nat) (p : List Int) (w : World) (hl : p.length = 5) (hb : ∀ j, -2147483648 ≤ gi p j ∧ gi p j ≤ 2147483647) (hc : ∀ j, j < 5 → w.cell? ⟨gb, j, none⟩ = some (.int .i32 (gi p j))) :
    Calls Tryz.prog 40 #[.pointer (some ⟨gb, 0, none⟩)] w fun e w' => e = .returned (.bool (allB 5 fun j => okP1 (gi p j))) ∧ w = w' := by
  have HC := Lib.hid hc
  have HBd := Lib.hid hb
  clear hc hb
  go_enter Tryz.func40, Tryz.ntmps40
  go_wp2
  go_loop [3] (fun i => ∃ k : Nat, k ≤ 5 ∧ i = .int .i64 k ∧ Hid (allB k (fun j => okP1 (gi p j)) = true)) (fun i => 5 - (intOf i).toNat)
  case atStart => exact ⟨0, by omega, rfl, rfl⟩
  case round =>
    obtain ⟨k, hk, rfl, hI⟩ := hrel
    by_cases hlt : k < 5
    · have d1 : decide ((k : Int) < 5) = true := by simp; omega
      have c0 := HC.out k hlt
      obtain ⟨b0, b1⟩ := HBd.out k
      have k0 : (0 : Int) ≤ (k : Int) := by omega
      have k1 : (k : Int) < 5 := by omega
      cases q1 : okP1 (gi p k)
      · have E := Lib.hid (allB_stop (p := fun j => okP1 (gi p j)) (k := k) (n := 5) q1 hlt)
        go_wp2_with (go_at_call 69; ((with_reducible refine (c_l07Much _ _).mono ?_); rintro e w1 ⟨rfl, rfl⟩))
        go_ret
        exact ⟨by rw [E.out]; rfl, rfl⟩
      · have E : Hid (allB (k + 1) (fun j => okP1 (gi p j)) = true) := by rw [Hid, allB, hI.out, q1]; rfl
        go_wp2_with (go_at_call 69; ((with_reducible refine (c_l07Much _ _).mono ?_); rintro e w1 ⟨rfl, rfl⟩))
        go_round
        case rel => exact ⟨k + 1, by omega, by go_num, E⟩
        case measure => simp [intOf]; omega
    · obtain rfl : k = 5 := by omega
      go_wp2
      go_ret
      exact ⟨by rw [hI.out]; rfl, rfl⟩
theorem c_isPlaces (p : List Int) (w : World) (hl : p.length = 5) (hb : ∀ j, -2147483648 ≤ gi p j ∧ gi p j ≤ 2147483647) :
    Calls Tryz.prog 38 #[.agg (nums .i32 p).toArray] w fun e w' => e = .returned (.bool (allB 5 fun j => okP1 (gi p j))) ∧ Below w.heap.size w w' := by
  have hI : I32At (w.alloc (.cells (nums .i32 p).toArray 30 (0, 0))) (some ⟨w.heap.size, 0, none⟩) 5 (fun j => gi p j) := by
    refine ⟨fun j hj => ⟨_, rfl, ?_⟩⟩
    have e : (Addr.add ⟨w.heap.size, 0, none⟩ j) = ⟨w.heap.size, j, none⟩ := by unfold Addr.add; split <;> simp_all
    rw [e]
    exact nums_cell (heap_alloc_new w _) j (by rw [hl]; exact hj)
  have HI := Lib.hid hI
  have HBd : Hid (∀ j, j < 5 → -2147483648 ≤ (fun j => gi p j) j ∧ (fun j => gi p j) j ≤ 2147483647) := fun j _ => hb j
  clear hI hb
  go_enter Tryz.func38, Tryz.ntmps38
  go_wp2_with (go_at_call 67; ((with_reducible refine (c_areAllI32 _ 5 _ (fun j => gi p j) _ HI.out (by decide) HBd.out).mono ?_); rintro e w1 ⟨rfl, hb⟩))
  go_ret
  exact ⟨rfl, by (repeat (first | with_reducible exact Below.refl _ _ | with_reducible refine below_alloc ?_ _ | with_reducible refine below_drew ?_ | with_reducible refine below_drewN ?_ _ | with_reducible refine below_then ?_ (by assumption)))⟩
end Go.Proofs.YtjhifpidbobmaaaGreatDoor
/- The places behind each move, up to the first wrong one: the plain part; one move from larger places. -/
namespace Go.Proofs.YtjhifpidbobmaaaGreatDoor
open Go.RowKit
set_option linter.unusedVariables false
set_option linter.unusedSimpArgs false
set_option maxRecDepth 100000

def atN (p0 : List Int) (s t g : Nat → Int) : Nat → List Int
  | 0 => p0
  | k + 1 => stepP (atN p0 s t g k) (s k) (t k) (g k)
def okFive (p : List Int) : Bool := allB 5 fun j => okP1 (gi p j)
/-- How many moves go well before the first wrong one, of the first n. -/
def goodN (p0 : List Int) (s t g : Nat → Int) : Nat → Nat
  | 0 => 0
  | n + 1 => if goodN p0 s t g n = n ∧ okFive (atN p0 s t g (n + 1)) = true then n + 1 else goodN p0 s t g n
theorem goodN_le (p0 : List Int) (s t g : Nat → Int) : ∀ n, goodN p0 s t g n ≤ n
  | 0 => Nat.le_refl _
  | n + 1 => by
    have := goodN_le p0 s t g n
    unfold goodN
    split <;> omega
theorem goodN_stop {p0 : List Int} {s t g : Nat → Int} {k : Nat} (h : goodN p0 s t g k = k) (h2 : okFive (atN p0 s t g (k + 1)) = false) : ∀ m, k ≤ m → goodN p0 s t g m = k
  | 0, hm => by
    obtain rfl : k = 0 := by omega
    exact h
  | m + 1, hm => by
    by_cases e : k = m + 1
    · subst e; exact h
    · have ih := goodN_stop h h2 m (by omega)
      unfold goodN
      by_cases e2 : k = m
      · subst e2
        rw [if_neg (by rw [h2]; simp), ih]
      · rw [if_neg (by rw [ih]; exact fun c => e2 c.1), ih]
theorem goodN_next {p0 : List Int} {s t g : Nat → Int} {k : Nat} (h : goodN p0 s t g k = k) (h2 : okFive (atN p0 s t g (k + 1)) = true) : goodN p0 s t g (k + 1) = k + 1 := by
  unfold goodN
  rw [if_pos ⟨h, h2⟩]
theorem okFive_bd {p : List Int} (hl : p.length = 5) (h : okFive p = true) : Five p 1000000 := by
  refine ⟨hl, fun i => ?_⟩
  by_cases hi : i < 5
  · have := allB_get h i hi
    simp [okP1, inB] at this
    omega
  · have : gi p i = 0 := by unfold gi; simp [List.getElem?_eq_none (show p.length ≤ i by omega)]
    omega
set_option maxHeartbeats 1000000 in
theorem c_movedW (p : List Int) (a b : Nat) (g : Int) (w : World) (hp : Five p 2000000) (ha : a < 5) (hb : b < 5) (hg : 1 ≤ g ∧ g ≤ 5000) :
    Calls Tryz.prog 35 #[.agg (nums .i32 p).toArray, .agg #[.int .i8 (a : Int), .int .i8 (b : Int), .int .i16 g]] w fun e w' => e = .returned (.agg (nums .i32 (stepP p a b g)).toArray) ∧ Below w.heap.size w w' := by
  obtain ⟨g0, g1⟩ := hg
  have hp1 := hp.addAt a (v := -g) (V := 5000) ha (by omega) (by omega)
  have hp2 := hp1.addAt b (v := g) (V := 5000) hb (by omega) (by omega)
  obtain ⟨v0, v1⟩ := hp.bd a
  obtain ⟨v2, v3⟩ := hp1.bd b
  have HE : Hid (stepP p a b g = (addAtP p a (-g)).set b (gi (addAtP p a (-g)) b + g)) := rfl
  have HE1 : Hid (addAtP p a (-g) = p.set a (gi p a + -g)) := rfl
  have L0 := Lib.hid hp.len
  have L1 := Lib.hid hp1.len
  have L2 := Lib.hid (show (stepP p a b g).length = 5 from hp2.len)
  have HI := Lib.hid (places_info L2.out)
  have a0 : (0 : Int) ≤ (a : Int) := by omega
  have a1 : (a : Int) < 5 := by omega
  have b0 : (0 : Int) ≤ (b : Int) := by omega
  have b1 : (b : Int) < 5 := by omega
  have hA := blk_alloc (blk_alloc (heap_alloc_new w (.cells (nums .i32 p).toArray 30 (0, 0))) (.cells #[.int .i8 (a : Int), .int .i8 (b : Int), .int .i16 g] 46 (0, 0))) (.cells #[.int .i32 0, .int .i32 0, .int .i32 0, .int .i32 0, .int .i32 0] 30 (0, 0))
  have hM := blk_alloc (heap_alloc_new (w.alloc (.cells (nums .i32 p).toArray 30 (0, 0))) (.cells #[.int .i8 (a : Int), .int .i8 (b : Int), .int .i16 g] 46 (0, 0))) (.cells #[.int .i32 0, .int .i32 0, .int .i32 0, .int .i32 0, .int .i32 0] 30 (0, 0))
  have hR := heap_alloc_new ((w.alloc (.cells (nums .i32 p).toArray 30 (0, 0))).alloc (.cells #[.int .i8 (a : Int), .int .i8 (b : Int), .int .i16 g] 46 (0, 0))) (.cells #[.int .i32 0, .int .i32 0, .int .i32 0, .int .i32 0, .int .i32 0] 30 (0, 0))
  rw [World.size_alloc] at hM
  rw [World.size_alloc, World.size_alloc] at hR
  clear hp hp1 hp2
  go_enter Tryz.func35, Tryz.ntmps35
  go_wp2
  have hB : Below w.heap.size w (((w.alloc (.cells (nums .i32 p).toArray 30 (0, 0))).alloc (.cells #[.int .i8 (a : Int), .int .i8 (b : Int), .int .i16 g] 46 (0, 0))).alloc (.cells #[.int .i32 0, .int .i32 0, .int .i32 0, .int .i32 0, .int .i32 0] 30 (0, 0))) := by (repeat (first | with_reducible exact Below.refl _ _ | with_reducible refine below_alloc ?_ _ | with_reducible refine below_drew ?_ | with_reducible refine below_drewN ?_ _ | with_reducible refine below_then ?_ (by assumption)))
  generalize ((w.alloc (.cells (nums .i32 p).toArray 30 (0, 0))).alloc (.cells #[.int .i8 (a : Int), .int .i8 (b : Int), .int .i16 g] 46 (0, 0))).alloc (.cells #[.int .i32 0, .int .i32 0, .int .i32 0, .int .i32 0, .int .i32 0] 30 (0, 0)) = wa at *
  have m0 : wa.cell? ⟨w.heap.size + 1, 0, none⟩ = some (.int .i8 (a : Int)) := cell_of_row wa _ 0 _ _ _ hM
  have m1 : wa.cell? ⟨w.heap.size + 1, 1, none⟩ = some (.int .i8 (b : Int)) := cell_of_row wa _ 1 _ _ _ hM
  have m2 : wa.cell? ⟨w.heap.size + 1, 2, none⟩ = some (.int .i16 g) := cell_of_row wa _ 2 _ _ _ hM
  have ca := nums_cell hA a (by rw [L0.out]; exact ha)
  have fa := blk_frozen hA a
  have HA := Lib.hid hA
  have HM := Lib.hid hM
  have HR := Lib.hid hR
  have HB := Lib.hid hB
  clear hA hM hR hB
  go_still_tail 9, (by kernel_rfl)
  change wpList _ _ _ _ _ wa.drew
  have HAd : Hid (wa.drew.heap[w.heap.size]? = some (.cells (nums .i32 p).toArray 30 (0, 0))) := HA.out
  have HMd : Hid (wa.drew.heap[w.heap.size + 1]? = some (.cells #[.int .i8 (a : Int), .int .i8 (b : Int), .int .i16 g] 46 (0, 0))) := HM.out
  have HRd : Hid (wa.drew.heap[w.heap.size + 1 + 1]? = some (.cells #[.int .i32 0, .int .i32 0, .int .i32 0, .int .i32 0, .int .i32 0] 30 (0, 0))) := HR.out
  have HBd : Hid (Below w.heap.size w wa.drew) := below_drew HB.out
  have ca' : wa.drew.cell? ⟨w.heap.size, a, none⟩ = some (.int .i32 (gi p a)) := ca
  have fa' : wa.drew.frozen? ⟨w.heap.size, a, none⟩ = false := fa
  clear m0 m1 m2 ca fa HA HM HR HB
  generalize wa.drew = wd at *
  go_wp2
  have hA : (wd.setCell ⟨w.heap.size, a, none⟩ (.int .i32 (gi p a - g))).heap[w.heap.size]? = some (.cells (nums .i32 (addAtP p a (-g))).toArray 30 (0, 0)) := by
    have := blk_set HAd.out a (.int .i32 (gi p a - g))
    rw [nums_set, Int.sub_eq_add_neg] at this
    rw [Int.sub_eq_add_neg]
    exact this
  have hM := blk_far HMd.out (show w.heap.size + 1 ≠ w.heap.size by omega) a (.int .i32 (gi p a - g))
  have hR := blk_far HRd.out (show w.heap.size + 1 + 1 ≠ w.heap.size by omega) a (.int .i32 (gi p a - g))
  have hB : Below w.heap.size w (wd.setCell ⟨w.heap.size, a, none⟩ (.int .i32 (gi p a - g))) := HBd.out.setCell (by simp) _
  clear ca' fa'
  generalize wd.setCell ⟨w.heap.size, a, none⟩ (.int .i32 (gi p a - g)) = wb at *
  have m0 : wb.cell? ⟨w.heap.size + 1, 0, none⟩ = some (.int .i8 (a : Int)) := cell_of_row wb _ 0 _ _ _ hM
  have m1 : wb.cell? ⟨w.heap.size + 1, 1, none⟩ = some (.int .i8 (b : Int)) := cell_of_row wb _ 1 _ _ _ hM
  have m2 : wb.cell? ⟨w.heap.size + 1, 2, none⟩ = some (.int .i16 g) := cell_of_row wb _ 2 _ _ _ hM
  have cb := nums_cell hA b (by rw [L1.out]; exact hb)
  have fb := blk_frozen hA b
  have HA := Lib.hid hA
  have HM := Lib.hid hM
  have HR := Lib.hid hR
  have HB := Lib.hid hB
  clear hA hM hR hB HAd HMd HRd HBd
  generalize hq : addAtP p a (-g) = p1 at *
  go_still_tail 9, (by kernel_rfl)
  change wpList _ _ _ _ _ wb.drew
  have HA' : Hid (wb.drew.heap[w.heap.size]? = some (.cells (nums .i32 p1).toArray 30 (0, 0))) := HA.out
  have HR' : Hid (wb.drew.heap[w.heap.size + 1 + 1]? = some (.cells #[.int .i32 0, .int .i32 0, .int .i32 0, .int .i32 0, .int .i32 0] 30 (0, 0))) := HR.out
  have HB' : Hid (Below w.heap.size w wb.drew) := below_drew HB.out
  have cb' : wb.drew.cell? ⟨w.heap.size, b, none⟩ = some (.int .i32 (gi p1 b)) := cb
  have fb' : wb.drew.frozen? ⟨w.heap.size, b, none⟩ = false := fb
  clear m0 m1 m2 cb fb HA HM HR HB
  generalize wb.drew = we at *
  have hA2 : (we.setCell ⟨w.heap.size, b, none⟩ (.int .i32 (gi p1 b + g))).heap[w.heap.size]? = some (.cells (nums .i32 (stepP p a b g)).toArray 30 (0, 0)) := by
    have := blk_set HA'.out b (.int .i32 (gi p1 b + g))
    rw [nums_set] at this
    rw [HE.out]
    exact this
  have HRd : Hid ((we.setCell ⟨w.heap.size, b, none⟩ (.int .i32 (gi p1 b + g))).heap[w.heap.size + 1 + 1]? = some (.cells #[.int .i32 0, .int .i32 0, .int .i32 0, .int .i32 0, .int .i32 0] 30 (0, 0))) := blk_far HR'.out (by omega) b _
  have HBd : Hid (Below w.heap.size w (we.setCell ⟨w.heap.size, b, none⟩ (.int .i32 (gi p1 b + g)))) := HB'.out.setCell (by simp) _
  have HA2 := Lib.hid hA2
  clear hA2 HA' HR' HB'
  go_wp2_with (first
    | (refine wpList_load_row rfl 30 (.tmp 2) rfl (w.heap.size) rfl 30 (nums .i32 (stepP p a b g)).toArray (0, 0) _ ?_ Tryz.underlying30 rfl HI.out ?_; (with_reducible exact HA2.out))
    | (refine ev_store_row rfl 30 (.tmp 4) (.tmp 23) rfl (w.heap.size + 1 + 1) (nums .i32 (stepP p a b g)).toArray rfl rfl 30 #[.int .i32 0, .int .i32 0, .int .i32 0, .int .i32 0, .int .i32 0] ?_ HI.out (by simp [nums, L2.out]) (nums_one _ _) ?_; (with_reducible exact HRd.out); intro w1 hblk ht; have HR3 := Lib.hid hblk; have HB3 : Hid (Below w.heap.size w w1) := HBd.out.trans (ht.below (by omega)); clear hblk))
  refine bodyPost_ret (v := .agg (nums .i32 (stepP p a b g)).toArray) (results_cell_row rfl _ _ (w.heap.size + 1 + 1) 30 (nums .i32 (stepP p a b g)).toArray (0, 0) _ rfl (by with_reducible exact HR3.out) Tryz.underlying30 rfl HI.out) rfl ⟨rfl, HB3.out⟩
end Go.Proofs.YtjhifpidbobmaaaGreatDoor
