/- Texts laid together: MoveLaw, NetBase. -/
import Derived.Test.YtjhifpidbobmaaaGreatDoorMg04
/- Moves: the implementation's test, and the law. -/
namespace Go.Proofs.YtjhifpidbobmaaaGreatDoor
open Go.RowKit
set_option linter.unusedVariables false
set_option linter.unusedSimpArgs false
set_option maxRecDepth 100000

theorem c_okMove (s t g : Int) (w : World) (hg : (-32768 ≤ g ∧ g ≤ 32767) ∧ (-128 ≤ s ∧ s ≤ 127) ∧ (-128 ≤ t ∧ t ≤ 127)) :
    Calls Tryz.prog 44 #[.agg #[.int .i8 s, .int .i8 t, .int .i16 g]] w fun e w' => e = .returned (.bool (okMove s t g)) ∧ Below w.heap.size w w' := by
  obtain ⟨⟨g0, g1⟩, ⟨s0, s1⟩, ⟨t0, t1⟩⟩ := hg
  cases q1 : mayMove s t
  · go_enter Tryz.func44, Tryz.ntmps44
    go_wp2_with (first | (go_at_call 25; ((with_reducible refine (c_iMayMove _ _ _).mono ?_); rintro e w1 ⟨rfl, rfl⟩)) | (go_at_call 45; ((with_reducible refine (c_within _ _ _ _).mono ?_); rintro e w1 ⟨rfl, rfl⟩)))
    go_ret
    exact ⟨by rw [okMove, q1]; rfl, by (repeat (first | with_reducible exact Below.refl _ _ | with_reducible refine below_alloc ?_ _ | with_reducible refine below_drew ?_ | with_reducible refine below_drewN ?_ _ | with_reducible refine below_then ?_ (by assumption)))⟩
  · go_enter Tryz.func44, Tryz.ntmps44
    go_wp2_with (first | (go_at_call 25; ((with_reducible refine (c_iMayMove _ _ _).mono ?_); rintro e w1 ⟨rfl, rfl⟩)) | (go_at_call 45; ((with_reducible refine (c_within _ _ _ _).mono ?_); rintro e w1 ⟨rfl, rfl⟩)))
    go_ret
    exact ⟨by rw [okMove, q1]; rfl, by (repeat (first | with_reducible exact Below.refl _ _ | with_reducible refine below_alloc ?_ _ | with_reducible refine below_drew ?_ | with_reducible refine below_drewN ?_ _ | with_reducible refine below_then ?_ (by assumption)))⟩
theorem c_areAllMove1 (s t g : Int) (b : Nat) (w : World) (hg : (-32768 ≤ g ∧ g ≤ 32767) ∧ (-128 ≤ s ∧ s ≤ 127) ∧ (-128 ≤ t ∧ t ≤ 127)) (hc : w.cell? ⟨b, 0, none⟩ = some (.func (.func 44) #[] #[])) (hb : b < w.heap.size) :
    Calls Tryz.prog 71 #[.agg #[.int .i8 s, .int .i8 t, .int .i16 g], .pointer (some ⟨b, 0, none⟩)] w fun e w' => e = .returned (.bool (!okMove s t g)) ∧ Below w.heap.size w w' := by
  have he : ∀ args w, (callFunc 44 args).run Tryz.prog w = .ok (.enter 44 args) w := enters_of Tryz.func44 (by kernel_rfl) rfl
  have hne : ¬ b = w.heap.size := by omega
  go_enter Tryz.func71, Tryz.ntmps71
  go_wp2_with (go_at_call 44; ((with_reducible refine (c_okMove _ _ _ _ hg).mono ?_); rintro e w1 ⟨rfl, hb⟩))
  go_ret
  exact ⟨rfl, by (repeat (first | with_reducible exact Below.refl _ _ | with_reducible refine below_alloc ?_ _ | with_reducible refine below_drew ?_ | with_reducible refine below_drewN ?_ _ | with_reducible refine below_then ?_ (by assumption)))⟩
theorem c_areAllMove (A : Option Addr) (n c : Nat) (s t g : Nat → Int) (w : World) (h : MovesAt w A n s t g) (hn : n ≤ 1048576) (hg : ∀ j, j < n → (-32768 ≤ g j ∧ g j ≤ 32767) ∧ (-128 ≤ s j ∧ s j ≤ 127) ∧ (-128 ≤ t j ∧ t j ≤ 127)) :
    Calls Tryz.prog 43 #[.slice A n c, .func (.func 44) #[] #[]] w fun e w' => e = .returned (.bool (allB n fun j => okMove (s j) (t j) (g j))) ∧ Below w.heap.size w w' := by
  have he : ∀ args w, (callFunc 71 args).run Tryz.prog w = .ok (.enter 71 args) w := enters_of Tryz.func71 (by kernel_rfl) rfl
  have hcell := cell_of_row _ w.heap.size 0 _ _ _ (heap_alloc_new w (.cells #[.func (.func 44) #[] #[]] 73 (0, 0)))
  have hI := c_indexMove 71 #[.pointer (some ⟨w.heap.size, 0, none⟩)] he (fun j => !okMove (s j) (t j) (g j)) A n c s t g (w.alloc (.cells #[.func (.func 44) #[] #[]] 73 (0, 0))) (h.below (by (repeat (first | with_reducible exact Below.refl _ _ | with_reducible refine below_alloc ?_ _ | with_reducible refine below_drew ?_ | with_reducible refine below_drewN ?_ _ | with_reducible refine below_then ?_ (by assumption))))) hn
    (fun j hj w1 hb => c_areAllMove1 (s j) (t j) (g j) w.heap.size w1 (hg j hj) ((hb.cell (p := ⟨w.heap.size, 0, none⟩) (by simp)).trans hcell) (Nat.lt_of_lt_of_le (by simp) hb.size))
  have HI := Lib.hid hI
  have hB : Below w.heap.size w (w.alloc (.cells #[.func (.func 44) #[] #[]] 73 (0, 0))) := by (repeat (first | with_reducible exact Below.refl _ _ | with_reducible refine below_alloc ?_ _ | with_reducible refine below_drew ?_ | with_reducible refine below_drewN ?_ _ | with_reducible refine below_then ?_ (by assumption)))
  have HB := Lib.hid hB
  have EN := allB_not n (fun j => okMove (s j) (t j) (g j))
  have HE := Lib.hid EN
  clear hI hcell hB EN
  have HC : Hid (Calls Tryz.prog 70 #[.slice A n c, .func (.func 71) #[] #[.pointer (some ⟨w.heap.size, 0, none⟩)]] (w.alloc (.cells #[.func (.func 44) #[] #[]] 73 (0, 0))) fun e w' => e = .returned (.bool (!(allB n fun j => okMove (s j) (t j) (g j)))) ∧ Below w.heap.size w w') := by
    show Calls _ _ _ _ _
    generalize w.alloc (.cells #[.func (.func 44) #[] #[]] 73 (0, 0)) = wa at *
    go_enter Tryz.func70, Tryz.ntmps70
    go_wp2_with (go_at_call 89; ((with_reducible refine HI.out.mono ?_); rintro e w1 ⟨z, rfl, hz, hb⟩; have HZ := Lib.hid hz; clear hz))
    go_ret
    exact ⟨by rw [← HE.out, ← HZ.out]; rfl, Below.trans HB.out (hb.mono HB.out.size)⟩
  clear HI
  go_enter Tryz.func43, Tryz.ntmps43
  go_wp2_with (go_at_call 70; ((with_reducible refine HC.out.mono ?_); rintro e w1 ⟨rfl, hb⟩))
  go_ret
  exact ⟨by simp, hb⟩
theorem c_iValidMoves (A : Option Addr) (n c : Nat) (s t g : Nat → Int) (w : World) (h : MovesAt w A n s t g) (hn : n ≤ 1048576) (hg : ∀ j, j < n → (-32768 ≤ g j ∧ g j ≤ 32767) ∧ (-128 ≤ s j ∧ s j ≤ 127) ∧ (-128 ≤ t j ∧ t j ≤ 127)) :
    Calls Tryz.prog 18 #[.slice A n c] w fun e w' => e = .returned (.bool (allB n (fun j => okMove (s j) (t j) (g j)) && decide (n ≤ 60))) ∧ Below w.heap.size w w' := by
  by_cases h6 : n ≤ 60
  · have d1 : decide ((n : Int) ≤ 60) = true := by simp; omega
    have E : Hid (decide (n ≤ 60) = true) := by simp [Hid, h6]
    go_enter Tryz.func18, Tryz.ntmps18
    go_wp2_with (go_at_call 43; ((with_reducible refine (c_areAllMove A n c s t g _ h hn hg).mono ?_); rintro e w1 ⟨rfl, hb⟩))
    go_ret
    exact ⟨by first | (rw [E.out, Bool.and_true]; rfl) | (simp only [E.out, Bool.and_true]; rfl) | simp, hb⟩
  · have d1 : decide ((n : Int) ≤ 60) = false := by simp; omega
    have E : Hid (decide (n ≤ 60) = false) := by simp [Hid, h6]
    go_enter Tryz.func18, Tryz.ntmps18
    go_wp2
    go_ret
    exact ⟨by first | (rw [E.out, Bool.and_false]; rfl) | simp, by (repeat (first | with_reducible exact Below.refl _ _ | with_reducible refine below_alloc ?_ _ | with_reducible refine below_drew ?_ | with_reducible refine below_drewN ?_ _ | with_reducible refine below_then ?_ (by assumption)))⟩
theorem moves_of {W : World} {A : Option Addr} : ∀ {es : List (List Value)}, (∀ c ∈ es, IntCells [.i8, .i8, .i16] c) → ∃ zs : List (Int × Int × Int), es = zs.map (fun z => [Value.int .i8 z.1, Value.int .i8 z.2.1, Value.int .i16 z.2.2]) ∧ ∀ z ∈ zs, (-32768 ≤ z.2.2 ∧ z.2.2 ≤ 32767) ∧ (-128 ≤ z.1 ∧ z.1 ≤ 127) ∧ (-128 ≤ z.2.1 ∧ z.2.1 ≤ 127)
  | [], _ => ⟨[], rfl, by simp⟩
  | c :: es, h => by
    obtain ⟨a0, a1, a2, e, w0, w1, w2⟩ := intCells3 (h c (by simp))
    obtain ⟨zs, h1, h2⟩ := moves_of (W := W) (A := A) (es := es) (fun c hc => h c (by simp [hc]))
    refine ⟨(a0, a1, a2) :: zs, by rw [e, h1]; rfl, fun z hz => ?_⟩
    rcases List.mem_cons.1 hz with rfl | hz
    · exact ⟨wf_i16 w2, wf_i8 w0, wf_i8 w1⟩
    · exact h2 z hz
theorem movesAt_of {W : World} {A : Option Addr} {zs : List (Int × Int × Int)} (h : RdRow W A (zs.map (fun z => [Value.int .i8 z.1, Value.int .i8 z.2.1, Value.int .i16 z.2.2])).flatten) : MovesAt W A zs.length (fun j => (zs.getD j (0, 0, 0)).1) (fun j => (zs.getD j (0, 0, 0)).2.1) (fun j => (zs.getD j (0, 0, 0)).2.2) := by
  refine ⟨fun j hj => ?_⟩
  have hf := flatten_get (sz := 3) (es := zs.map (fun z => [Value.int .i8 z.1, Value.int .i8 z.2.1, Value.int .i16 z.2.2])) (by intro c hc; obtain ⟨z, _, rfl⟩ := List.mem_map.1 hc; rfl) j (by simpa using hj)
  have g0 := hf 0 (by omega)
  have g1 := hf 1 (by omega)
  have g2 := hf 2 (by omega)
  have ez : zs[j]? = some (zs[j]'hj) := by simp [hj]
  have ed : zs.getD j (0, 0, 0) = zs[j]'hj := by simp [List.getD, ez]
  simp [ez] at g0 g1 g2
  obtain ⟨ad, e, c0⟩ := h _ _ g0
  obtain ⟨ad', e', c1⟩ := h _ _ g1
  obtain ⟨ad2, e2, c2⟩ := h _ _ g2
  have hadd : ad' = ad := by rw [e] at e'; exact (Option.some.inj e').symm
  have hadd2 : ad2 = ad := by rw [e] at e2; exact (Option.some.inj e2).symm
  subst hadd
  subst hadd2
  have e1 : ∀ m, m ≠ 0 → ad2.add (j * 3 + m) = ⟨(ad2.add (j * 3)).block, (ad2.add (j * 3)).off + m, none⟩ := by
    intro m hm
    unfold Addr.add
    by_cases hj0 : j * 3 = 0
    · rw [if_pos hj0, if_neg (by omega), hj0, Nat.zero_add]
    · rw [if_neg hj0, if_neg (by omega)]; simp [Nat.add_assoc]
  refine ⟨ad2, e, by rw [ed]; exact c0, ?_, ?_⟩
  · rw [ed, ← e1 1 (by omega)]
    exact c1
  · rw [ed, ← e1 2 (by omega)]
    exact c2
end Go.Proofs.YtjhifpidbobmaaaGreatDoor
/- By how much each place has more behind all moves. -/
namespace Go.Proofs.YtjhifpidbobmaaaGreatDoor
open Go.RowKit
set_option linter.unusedVariables false
set_option linter.unusedSimpArgs false
set_option maxRecDepth 100000

theorem gi_setP {xs : List Int} {i j : Nat} (v : Int) (hi : i < xs.length) : gi (xs.set i v) j = if j = i then v else gi xs j := by
  unfold gi
  by_cases h : j = i
  · subst h; simp [hi]
  · simp [h, List.getElem?_set, Ne.symm h]
def addAtP (p : List Int) (a : Nat) (v : Int) : List Int := p.set a (gi p a + v)
def stepP (p : List Int) (s t g : Int) : List Int := addAtP (addAtP p s.toNat (-g)) t.toNat g
def netN (s t g : Nat → Int) : Nat → List Int
  | 0 => [0, 0, 0, 0, 0]
  | k + 1 => stepP (netN s t g k) (s k) (t k) (g k)
/-- Five numbers, none past B. -/
structure Five (p : List Int) (B : Int) : Prop where
  len : p.length = 5
  bd : ∀ i, -B ≤ gi p i ∧ gi p i ≤ B
theorem Five.addAt {p : List Int} {B v V : Int} (h : Five p B) (a : Nat) (ha : a < 5) (hB : 0 ≤ V) (hv : -V ≤ v ∧ v ≤ V) : Five (addAtP p a v) (B + V) := by
  refine ⟨by simp [addAtP, h.len], fun i => ?_⟩
  rw [addAtP, gi_setP _ (by rw [h.len]; exact ha)]
  have h1 := h.bd a
  have h2 := h.bd i
  split <;> omega
theorem okMove_all {s t g : Int} (h : okMove s t g = true) : (0 ≤ s ∧ s < 5) ∧ (0 ≤ t ∧ t < 5) ∧ 1 ≤ g ∧ g ≤ 5000 := by
  simp [okMove, mayMove, inB] at h
  omega
theorem netN_five {s t g : Nat → Int} {n : Nat} (h : ∀ j, j < n → okMove (s j) (t j) (g j) = true) : ∀ k, k ≤ n → Five (netN s t g k) (10000 * k)
  | 0, _ => ⟨rfl, fun i => by
      have : gi (netN s t g 0) i = 0 := by
        simp only [netN, gi]
        match i with
        | 0 => rfl
        | 1 => rfl
        | 2 => rfl
        | 3 => rfl
        | 4 => rfl
        | i + 5 => rfl
      omega⟩
  | k + 1, hk => by
    have h1 := netN_five h k (by omega)
    obtain ⟨hs, ht, hg⟩ := okMove_all (h k (by omega))
    have h2 := h1.addAt (s k).toNat (v := -(g k)) (V := 5000) (by omega) (by omega) (by omega)
    have h3 := h2.addAt (t k).toNat (v := g k) (V := 5000) (by omega) (by omega) (by omega)
    refine ⟨h3.len, fun i => ?_⟩
    have := h3.bd i
    show -(10000 * ((k + 1 : Nat) : Int)) ≤ gi (addAtP (addAtP (netN s t g k) (s k).toNat (-(g k))) (t k).toNat (g k)) i ∧ _
    constructor
    · omega
    · show gi (addAtP (addAtP (netN s t g k) (s k).toNat (-(g k))) (t k).toNat (g k)) i ≤ _
      omega
theorem places_info {p : List Int} (h : p.length = 5) : (Tryz.prog.info? 30).map (·.size) = some (nums .i32 p).toArray.size := by
  have e : (Tryz.prog.info? 30).map (·.size) = some 5 := by kernel_rfl
  rw [e]; simp [nums, h]

set_option maxHeartbeats 1000000 in
theorem c_moved (p : List Int) (a b : Nat) (g : Int) (w : World) (hp : Five p 610000) (ha : a < 5) (hb : b < 5) (hg : 1 ≤ g ∧ g ≤ 5000) :
    Calls Tryz.prog 35 #[.agg (nums .i32 p).toArray, .agg #[.int .i8 (a : Int), .int .i8 (b : Int), .int .i16 g]] w fun e w' => e = .returned (.agg (nums .i32 (stepP p a b g)).toArray) ∧ Below w.heap.size w w' := by
  obtain ⟨g0, g1⟩ := hg
  have hp1 := hp.addAt a (v := -g) (V := 5000) ha (by omega) (by omega)
  have hp2 := hp1.addAt b (v := g) (V := 5000) hb (by omega) (by omega)
  obtain ⟨v0, v1⟩ := hp.bd a
  obtain ⟨v2, v3⟩ := hp1.bd b
  have HE : Hid (stepP p a b g = (addAtP p a (-g)).set b (gi (addAtP p a (-g)) b + g)) := rfl
  have HE1 : Hid (addAtP p a (-g) = p.set a (gi p a + -g)) := rfl
  have L0 := Lib.hid hp.len
  have L1 := Lib.hid hp1.len
  have L2 := Lib.hid (show (stepP p a b g).length = 5 from hp2.len)
  have HI := Lib.hid (places_info L2.out)
  have a0 : (0 : Int) ≤ (a : Int) := by omega
  have a1 : (a : Int) < 5 := by omega
  have b0 : (0 : Int) ≤ (b : Int) := by omega
  have b1 : (b : Int) < 5 := by omega
  have hA := blk_alloc (blk_alloc (heap_alloc_new w (.cells (nums .i32 p).toArray 30 (0, 0))) (.cells #[.int .i8 (a : Int), .int .i8 (b : Int), .int .i16 g] 46 (0, 0))) (.cells #[.int .i32 0, .int .i32 0, .int .i32 0, .int .i32 0, .int .i32 0] 30 (0, 0))
  have hM := blk_alloc (heap_alloc_new (w.alloc (.cells (nums .i32 p).toArray 30 (0, 0))) (.cells #[.int .i8 (a : Int), .int .i8 (b : Int), .int .i16 g] 46 (0, 0))) (.cells #[.int .i32 0, .int .i32 0, .int .i32 0, .int .i32 0, .int .i32 0] 30 (0, 0))
  have hR := heap_alloc_new ((w.alloc (.cells (nums .i32 p).toArray 30 (0, 0))).alloc (.cells #[.int .i8 (a : Int), .int .i8 (b : Int), .int .i16 g] 46 (0, 0))) (.cells #[.int .i32 0, .int .i32 0, .int .i32 0, .int .i32 0, .int .i32 0] 30 (0, 0))
  rw [World.size_alloc] at hM
  rw [World.size_alloc, World.size_alloc] at hR
  clear hp hp1 hp2
  go_enter Tryz.func35, Tryz.ntmps35
  go_wp2
  have hB : Below w.heap.size w (((w.alloc (.cells (nums .i32 p).toArray 30 (0, 0))).alloc (.cells #[.int .i8 (a : Int), .int .i8 (b : Int), .int .i16 g] 46 (0, 0))).alloc (.cells #[.int .i32 0, .int .i32 0, .int .i32 0, .int .i32 0, .int .i32 0] 30 (0, 0))) := by (repeat (first | with_reducible exact Below.refl _ _ | with_reducible refine below_alloc ?_ _ | with_reducible refine below_drew ?_ | with_reducible refine below_drewN ?_ _ | with_reducible refine below_then ?_ (by assumption)))
  generalize ((w.alloc (.cells (nums .i32 p).toArray 30 (0, 0))).alloc (.cells #[.int .i8 (a : Int), .int .i8 (b : Int), .int .i16 g] 46 (0, 0))).alloc (.cells #[.int .i32 0, .int .i32 0, .int .i32 0, .int .i32 0, .int .i32 0] 30 (0, 0)) = wa at *
  have m0 : wa.cell? ⟨w.heap.size + 1, 0, none⟩ = some (.int .i8 (a : Int)) := cell_of_row wa _ 0 _ _ _ hM
  have m1 : wa.cell? ⟨w.heap.size + 1, 1, none⟩ = some (.int .i8 (b : Int)) := cell_of_row wa _ 1 _ _ _ hM
  have m2 : wa.cell? ⟨w.heap.size + 1, 2, none⟩ = some (.int .i16 g) := cell_of_row wa _ 2 _ _ _ hM
  have ca := nums_cell hA a (by rw [L0.out]; exact ha)
  have fa := blk_frozen hA a
  have HA := Lib.hid hA
  have HM := Lib.hid hM
  have HR := Lib.hid hR
  have HB := Lib.hid hB
  clear hA hM hR hB
  go_still_tail 9, (by kernel_rfl)
  change wpList _ _ _ _ _ wa.drew
  have HAd : Hid (wa.drew.heap[w.heap.size]? = some (.cells (nums .i32 p).toArray 30 (0, 0))) := HA.out
  have HMd : Hid (wa.drew.heap[w.heap.size + 1]? = some (.cells #[.int .i8 (a : Int), .int .i8 (b : Int), .int .i16 g] 46 (0, 0))) := HM.out
  have HRd : Hid (wa.drew.heap[w.heap.size + 1 + 1]? = some (.cells #[.int .i32 0, .int .i32 0, .int .i32 0, .int .i32 0, .int .i32 0] 30 (0, 0))) := HR.out
  have HBd : Hid (Below w.heap.size w wa.drew) := below_drew HB.out
  have ca' : wa.drew.cell? ⟨w.heap.size, a, none⟩ = some (.int .i32 (gi p a)) := ca
  have fa' : wa.drew.frozen? ⟨w.heap.size, a, none⟩ = false := fa
  clear m0 m1 m2 ca fa HA HM HR HB
  generalize wa.drew = wd at *
  go_wp2
  have hA : (wd.setCell ⟨w.heap.size, a, none⟩ (.int .i32 (gi p a - g))).heap[w.heap.size]? = some (.cells (nums .i32 (addAtP p a (-g))).toArray 30 (0, 0)) := by
    have := blk_set HAd.out a (.int .i32 (gi p a - g))
    rw [nums_set, Int.sub_eq_add_neg] at this
    rw [Int.sub_eq_add_neg]
    exact this
  have hM := blk_far HMd.out (show w.heap.size + 1 ≠ w.heap.size by omega) a (.int .i32 (gi p a - g))
  have hR := blk_far HRd.out (show w.heap.size + 1 + 1 ≠ w.heap.size by omega) a (.int .i32 (gi p a - g))
  have hB : Below w.heap.size w (wd.setCell ⟨w.heap.size, a, none⟩ (.int .i32 (gi p a - g))) := HBd.out.setCell (by simp) _
  clear ca' fa'
  generalize wd.setCell ⟨w.heap.size, a, none⟩ (.int .i32 (gi p a - g)) = wb at *
  have m0 : wb.cell? ⟨w.heap.size + 1, 0, none⟩ = some (.int .i8 (a : Int)) := cell_of_row wb _ 0 _ _ _ hM
  have m1 : wb.cell? ⟨w.heap.size + 1, 1, none⟩ = some (.int .i8 (b : Int)) := cell_of_row wb _ 1 _ _ _ hM
  have m2 : wb.cell? ⟨w.heap.size + 1, 2, none⟩ = some (.int .i16 g) := cell_of_row wb _ 2 _ _ _ hM
  have cb := nums_cell hA b (by rw [L1.out]; exact hb)
  have fb := blk_frozen hA b
  have HA := Lib.hid hA
  have HM := Lib.hid hM
  have HR := Lib.hid hR
  have HB := Lib.hid hB
  clear hA hM hR hB HAd HMd HRd HBd
  generalize hq : addAtP p a (-g) = p1 at *
  go_still_tail 9, (by kernel_rfl)
  change wpList _ _ _ _ _ wb.drew
  have HA' : Hid (wb.drew.heap[w.heap.size]? = some (.cells (nums .i32 p1).toArray 30 (0, 0))) := HA.out
  have HR' : Hid (wb.drew.heap[w.heap.size + 1 + 1]? = some (.cells #[.int .i32 0, .int .i32 0, .int .i32 0, .int .i32 0, .int .i32 0] 30 (0, 0))) := HR.out
  have HB' : Hid (Below w.heap.size w wb.drew) := below_drew HB.out
  have cb' : wb.drew.cell? ⟨w.heap.size, b, none⟩ = some (.int .i32 (gi p1 b)) := cb
  have fb' : wb.drew.frozen? ⟨w.heap.size, b, none⟩ = false := fb
  clear m0 m1 m2 cb fb HA HM HR HB
  generalize wb.drew = we at *
  have hA2 : (we.setCell ⟨w.heap.size, b, none⟩ (.int .i32 (gi p1 b + g))).heap[w.heap.size]? = some (.cells (nums .i32 (stepP p a b g)).toArray 30 (0, 0)) := by
    have := blk_set HA'.out b (.int .i32 (gi p1 b + g))
    rw [nums_set] at this
    rw [HE.out]
    exact this
  have HRd : Hid ((we.setCell ⟨w.heap.size, b, none⟩ (.int .i32 (gi p1 b + g))).heap[w.heap.size + 1 + 1]? = some (.cells #[.int .i32 0, .int .i32 0, .int .i32 0, .int .i32 0, .int .i32 0] 30 (0, 0))) := blk_far HR'.out (by omega) b _
  have HBd : Hid (Below w.heap.size w (we.setCell ⟨w.heap.size, b, none⟩ (.int .i32 (gi p1 b + g)))) := HB'.out.setCell (by simp) _
  have HA2 := Lib.hid hA2
  clear hA2 HA' HR' HB'
  go_wp2_with (first
    | (refine wpList_load_row rfl 30 (.tmp 2) rfl (w.heap.size) rfl 30 (nums .i32 (stepP p a b g)).toArray (0, 0) _ ?_ Tryz.underlying30 rfl HI.out ?_; (with_reducible exact HA2.out))
    | (refine ev_store_row rfl 30 (.tmp 4) (.tmp 23) rfl (w.heap.size + 1 + 1) (nums .i32 (stepP p a b g)).toArray rfl rfl 30 #[.int .i32 0, .int .i32 0, .int .i32 0, .int .i32 0, .int .i32 0] ?_ HI.out (by simp [nums, L2.out]) (nums_one _ _) ?_; (with_reducible exact HRd.out); intro w1 hblk ht; have HR3 := Lib.hid hblk; have HB3 : Hid (Below w.heap.size w w1) := HBd.out.trans (ht.below (by omega)); clear hblk))
  refine bodyPost_ret (v := .agg (nums .i32 (stepP p a b g)).toArray) (results_cell_row rfl _ _ (w.heap.size + 1 + 1) 30 (nums .i32 (stepP p a b g)).toArray (0, 0) _ rfl (by with_reducible exact HR3.out) Tryz.underlying30 rfl HI.out) rfl ⟨rfl, HB3.out⟩
end Go.Proofs.YtjhifpidbobmaaaGreatDoor
