/- Texts laid together: StabFunc, ShareImpl. -/
import Derived.Test.YtjhifpidbobmaaaGreatDoorMg18
import Derived.Test.YtjhifpidbobmaaaGreatDoorMg36
import Derived.Deep.DeepCutAuto
import Derived.Deep.RegionHeld3
import Derived.BigRegion
import Derived.BigQuiet
/- slices.SortStableFunc over at most 60 places. -/
namespace Go.Proofs.YtjhifpidbobmaaaGreatDoor
open Go.RowKit Go.Shelf Go.Lib Go.Sort
set_option linter.unusedVariables false
set_option linter.unusedSimpArgs false
variable {m0 : Nat}

structure InsInv (key : Nat → Int) (n a : Nat) (d : Array Nat) : Prop where
  size : d.size = n
  s0 : 20 ≤ a → Seg (TK key) 0 20 d
  s1 : 40 ≤ a → Seg (TK key) 20 40 d
  s2 : 60 ≤ a → Seg (TK key) 40 60 d
  r : ∀ p, a ≤ p → p < n → d[p]! = p
theorem InsInv.step {key : Nat → Int} {n a : Nat} {d : Array Nat} (h : InsInv key n a d) (ha : a = 0 ∨ a = 20 ∨ a = 40) (hn : a + 20 ≤ n) : InsInv key n (a + 20) (insertionSort (ltOf (cfK key)) d a (a + 20)) := by
  have hz := h.size
  obtain ⟨k1, k2⟩ := ins_seg (key := key) (a := a) (b := a + 20) (d := d) (by omega) (by omega) (fun p p1 p2 => h.r p p1 (by omega))
  refine ⟨k2.size.trans hz, fun g => ?_, fun g => ?_, fun g => ?_, fun p p1 p2 => by rw [k2.out p (by omega)]; exact h.r p (by omega) p2⟩
  · rcases ha with rfl | rfl | rfl
    · exact k1
    · exact (h.s0 (by omega)).moved k2 (by omega)
    · exact (h.s0 (by omega)).moved k2 (by omega)
  · rcases ha with rfl | rfl | rfl
    · omega
    · exact k1
    · exact (h.s1 (by omega)).moved k2 (by omega)
  · rcases ha with rfl | rfl | rfl
    · omega
    · omega
    · exact k1
/-- Three parts of at most 20 places. -/
structure Lev (key : Nat → Int) (n : Nat) (d : Array Nat) : Prop where
  size : d.size = n
  s0 : Seg (TK key) 0 (min 20 n) d
  s1 : Seg (TK key) (min 20 n) (min 40 n) d
  s2 : Seg (TK key) (min 40 n) n d
theorem InsInv.last {key : Nat → Int} {n a : Nat} {d : Array Nat} (h : InsInv key n a d) (ha : a = 0 ∨ a = 20 ∨ a = 40 ∨ a = 60) (h1 : a ≤ n) (h2 : n < a + 20) (hn : n ≤ 60) : Lev key n (insertionSort (ltOf (cfK key)) d a n) := by
  have hz := h.size
  obtain ⟨k1, k2⟩ := ins_seg (key := key) (a := a) (b := n) (d := d) h1 (by omega) (fun p p1 p2 => h.r p p1 p2)
  refine ⟨k2.size.trans hz, ?_, ?_, ?_⟩
  · rcases ha with rfl | rfl | rfl | rfl
    · rw [show min 20 n = n by omega]; exact k1
    · rw [show min 20 n = 20 by omega]; exact (h.s0 (by omega)).moved k2 (by omega)
    · rw [show min 20 n = 20 by omega]; exact (h.s0 (by omega)).moved k2 (by omega)
    · rw [show min 20 n = 20 by omega]; exact (h.s0 (by omega)).moved k2 (by omega)
  · rcases ha with rfl | rfl | rfl | rfl
    · exact .nil (by omega)
    · rw [show min 20 n = 20 by omega, show min 40 n = n by omega]; exact k1
    · rw [show min 20 n = 20 by omega, show min 40 n = 40 by omega]; exact (h.s1 (by omega)).moved k2 (by omega)
    · rw [show min 20 n = 20 by omega, show min 40 n = 40 by omega]; exact (h.s1 (by omega)).moved k2 (by omega)
  · rcases ha with rfl | rfl | rfl | rfl
    · exact .nil (by omega)
    · exact .nil (by omega)
    · rw [show min 40 n = 40 by omega]; exact k1
    · obtain rfl : n = 60 := by omega
      exact (h.s2 (by omega)).moved k2 (by omega)

set_option maxHeartbeats 4000000 in
set_option maxRecDepth 1000000 in
theorem c_stable (key : Nat → Int) (g : Nat) (cb : Array Value) (blk off cap n : Nat) (d0 : Array Nat) (w0 w : World)
    (eg : ∀ args w, (callFunc g args).run Tryz.prog w = .ok (.enter g args) w) (hcmp : CmpLays1 Tryz.prog g cb (encN m0) (cfK key) blk off d0.size w0) (R : Row1 (encN m0) w0 blk off d0) (hn0 : d0.size = n) (hn : n ≤ 60) (hid : ∀ p, p < n → d0[p]! = p) (S : SW (encN m0) w0 blk off d0 w) :
    Calls Tryz.prog 75 #[.slice (some ⟨blk, off, none⟩) n cap, .int .i64 n, .func (.func g) #[] cb] w fun e w' => e = .returned (.tuple #[]) ∧ ∃ d', d'.size = n ∧ Seg (TK key) 0 n d' ∧ SW (encN m0) w0 blk off d' w' := by
  have S0 : Aside (SW (encN m0) w0 blk off d0 w) := S
  have I0 : Hid (InsInv key n 0 d0) := ⟨hn0, fun h => by omega, fun h => by omega, fun h => by omega, fun p _ hp => hid p hp⟩
  have CI := Lib.hid (fun (a b : Nat) (d : Array Nat) (wr : World) (hz : d.size = n) (hab : a ≤ b) (hb : b ≤ n) (S : SW (encN m0) w0 blk off d wr) => hz ▸ Tryz.insertionSortCmpFunc_s (encN m0) (cfK key) g cb blk off cap a b d0 d w0 wr eg hcmp R (hn0.trans hz.symm) S hab (by omega) (by omega))
  have CS := Lib.hid (fun (a m b : Nat) (d : Array Nat) (wr : World) (hz : d.size = n) (S : SW (encN m0) w0 blk off d wr) (h1 : a < m) (h2 : m < b) (h3 : b ≤ n) (s1 : Seg (TK key) a m d) (s2 : Seg (TK key) m b d) => c_symMerge (cfK key) (TK key) (TK.trans key) g cb blk off cap n d0 w0 eg hcmp R hn0 (by omega) (b - a) a m b d wr (Nat.le_refl _) hz S h1 h2 h3 s1.asc s2.asc (cross_seg s1 s2))
  clear S hcmp hid
  go_enter Tryz.func75, Tryz.ntmps75
  go_wp2
  go_loopw [7, 8] (fun av bv wr => ∃ (a b : Nat) (dk : Array Nat), (a = 0 ∨ a = 20 ∨ a = 40 ∨ a = 60) ∧ a ≤ n ∧ b = a + 20 ∧ av = .int .i64 (a : Int) ∧ bv = .int .i64 (b : Int) ∧ Hid (InsInv key n a dk) ∧ Aside (SW (encN m0) w0 blk off dk wr)) (fun a _ _ => n - (intOf a).toNat)
  case atStart => exact ⟨0, 20, d0, .inl rfl, by omega, rfl, rfl, rfl, I0, S0⟩
  case round =>
    clear S0 I0
    obtain ⟨a, b, dk, ha, han, hb, rfl, rfl, HI, S1⟩ := hrel
    have hz := Lib.hid HI.out.size
    have HBE := Lib.hid hb
    have HAE := Lib.hid ha
    by_cases hbn : b ≤ n
    · have d1 : decide ((b : Int) ≤ (n : Int)) = true := by simp; omega
      have C1 := Lib.hid (CI.out a b dk wr hz.out (by omega) hbn S1.out)
      clear hb ha CI CS
      go_wp2_with (go_at_call 91; ((with_reducible refine C1.out.mono ?_); rintro e w1 ⟨rfl, k2⟩; have K2 := Lib.hid k2; clear k2))
      have hb := HBE.out
      have ha := HAE.out
      go_roundw
      case rel => exact ⟨b, b + 20, _, by omega, hbn, rfl, rfl, by go_num, (by rw [hb]; exact HI.out.step (by omega) (by omega)), (by rw [← hb]; exact K2.out)⟩
      case measure => simp [intOf]; omega
    · have d1 : decide ((b : Int) ≤ (n : Int)) = false := by simp; omega
      have C1 := Lib.hid (CI.out a n dk wr hz.out han (Nat.le_refl _) S1.out)
      have HL := Lib.hid (HI.out.last ha han (by omega) hn)
      clear hb ha CI HI
      by_cases c1 : n ≤ 20
      · have d2 : decide ((20 : Int) < (n : Int)) = false := by simp; omega
        clear CS
        go_wp2_with (go_at_call 91; ((with_reducible refine C1.out.mono ?_); rintro e w1 ⟨rfl, k2⟩; have K2 := Lib.hid k2; clear k2))
        refine wp_loop_rounds 1 ?_
        rw [rounds_succ]
        go_wp2
        go_end0
        have h0 := HL.out.s0
        rw [show min 20 n = n by omega] at h0
        exact ⟨rfl, _, HL.out.size, h0, K2.out⟩
      · have d2 : decide ((20 : Int) < (n : Int)) = true := by simp; omega
        have e20 : min 20 n = 20 := by omega
        have h0 := HL.out.s0
        have h1 := HL.out.s1
        have h2 := HL.out.s2
        have hz1 := HL.out.size
        rw [e20] at h0 h1
        generalize insertionSort (ltOf (cfK key)) dk a n = d1 at *
        by_cases c2 : n < 40
        · have d3 : decide ((40 : Int) ≤ (n : Int)) = false := by simp; omega
          have d4 : decide ((40 : Int) < (n : Int)) = false := by simp; omega
          rw [show min 40 n = n by omega] at h1
          have H0 := Lib.hid h0
          have H1 := Lib.hid h1
          have C2 : Hid (∀ wr, SW (encN m0) w0 blk off d1 wr → Calls Tryz.prog 92 #[.slice (some ⟨blk, off, none⟩) n cap, .int .i64 0, .int .i64 20, .int .i64 n, .func (.func g) #[] cb] wr fun e w' => e = .returned (.tuple #[]) ∧ ∃ d', Mrg (TK key) 0 n d1 d' ∧ SW (encN m0) w0 blk off d' w') := fun wr S => CS.out 0 20 n d1 wr hz1 S (by omega) (by omega) (Nat.le_refl _) h0 h1
          have HZ := Lib.hid hz1
          clear CS h0 h1 h2 hz1 e20
          go_wp2_with (go_at_call 91; ((with_reducible refine C1.out.mono ?_); rintro e w1 ⟨rfl, k2⟩; have K2 := Lib.hid k2; clear k2))
          refine wp_loop_rounds 2 ?_
          rw [rounds_succ]
          go_wp2
          refine wp_loop_rounds 1 ?_
          rw [rounds_succ]
          go_wp2_with (go_at_call 92; ((with_reducible refine (C2.out _ K2.out).mono ?_); rintro e w2 ⟨rfl, d', k3, k4⟩; have K3 := Lib.hid k3; have K4 := Lib.hid k4; clear k3 k4))
          rw [rounds_succ]
          go_wp2
          go_end0
          exact ⟨rfl, d', K3.out.mv.size.trans HZ.out, Seg.merge H0.out H1.out (by omega) (by omega) K3.out, K4.out⟩
        · have d3 : decide ((40 : Int) ≤ (n : Int)) = true := by simp; omega
          have d5 : decide ((60 : Int) < (n : Int)) = false := by simp; omega
          have d6 : decide ((80 : Int) ≤ (n : Int)) = false := by simp; omega
          have d7 : decide ((80 : Int) < (n : Int)) = false := by simp; omega
          have e40 : min 40 n = 40 := by omega
          rw [e40] at h1 h2
          have H0 := Lib.hid h0
          have H1 := Lib.hid h1
          have H2 := Lib.hid h2
          have C2 : Hid (∀ wr, SW (encN m0) w0 blk off d1 wr → Calls Tryz.prog 92 #[.slice (some ⟨blk, off, none⟩) n cap, .int .i64 0, .int .i64 20, .int .i64 40, .func (.func g) #[] cb] wr fun e w' => e = .returned (.tuple #[]) ∧ ∃ d', Mrg (TK key) 0 40 d1 d' ∧ SW (encN m0) w0 blk off d' w') := fun wr S => CS.out 0 20 40 d1 wr hz1 S (by omega) (by omega) (by omega) h0 h1
          have HZ := Lib.hid hz1
          clear h0 h1 h2 hz1 e20 e40
          by_cases c3 : n = 40
          · have d4 : decide ((40 : Int) < (n : Int)) = false := by simp; omega
            have C3 := Lib.hid c3
            clear CS c3
            go_wp2_with (go_at_call 91; ((with_reducible refine C1.out.mono ?_); rintro e w1 ⟨rfl, k2⟩; have K2 := Lib.hid k2; clear k2))
            refine wp_loop_rounds 2 ?_
            rw [rounds_succ]
            go_wp2
            refine wp_loop_rounds 2 ?_
            rw [rounds_succ]
            go_wp2_with (go_at_call 92; ((with_reducible refine (C2.out _ K2.out).mono ?_); rintro e w2 ⟨rfl, d', k3, k4⟩; have K3 := Lib.hid k3; have K4 := Lib.hid k4; clear k3 k4))
            rw [rounds_succ]
            go_wp2
            rw [rounds_succ]
            go_wp2
            go_end0
            exact ⟨rfl, d', K3.out.mv.size.trans HZ.out, (by rw [C3.out]; exact Seg.merge H0.out H1.out (by omega) (by omega) K3.out), K4.out⟩
          · have d4 : decide ((40 : Int) < (n : Int)) = true := by simp; omega
            have C4 : Hid (∀ d' wr, SW (encN m0) w0 blk off d' wr → d'.size = n → Seg (TK key) 0 40 d' → Seg (TK key) 40 n d' → Calls Tryz.prog 92 #[.slice (some ⟨blk, off, none⟩) n cap, .int .i64 0, .int .i64 40, .int .i64 n, .func (.func g) #[] cb] wr fun e w' => e = .returned (.tuple #[]) ∧ ∃ d'', Mrg (TK key) 0 n d' d'' ∧ SW (encN m0) w0 blk off d'' w') := fun d' wr S z a b => CS.out 0 40 n d' wr z S (by omega) (by omega) (Nat.le_refl _) a b
            clear CS c3
            go_wp2_with (go_at_call 91; ((with_reducible refine C1.out.mono ?_); rintro e w1 ⟨rfl, k2⟩; have K2 := Lib.hid k2; clear k2))
            refine wp_loop_rounds 3 ?_
            rw [rounds_succ]
            go_wp2
            refine wp_loop_rounds 2 ?_
            rw [rounds_succ]
            go_wp2_with (go_at_call 92; ((with_reducible refine (C2.out _ K2.out).mono ?_); rintro e w2 ⟨rfl, d', k3, k4⟩; have K3 := Lib.hid k3; have K4 := Lib.hid k4; clear k3 k4))
            rw [rounds_succ]
            go_wp2
            have HZ2 := Lib.hid (K3.out.mv.size.trans HZ.out)
            have HA := Lib.hid (Seg.merge H0.out H1.out (by omega) (by omega) K3.out)
            have HB := Lib.hid (H2.out.moved K3.out.mv (by omega))
            have C5 := Lib.hid (C4.out d' _ K4.out HZ2.out HA.out HB.out)
            clear C2 C4 C1
            rw [rounds_succ]
            go_wp2
            refine wp_loop_rounds 1 ?_
            rw [rounds_succ]
            go_wp2_with (go_at_call 92; ((with_reducible refine C5.out.mono ?_); rintro e w3 ⟨rfl, d'', k3, k4⟩; have K5 := Lib.hid k3; have K6 := Lib.hid k4; clear k3 k4))
            rw [rounds_succ]
            go_wp2
            go_end0
            exact ⟨rfl, d'', K5.out.mv.size.trans HZ2.out, Seg.merge HA.out HB.out (by omega) (by omega) K5.out, K6.out⟩
theorem c_sortStable (key : Nat → Int) (g : Nat) (cb : Array Value) (blk off cap n : Nat) (d0 : Array Nat) (w : World)
    (eg : ∀ args w, (callFunc g args).run Tryz.prog w = .ok (.enter g args) w) (hcmp : CmpLays1 Tryz.prog g cb (encN m0) (cfK key) blk off d0.size w) (R : Row1 (encN m0) w blk off d0) (hn0 : d0.size = n) (hn : n ≤ 60) (hid : ∀ p, p < n → d0[p]! = p) :
    Calls Tryz.prog 54 #[.slice (some ⟨blk, off, none⟩) n cap, .func (.func g) #[] cb] w fun e w' => e = .returned (.tuple #[]) ∧ ∃ d', d'.size = n ∧ Seg (TK key) 0 n d' ∧ SW (encN m0) w blk off d' w' := by
  have C := Lib.hid (c_stable key g cb blk off cap n d0 w w eg hcmp R hn0 hn hid (SW.start R.hH))
  clear hcmp hid
  go_enter Tryz.func54, Tryz.ntmps54
  go_wp2_with (go_at_call 75; ((with_reducible refine C.out.mono ?_); rintro e w1 ⟨rfl, k⟩; have K := Lib.hid k; clear k))
  go_end0
  exact ⟨rfl, K.out⟩
end Go.Proofs.YtjhifpidbobmaaaGreatDoor
/- ShareCents, the program's: what it calls. -/
namespace Go.Proofs.YtjhifpidbobmaaaGreatDoor
open Go.RowKit Go.Shelf Go.Lib Go.Sort
set_option linter.unusedVariables false
set_option linter.unusedSimpArgs false
set_option maxRecDepth 100000

theorem flipS {P : Program} {f : FuncId} {args : Array Value} {w : World} {v : Value} (h : Calls P f args w fun e w' => e = .returned v ∧ w = w') : Calls P f args w fun e w' => e = .returned v ∧ w' = w := h.mono fun _ _ ⟨h1, h2⟩ => ⟨h1, h2.symm⟩
theorem c_sc1 (x : Int) (w : World) : Calls Tryz.prog 52 #[.int .i64 x] w fun e w' => e = .returned (.bool (inB x 0 5000)) ∧ w = w' := by
  go_enter Tryz.func52, Tryz.ntmps52
  go_wp2_with (go_at_call 45; ((with_reducible refine (c_within x 0 5000 _).mono ?_); rintro e w1 ⟨rfl, rfl⟩))
  go_ret
  exact ⟨rfl, rfl⟩
theorem c_isNaN (x : Int) (w : World) : Calls Tryz.prog 76 #[.int .i64 x] w fun e w' => e = .returned (.bool false) ∧ w = w' := by
  have d1 : (x != x) = false := by simp
  go_enter Tryz.func76, Tryz.ntmps76
  go_wp2
  go_ret
  exact ⟨rfl, rfl⟩
theorem c_compare (x y : Int) (w : World) : Calls Tryz.prog 56 #[.int .i64 x, .int .i64 y] w fun e w' => e = .returned (.int .i64 (if x < y then -1 else if y < x then 1 else 0)) ∧ w = w' := by
  by_cases h1 : x < y
  · have d1 : decide (x < y) = true := decide_eq_true h1
    rw [if_pos h1]
    clear h1
    go_enter Tryz.func56, Tryz.ntmps56
    go_wp2_with (go_at_call 76; ((with_reducible refine (c_isNaN _ _).mono ?_); rintro e w1 ⟨rfl, rfl⟩))
    go_ret
    exact ⟨rfl, rfl⟩
  · have d1 : decide (x < y) = false := decide_eq_false h1
    by_cases h2 : y < x
    · have d2 : decide (y < x) = true := decide_eq_true h2
      rw [if_neg h1, if_pos h2]
      clear h1 h2
      go_enter Tryz.func56, Tryz.ntmps56
      go_wp2_with (go_at_call 76; ((with_reducible refine (c_isNaN _ _).mono ?_); rintro e w1 ⟨rfl, rfl⟩))
      go_ret
      exact ⟨rfl, rfl⟩
    · have d2 : decide (y < x) = false := decide_eq_false h2
      rw [if_neg h1, if_neg h2]
      clear h1 h2
      go_enter Tryz.func56, Tryz.ntmps56
      go_wp2_with (go_at_call 76; ((with_reducible refine (c_isNaN _ _).mono ?_); rintro e w1 ⟨rfl, rfl⟩))
      go_ret
      exact ⟨rfl, rfl⟩
set_option maxHeartbeats 1000000 in
theorem c_sumAll (A : Option Addr) (n cap : Nat) (zs : List Int) (w : World) (h : RdRow w A (nums .i64 zs)) (hl : zs.length = n) (hn : n ≤ 60) (hg : ∀ i, i < n → 0 ≤ gi zs i ∧ gi zs i ≤ 5000) :
    Calls Tryz.prog 53 #[.slice A n cap] w fun e w' => e = .returned (.int .i64 (sumZ zs n)) ∧ w = w' := by
  have H := Lib.hid h
  have HL := Lib.hid hl
  have HS := Lib.hid (sumZ_mono hg)
  have HG := Lib.hid hg
  clear h hl hg
  go_enter Tryz.func53, Tryz.ntmps53
  go_wp2
  go_loopw [8, 3] (fun i s wr => ∃ k : Nat, k ≤ n ∧ i = .int .i64 k ∧ s = .int .i64 (sumZ zs k) ∧ w = wr) (fun i _ _ => n - (intOf i).toNat)
  case atStart => exact ⟨0, by omega, rfl, rfl, rfl⟩
  case round =>
    obtain ⟨k, hk, rfl, rfl, rfl⟩ := hrel
    by_cases hlt : k < n
    · have d1 : decide ((k : Int) < (n : Int)) = true := by simp; omega
      obtain ⟨ad, rfl, c0⟩ := H.out k _ (nums_get (by rw [HL.out]; exact hlt))
      have k0 : (0 : Int) ≤ (k : Int) := by omega
      have k1 : (k : Int) < (n : Int) := by omega
      obtain ⟨s0, s1, -⟩ := HS.out k hk
      obtain ⟨g0, g1⟩ := HG.out k hlt
      go_wp2
      go_roundw
      case rel => exact ⟨k + 1, by omega, by go_num, rfl, by first | rfl | trivial⟩
      case measure => simp [intOf]; omega
    · obtain rfl : k = n := by omega
      have d1 : decide ((k : Int) < (k : Int)) = false := by simp
      go_wp2
      go_ret
      exact ⟨rfl, rfl⟩
theorem sort_block {enc : Nat → Value} (w : World) (blk off m : Nat) (dk : Array Nat) (os : Array Obj) (hb : blk < w.heap.size) : ∀ k, k < w.heap.size → k ≠ blk → (sortWorld enc w blk off m dk os).heap[k]? = w.heap[k]? := fun k hk hne => by
  unfold sortWorld
  rw [heap_grow_old _ _ (by rw [size_putRow]; exact hk)]
  show ((w.heap.modify blk _))[k]? = _
  rw [Array.getElem?_modify, if_neg (fun e => hne e.symm)]
theorem sort_size {enc : Nat → Value} (w : World) (blk off m : Nat) (dk : Array Nat) (os : Array Obj) : w.heap.size ≤ (sortWorld enc w blk off m dk os).heap.size := by
  unfold sortWorld
  rw [size_grow, size_putRow]
  exact Nat.le_add_right _ _
theorem below_sort {enc : Nat → Value} {w : World} {blk off m : Nat} {dk : Array Nat} {os : Array Obj} (hb : blk < w.heap.size) {B : Nat} (hB : B ≤ blk) : Below B w (sortWorld enc w blk off m dk os) :=
  ⟨rfl, rfl, rfl, sort_size _ _ _ _ _ _, fun k hk => sort_block _ _ _ _ _ _ hb k (by omega) (by omega)⟩
theorem own_sort {enc : Nat → Value} {w : World} {blk off m : Nat} {dk : Array Nat} {os : Array Obj} (hb : blk < w.heap.size) {base : Nat} {e : TypeId} {size : Nat} {v : Value} {n : Nat} {xs : List Value} (h : w.ownsRow base e size v n xs) (hne : v.ownBlock ≠ some blk) : (sortWorld enc w blk off m dk os).ownsRow base e size v n xs :=
  h.kept (row := some blk) ⟨rfl, rfl, rfl, sort_size _ _ _ _ _ _, fun k hk hk2 => sort_block _ _ _ _ _ _ hb k hk (fun e => hk2 (by rw [e]))⟩ (.inr hne)
set_option maxHeartbeats 1000000 in
theorem c_sc2 (A : Option Addr) (n cap i k bc bg ba : Nat) (zs : List Int) (c al : Int) (w : World) (h : RdRow w A (nums .i64 zs)) (hl : zs.length = n) (OK : ShOk c al zs n) (hi : i < n) (hk : k < n)
    (hc : w.cell? ⟨bc, 0, none⟩ = some (.int .i64 c)) (hg : w.cell? ⟨bg, 0, none⟩ = some (.slice A n cap)) (ha : w.cell? ⟨ba, 0, none⟩ = some (.int .i64 al)) :
    Calls Tryz.prog 55 #[.int .i64 i, .int .i64 k, .pointer (some ⟨bc, 0, none⟩), .pointer (some ⟨bg, 0, none⟩), .pointer (some ⟨ba, 0, none⟩)] w fun e w' => e = .returned (.int .i64 (cfK (remZ c al zs) i k)) ∧ ∃ q, w' = w.drewN q := by
  obtain ⟨ad, rfl, c0⟩ := h i _ (nums_get (by rw [hl]; exact hi))
  obtain ⟨ad2, had2, c1⟩ := h k _ (nums_get (by rw [hl]; exact hk))
  cases had2
  obtain ⟨m0, m1⟩ := OK.prod hi
  obtain ⟨n0, n1⟩ := OK.prod hk
  have p0 := OK.pos
  have a0 : ¬ al = 0 := by omega
  have i0 : (0 : Int) ≤ (i : Int) := by omega
  have i1 : (i : Int) < (n : Int) := by omega
  have k0 : (0 : Int) ≤ (k : Int) := by omega
  have k1 : (k : Int) < (n : Int) := by omega
  have r1 : (c * gi zs i).tmod al = remZ c al zs i := rfl
  have r2 : (c * gi zs k).tmod al = remZ c al zs k := rfl
  obtain ⟨v, hv⟩ : ∃ v, cfK (remZ c al zs) i k = v := ⟨_, rfl⟩
  have CC : Hid (∀ w, Calls Tryz.prog 56 #[.int .i64 (remZ c al zs k), .int .i64 (remZ c al zs i)] w fun e w' => e = .returned (.int .i64 v) ∧ w = w') := fun w => by
    rw [← hv]; exact c_compare (remZ c al zs k) (remZ c al zs i) w
  rw [hv]
  clear h hl OK hv
  go_enter Tryz.func55, Tryz.ntmps55
  go_wp2
  go_quiet (first | (go_at_call 56; exact Calls.quiet_of_same (flipS (CC.out _))))
  go_wp2
  go_ret
  exact ⟨rfl, _, rfl⟩
theorem made_outs (n : Nat) : madeCells #[.int .i64 0] (n * 1) = (nums .i64 (List.replicate n 0)).toArray := by
  apply Array.ext
  · simp [size_madeCells, nums]
  · intro i h1 h2
    simp [madeCells, nums, Nat.mod_one]
/-- The first numbers of f, behind them the old ones. -/
def fillL (f : Nat → Int) (n k : Nat) : List Int := (List.range n).map fun i => if i < k then f i else 0
theorem fillL_len (f : Nat → Int) (n k : Nat) : (fillL f n k).length = n := by simp [fillL]
theorem fillL_zero (f : Nat → Int) (n : Nat) : fillL f n 0 = List.replicate n 0 := by
  apply List.ext_getElem?
  intro i
  by_cases h : i < n
  · simp [fillL, h]
  · simp [fillL, h]
theorem fillL_all (f : Nat → Int) (n : Nat) : fillL f n n = (List.range n).map f := by
  apply List.ext_getElem?
  intro i
  by_cases h : i < n
  · simp [fillL, h]
  · simp [fillL, h]
theorem fillL_set (f : Nat → Int) {n k : Nat} (hk : k < n) : (fillL f n k).set k (f k) = fillL f n (k + 1) := by
  apply List.ext_getElem?
  intro i
  rw [List.getElem?_set]
  by_cases c : k = i
  · subst c; simp [fillL, hk]
  · rw [if_neg c]
    by_cases h : i < n
    · have : (i < k + 1) = (i < k) := by rw [eq_iff_iff]; omega
      simp [fillL, h, this]
    · simp [fillL, h]
theorem nums_setL (k : IntKind) (xs : List Int) (j : Nat) (z : Int) : (nums k xs).set j (.int k z) = nums k (xs.set j z) := by simp [nums, List.map_set]
theorem seg_key {key : Nat → Int} {n : Nat} {d : Array Nat} (h : Seg (TK fun x => key (x % n)) 0 n d) : Seg (TK key) 0 n d :=
  ⟨fun i j h1 h2 h3 => by
    have a := (h.inn i h1 (by omega)).2
    have b := (h.inn j (by omega) h3).2
    have := h.asc i j h1 h2 h3
    simp only [TK] at this ⊢
    rwa [Nat.mod_eq_of_lt a, Nat.mod_eq_of_lt b] at this, h.inn, h.onn⟩
/-- The boxes that the comparison reads. -/
structure ShBox (A : Option Addr) (n cap : Nat) (c al : Int) (bc bg ba : Nat) (w : World) : Prop where
  hc : w.heap[bc]? = some (.cells #[.int .i64 c] 2 (0, 0))
  hg : w.heap[bg]? = some (.cells #[.slice A n cap] 50 (0, 0))
  ha : w.heap[ba]? = some (.cells #[.int .i64 al] 2 (0, 0))
theorem ShBox.below {A : Option Addr} {n cap : Nat} {c al : Int} {bc bg ba : Nat} {w w1 : World} (h : ShBox A n cap c al bc bg ba w) (hb : Below w.heap.size w w1) : ShBox A n cap c al bc bg ba w1 := ⟨blk_below h.hc hb, blk_below h.hg hb, blk_below h.ha hb⟩
theorem two_rows {base : Nat} (w : World) (z : Array Value) (n : Nat) (t1 t2 : TypeId) (hz : z.size = n * 1) (hb : base ≤ w.heap.size) (hn : n ≤ 1048576) :
    ((w.alloc (.cells z t1 (0, 0))).alloc (.cells z t2 (0, 0))).drew.ownsRow base t1 1 (.slice (some ⟨w.heap.size, 0, none⟩) n n) n z.toList ∧ ((w.alloc (.cells z t1 (0, 0))).alloc (.cells z t2 (0, 0))).drew.ownsRow base t2 1 (.slice (some ⟨w.heap.size + 1, 0, none⟩) n n) n z.toList ∧ Below w.heap.size w ((w.alloc (.cells z t1 (0, 0))).alloc (.cells z t2 (0, 0))).drew :=
  ⟨own_of_row (blk_alloc (heap_alloc_new w _) _) hz hb hn, own_of_row (show ((w.alloc (.cells z t1 (0, 0))).alloc (.cells z t2 (0, 0))).heap[w.heap.size + 1]? = _ from by have := heap_alloc_new (w.alloc (.cells z t1 (0, 0))) (.cells z t2 (0, 0)); simpa using this) hz (by omega) hn, below_drew (below_alloc (below_alloc (Below.refl _ _) _) _)⟩
set_option maxHeartbeats 4000000 in
theorem c_iShareCents (A : Option Addr) (n cap : Nat) (zs : List Int) (c : Int) (w : World) (h : RdRow w A (nums .i64 zs)) (hl : zs.length = n) (hn : n ≤ 1048576) :
    Calls Tryz.prog 26 #[.int .i64 c, .slice A n cap] w fun e w' => ∃ v, e = .returned (.tuple #[v, .int .i64 (shareF c zs n).2]) ∧ w'.ownsRow w.heap.size 2 1 v (shareF c zs n).1.length (nums .i64 (shareF c zs n).1) ∧ Below w.heap.size w w' := by
  obtain ⟨wa, hwa⟩ : ∃ wa, wa = (w.alloc (.cells #[.int .i64 c] 2 (0, 0))).alloc (.cells #[.slice A n cap] 50 (0, 0)) := ⟨_, rfl⟩
  have hB : Below w.heap.size w wa := by rw [hwa]; exact (below_alloc (below_alloc (Below.refl _ _) _) _)
  have H := Lib.hid (RdRow.below h hB)
  have HL := Lib.hid hl
  have hef : ∀ args w, (callFunc 52 args).run Tryz.prog w = .ok (.enter 52 args) w := enters_of Tryz.func52 (by kernel_rfl) rfl
  have CA := Lib.hid (c_areAllI64 52 #[] hef (fun j => inB (gi zs j) 0 5000) A n cap zs wa (RdRow.below h hB) hl hn (fun j hj w1 hb => by
    simp only [Array.append_empty]
    exact (c_sc1 (gi zs j) w1).mono fun e w2 ⟨h1, h2⟩ => ⟨h1, by rw [h2]; exact Below.refl _ _⟩))
  have CW := Lib.hid (fun w => c_within c 0 1000000 w)
  have HB := Lib.hid hB
  have hbc : wa.heap[w.heap.size]? = some (.cells #[.int .i64 c] 2 (0, 0)) := by rw [hwa]; exact blk_alloc (heap_alloc_new w _) _
  have hbg : wa.heap[w.heap.size + 1]? = some (.cells #[.slice A n cap] 50 (0, 0)) := by
    have := heap_alloc_new (w.alloc (.cells #[.int .i64 c] 2 (0, 0))) (.cells #[.slice A n cap] 50 (0, 0))
    rw [hwa]; simpa using this
  have HBC := Lib.hid hbc
  have HBG := Lib.hid hbg
  have HRW := Lib.hid h
  clear h hl hB hbc hbg hef
  have hb0 := cell_of_row _ w.heap.size 0 _ _ _ HBC.out
  have hb1 := cell_of_row _ (w.heap.size + 1) 0 _ _ _ HBG.out
  simp at hb0 hb1
  cases hc : inB c 0 1000000
  · have E := Lib.hid (shareF_bad (c := c) (zs := zs) (n := n) (by rw [fineZ, hc]; rfl))
    rw [hc] at CW
    go_enter Tryz.func26, Tryz.ntmps26
    go_upto_region 1 with fail
    rw [← hwa]
    clear hwa hc
    go_wp2_with (first | (go_at_call 45; ((with_reducible refine (CW.out _).mono ?_); rintro e w1 ⟨rfl, rfl⟩)))
    go_ret2
    exact ⟨.slice none 0 0, by rw [E.out]; rfl, by rw [E.out]; exact own_nil _ _ _ _, HB.out⟩
  · rw [hc] at CW
    cases hA : allB n (fun j => inB (gi zs j) 0 5000)
    · have E := Lib.hid (shareF_bad (c := c) (zs := zs) (n := n) (by rw [fineZ, hA, Bool.and_false]))
      rw [hA] at CA
      go_enter Tryz.func26, Tryz.ntmps26
      go_upto_region 1 with fail
      rw [← hwa]
      clear hwa hc hA
      go_wp2_with (first | (go_at_call 45; ((with_reducible refine (CW.out _).mono ?_); rintro e w1 ⟨rfl, rfl⟩)) | (go_at_call 51; ((with_reducible refine CA.out.mono ?_); rintro e w1 ⟨rfl, hb⟩)))
      go_ret2
      exact ⟨.slice none 0 0, by rw [E.out]; rfl, by rw [E.out]; exact own_nil _ _ _ _, below_then HB.out hb⟩
    · have HF : Hid (fineZ c zs n = true) := by rw [Hid, fineZ, hc, hA]; rfl
      have hg := fine_g (c := c) hA
      rw [hA] at CA
      by_cases h60 : 60 < n
      · have E := Lib.hid (shareF_long HF.out h60)
        have d1 : decide ((60 : Int) < (n : Int)) = true := by simp; omega
        go_enter Tryz.func26, Tryz.ntmps26
        go_upto_region 1 with fail
        rw [← hwa]
        clear hwa hc hA hg
        go_wp2_with (first | (go_at_call 45; ((with_reducible refine (CW.out _).mono ?_); rintro e w1 ⟨rfl, rfl⟩)) | (go_at_call 51; ((with_reducible refine CA.out.mono ?_); rintro e w1 ⟨rfl, hb⟩; have hb0 := (hb.cell (World.block_lt_of_cell? _ _ hb0)).trans hb0; have hb1 := (hb.cell (World.block_lt_of_cell? _ _ hb1)).trans hb1)))
        go_ret2
        exact ⟨.slice none 0 0, by rw [E.out]; rfl, by rw [E.out]; exact own_nil _ _ _ _, below_then HB.out hb⟩
      · have d1 : decide ((60 : Int) < (n : Int)) = false := by simp; omega
        have CS := Lib.hid (fun w (hr : RdRow w A (nums .i64 zs)) => c_sumAll A n cap zs w hr HL.out (by omega) hg)
        by_cases hs0 : sumZ zs n = 0
        · have E := Lib.hid (shareF_none HF.out h60 hs0)
          rw [hs0] at CS
          go_enter Tryz.func26, Tryz.ntmps26
          go_upto_region 1 with fail
          rw [← hwa]
          clear hwa hc hA hg
          go_wp2_with (first | (go_at_call 45; ((with_reducible refine (CW.out _).mono ?_); rintro e w1 ⟨rfl, rfl⟩)) | (go_at_call 51; ((with_reducible refine CA.out.mono ?_); rintro e w1 ⟨rfl, hb⟩; have hb0 := (hb.cell (World.block_lt_of_cell? _ _ hb0)).trans hb0; have hb1 := (hb.cell (World.block_lt_of_cell? _ _ hb1)).trans hb1; have H := Lib.hid (RdRow.below H.out hb))) | (go_at_call 53; ((with_reducible refine (CS.out _ H.out).mono ?_); rintro e w2 ⟨rfl, rfl⟩)))
          go_ret2
          exact ⟨.slice none 0 0, by rw [E.out]; rfl, by rw [E.out]; exact own_nil _ _ _ _, below_then HB.out hb⟩
        · have E := Lib.hid (shareF_some HF.out h60 hs0)
          have OK := Lib.hid (shOk_of HF.out h60 hs0)
          have d3 : (sumZ zs n == 0) = false := by simpa using hs0
          have p0 := OK.out.pos
          generalize hal : sumZ zs n = al at *
          have a0 : ¬ al = 0 := hs0
          have hn0 : 0 < n := by
            rcases Nat.eq_zero_or_pos n with e | e
            · subst e; rw [← hal] at p0; exact absurd p0 (by simp [sumZ])
            · exact e
          go_enter Tryz.func26, Tryz.ntmps26
          go_upto_region 1 with fail
          rw [← hwa]
          clear hwa hc hA hg hal
          go_upto_region 7 with (first | (go_at_call 45; ((with_reducible refine (CW.out _).mono ?_); rintro e w1 ⟨rfl, rfl⟩)) | (go_at_call 51; ((with_reducible refine CA.out.mono ?_); rintro e w1 ⟨rfl, hb⟩; have hb0 := (hb.cell (World.block_lt_of_cell? _ _ hb0)).trans hb0; have hb1 := (hb.cell (World.block_lt_of_cell? _ _ hb1)).trans hb1; have H := Lib.hid (RdRow.below H.out hb); have HBC := Lib.hid (blk_below HBC.out hb); have HBG := Lib.hid (blk_below HBG.out hb); have HB := Lib.hid (below_then HB.out hb))) | (go_at_call 53; ((with_reducible refine (CS.out _ H.out).mono ?_); rintro e w2 ⟨rfl, rfl⟩)))
          go_cut [6, 7] (fun pv lv wx => ∃ ba, pv = .pointer (some ⟨ba, 0, none⟩) ∧ lv = .int .i64 c ∧ Hid (ShBox A n cap c al w.heap.size (w.heap.size + 1) ba wx) ∧ Hid (RdRow wx A (nums .i64 zs)) ∧ Hid (Below w.heap.size w wx))
          case first =>
            have hq0 := blk_lt HBC.out
            have hq1 := blk_lt HBG.out
            have hq2 : ¬ w.heap.size = w1.heap.size := by omega
            have hq3 : ¬ w.heap.size + 1 = w1.heap.size := by omega
            go_region_held3 (fun w' => w'.cell? ⟨w.heap.size, 0, none⟩ = some (.int .i64 c) ∧ w'.cell? ⟨w.heap.size + 1, 0, none⟩ = some (.slice A n cap)) (simp [*, go_sem])
              (first | (go_at_call 53; (refine (CS.out _ (RdRow.below H.out (by (repeat (first | with_reducible exact Below.refl _ _ | with_reducible refine below_alloc ?_ _ | with_reducible refine below_drew ?_ | with_reducible refine below_drewN ?_ _ | with_reducible refine below_then ?_ (by assumption)))))).mono ?_); rintro e w2 ⟨rfl, rfl⟩))
            all_goals (go_wp2; go_meet; exact ⟨w1.heap.size, rfl, rfl, ⟨blk_alloc HBC.out _, blk_alloc HBG.out _, heap_alloc_new w1 _⟩, RdRow.below H.out (below_drew (below_alloc (Below.refl _ _) _)), below_then HB.out (below_drew (below_alloc (Below.refl _ _) _))⟩)
          case rest =>
          obtain ⟨ba, rfl, rfl, HX, H2, HB2⟩ := hcut
          clear H HB HBC HBG hb0 hb1 CS CW CA
          have b0 := cell_of_row _ w.heap.size 0 _ _ _ HX.out.hc
          have b1 := cell_of_row _ (w.heap.size + 1) 0 _ _ _ HX.out.hg
          have b2 := cell_of_row _ ba 0 _ _ _ HX.out.ha
          simp at b0 b1 b2
          have l0 := blk_lt HX.out.hc
          have l1 := blk_lt HX.out.hg
          have l2 := blk_lt HX.out.ha
          have hmk1 : ∀ w : World, (Instr.makeSlice 50 (.int .i64 (n : Int)) (.int .i64 (n : Int))).run Tryz.prog w = .ok (.slice (some ⟨w.heap.size, 0, none⟩) n n) (w.alloc (.cells (madeCells #[.int .i64 0] (n * 1)) 2)) := fun w => by
            have hinfo : (Tryz.prog.info? 2).map (fun i => (i.zero, i.size, i.bytes)) = some (some (.int .i64 0), 1, 8) := by kernel_rfl
            obtain ⟨i, hi, hzz⟩ := Option.map_eq_some_iff.1 hinfo
            simp only [Prod.mk.injEq] at hzz
            obtain ⟨hz, hs, hb⟩ := hzz
            have := run_make (P := Tryz.prog) w 50 2 i _ Tryz.underlying50 hi hz .i64 .i64 (n : Int) (n : Int) (by omega) (Int.le_refl _) (by rw [hb]; omega) (by omega)
            rw [hs, Int.toNat_natCast] at this
            exact this
          have hmk2 : ∀ w : World, (Instr.makeSlice 80 (.int .i64 (n : Int)) (.int .i64 (n : Int))).run Tryz.prog w = .ok (.slice (some ⟨w.heap.size, 0, none⟩) n n) (w.alloc (.cells (madeCells #[.int .i64 0] (n * 1)) 3)) := fun w => by
            have hinfo : (Tryz.prog.info? 3).map (fun i => (i.zero, i.size, i.bytes)) = some (some (.int .i64 0), 1, 8) := by kernel_rfl
            obtain ⟨i, hi, hzz⟩ := Option.map_eq_some_iff.1 hinfo
            simp only [Prod.mk.injEq] at hzz
            obtain ⟨hz, hs, hb⟩ := hzz
            have := run_make (P := Tryz.prog) w 80 3 i _ Tryz.underlying80 hi hz .i64 .i64 (n : Int) (n : Int) (by omega) (Int.le_refl _) (by rw [hb]; omega) (by omega)
            rw [hs, Int.toNat_natCast] at this
            exact this
          rw [made_outs] at hmk1 hmk2
          obtain ⟨z, hz⟩ : ∃ z, z = (nums .i64 (List.replicate n 0)).toArray := ⟨_, rfl⟩
          have hzs : z.size = n * 1 := by rw [hz]; simp [nums]
          rw [← hz] at hmk1 hmk2
          have HZ := Lib.hid hz
          clear hz
          go_upto_region 8 with fail
          go_cut [8, 9] (fun ov rv wx => ∃ go gr, ov = .slice (some ⟨go, 0, none⟩) n n ∧ rv = .slice (some ⟨gr, 0, none⟩) n n ∧ Hid (go ≠ gr ∧ ba < go ∧ ba < gr ∧ w.heap.size + 1 < go ∧ w.heap.size + 1 < gr) ∧ Hid (wx.ownsRow w.heap.size 2 1 (.slice (some ⟨go, 0, none⟩) n n) n z.toList) ∧ Hid (wx.ownsRow w.heap.size 3 1 (.slice (some ⟨gr, 0, none⟩) n n) n z.toList) ∧ Hid (ShBox A n cap c al w.heap.size (w.heap.size + 1) ba wx) ∧ Hid (RdRow wx A (nums .i64 zs)) ∧ Hid (Below w.heap.size w wx))
          case first =>
            have hq1 : ¬ w.heap.size + 1 = wc.heap.size := by omega
            have hq2 : ¬ w.heap.size + 1 = wc.heap.size + 1 := by omega
            go_region
            all_goals (go_wp2; go_meet)
            all_goals have tr := two_rows (base := w.heap.size) wc z n 2 3 hzs HB2.out.size (by omega)
            all_goals have tr' := two_rows (base := w.heap.size) wc z n 3 2 hzs HB2.out.size (by omega)
            all_goals first
              | exact ⟨wc.heap.size, wc.heap.size + 1, rfl, rfl, ⟨by omega, by omega, by omega, by omega, by omega⟩, tr.1, tr.2.1, HX.out.below tr.2.2, RdRow.below H2.out tr.2.2, below_then HB2.out tr.2.2⟩
              | exact ⟨wc.heap.size + 1, wc.heap.size, rfl, rfl, ⟨by omega, by omega, by omega, by omega, by omega⟩, tr'.2.1, tr'.1, HX.out.below tr'.2.2, RdRow.below H2.out tr'.2.2, below_then HB2.out tr'.2.2⟩
          case rest =>
          obtain ⟨go, gr, rfl, rfl, HNE, HO, HR, HX3, H3, HB3⟩ := hcut
          clear HX H2 HB2 b0 b1 b2 l0 l1 l2 hmk1 hmk2
          obtain ⟨hne, n1, n2, n3, n4⟩ := HNE.out
          have hzl : z.toList = nums .i64 (List.replicate n 0) := by rw [HZ.out]
          have HO1 : Hid (wc.ownsRow w.heap.size 2 1 (.slice (some ⟨go, 0, none⟩) n n) n (nums .i64 (fillL (quoZ c al zs) n 0))) := by rw [fillL_zero, ← hzl]; exact HO.out
          have HR1 : Hid (wc.ownsRow w.heap.size 3 1 (.slice (some ⟨gr, 0, none⟩) n n) n (nums .i64 (fillL (fun i => (i : Int)) n 0))) := by rw [fillL_zero, ← hzl]; exact HR.out
          clear HO HR hzl HZ hzs HNE
          have b1 := cell_of_row _ (w.heap.size + 1) 0 _ _ _ HX3.out.hg
          simp at b1
          go_wp2
          go_loopw [42, 7] (fun iv lf wr => ∃ k : Nat, k ≤ n ∧ iv = .int .i64 k ∧ lf = .int .i64 (leftZ c al zs k) ∧ Hid (wr.ownsRow w.heap.size 2 1 (.slice (some ⟨go, 0, none⟩) n n) n (nums .i64 (fillL (quoZ c al zs) n k))) ∧ Hid (wr.ownsRow w.heap.size 3 1 (.slice (some ⟨gr, 0, none⟩) n n) n (nums .i64 (fillL (fun i => (i : Int)) n k))) ∧ Hid (ShBox A n cap c al w.heap.size (w.heap.size + 1) ba wr) ∧ Hid (RdRow wr A (nums .i64 zs)) ∧ Hid (Below w.heap.size w wr)) (fun i _ _ => n - (intOf i).toNat)
          case atStart => exact ⟨0, by omega, rfl, rfl, HO1, HR1, HX3, H3, HB3⟩
          case round =>
            clear HO1 HR1 HX3 H3 HB3 b1
            obtain ⟨k, hk, rfl, rfl, HO, HR, HX, H, HB⟩ := hrel
            by_cases hlt : k < n
            · have d4 : decide ((k : Int) < (n : Int)) = true := by simp; omega
              obtain ⟨ad, rfl, c0⟩ := H.out k _ (nums_get (by rw [HL.out]; exact hlt))
              have k0 : (0 : Int) ≤ (k : Int) := by omega
              have k1 : (k : Int) < (n : Int) := by omega
              obtain ⟨m0, m1⟩ := OK.out.prod hlt
              obtain ⟨q0, q1⟩ := OK.out.quo hlt
              have cc1 := OK.out.c1
              obtain ⟨l0, l1⟩ := OK.out.left (k := k) (by omega)
              obtain ⟨l2, l3⟩ := OK.out.left (k := k + 1) (by omega)
              have HLE : Hid (leftZ c al zs (k + 1) = leftZ c al zs k - quoZ c al zs k) := rfl
              rw [HLE.out] at l2 l3
              have b0 := cell_of_row _ w.heap.size 0 _ _ _ HX.out.hc
              have b2 := cell_of_row _ ba 0 _ _ _ HX.out.ha
              simp at b0 b2
              obtain ⟨co, fo⟩ := own_get HO.out (nums_get (by rw [fillL_len]; exact hlt))
              obtain ⟨cr, fr⟩ := own_get HR.out (nums_get (by rw [fillL_len]; exact hlt))
              have eq1 : (c * gi zs k).tdiv al = quoZ c al zs k := rfl
              have x1 : ¬ go = w.heap.size := by omega
              have x2 : ¬ go = ba := by omega
              have x3 : ¬ w.heap.size = go := by omega
              have x4 : ¬ ba = go := by omega
              have x5 : ¬ gr = go := fun e => hne e.symm
              have x6 : ¬ go = gr := hne
              generalize gi (fillL (quoZ c al zs) n k) k = old1 at *
              generalize gi (fillL (fun i => (i : Int)) n k) k = old2 at *
              have zz := HB.out.size
              go_wp2
              go_roundw
              case rel =>
                have u1 := own_touV (own_set HO.out k (by omega) (.int .i64 (quoZ c al zs k))) (TouV.setCell (TouV.refl (.slice (some ⟨gr, 0, none⟩) n n) _) rfl k (.int .i64 (k : Int))) (.inr (by simp only [Value.ownBlock, ne_eq, Option.some.injEq]; exact hne))
                have u2 := own_set (own_touV HR.out (TouV.setCell (TouV.refl (.slice (some ⟨go, 0, none⟩) n n) _) rfl k (.int .i64 (quoZ c al zs k))) (.inr (by simp only [Value.ownBlock, ne_eq, Option.some.injEq]; exact x5))) k (by omega) (.int .i64 (k : Int))
                rw [nums_setL, fillL_set _ hlt] at u1
                rw [nums_setL, fillL_set (fun i => (i : Int)) hlt] at u2
                have t1 : Tou go wr (wr.setCell ⟨go, k, none⟩ (.int .i64 (quoZ c al zs k))) := Tou.setCell wr go k _
                have t2 : Tou gr (wr.setCell ⟨go, k, none⟩ (.int .i64 (quoZ c al zs k))) ((wr.setCell ⟨go, k, none⟩ (.int .i64 (quoZ c al zs k))).setCell ⟨gr, k, none⟩ (.int .i64 (k : Int))) := Tou.setCell _ gr k _
                have u3 : Below w.heap.size w ((wr.setCell ⟨go, k, none⟩ (.int .i64 (quoZ c al zs k))).setCell ⟨gr, k, none⟩ (.int .i64 (k : Int))) := (HB.out.trans (t1.below (by omega))).trans (t2.below (by omega))
                exact ⟨k + 1, by omega, by go_num, by rw [HLE.out], u1, u2, ⟨blk_tou (blk_tou HX.out.hc t1 (by omega)) t2 (by omega), blk_tou (blk_tou HX.out.hg t1 (by omega)) t2 (by omega), blk_tou (blk_tou HX.out.ha t1 (by omega)) t2 (by omega)⟩, RdRow.below HRW.out u3, u3⟩
              case measure => simp [intOf]; omega
            · obtain rfl : k = n := by omega
              have d4 : decide ((k : Int) < (k : Int)) = false := by simp
              have hn60 : k ≤ 60 := OK.out.n60
              have hgr : gr < wr.heap.size := own_lo HR.out (Nat.le_refl _) gr rfl
              have hgo : go < wr.heap.size := own_lo HO.out (Nat.le_refl _) go rfl
              have hOb := HO.out
              rw [fillL_all] at hOb
              have HO2 : Hid (wr.ownsRow w.heap.size 2 1 (.slice (some ⟨go, 0, none⟩) k k) k (nums .i64 (outK (baseZ c al zs k) (remZ c al zs) k 0))) := hOb
              have hRg := HR.out
              rw [fillL_all] at hRg
              have hds : (List.range k).toArray.size = k := by simp
              have hHold : Holds (encN k) wr gr 0 (List.range k).toArray := fun p hp => by
                rw [hds] at hp
                have := own_get hRg (j := p) (u := .int .i64 (p : Int)) (by simp [nums, hp])
                rw [ident_get p hp, encN, Nat.mod_eq_of_lt hp, Nat.zero_add]
                exact this
              have R1 : Row1 (encN k) wr gr 0 (List.range k).toArray := ⟨encN_one k, hHold, hgr⟩
              have eg : ∀ args w, (callFunc 55 args).run Tryz.prog w = .ok (.enter 55 args) w := enters_of Tryz.func55 (by kernel_rfl) rfl
              have hcmp : CmpLays1 Tryz.prog 55 #[.pointer (some ⟨w.heap.size, 0, none⟩), .pointer (some ⟨w.heap.size + 1, 0, none⟩), .pointer (some ⟨ba, 0, none⟩)] (encN k) (cfK (fun x => remZ c al zs (x % k))) gr 0 (List.range k).toArray.size wr := by
                intro m os dk hdk x y
                have hbx : ∀ g o, g < wr.heap.size → g ≠ gr → wr.heap[g]? = some o → (sortWorld (encN k) wr gr 0 m dk os).heap[g]? = some o := fun g o h1 h2 h3 => (sort_block wr gr 0 m dk os hgr g h1 h2).trans h3
                have q0 := cell_of_row _ w.heap.size 0 _ _ _ (hbx _ _ (blk_lt HX.out.hc) (by omega) HX.out.hc)
                have q1 := cell_of_row _ (w.heap.size + 1) 0 _ _ _ (hbx _ _ (blk_lt HX.out.hg) (by omega) HX.out.hg)
                have q2 := cell_of_row _ ba 0 _ _ _ (hbx _ _ (blk_lt HX.out.ha) (by omega) HX.out.ha)
                have hrd : RdRow (sortWorld (encN k) wr gr 0 m dk os) A (nums .i64 zs) := RdRow.below HRW.out (HB.out.trans (below_sort hgr (by omega)))
                refine (c_sc2 A k cap (x % k) (y % k) w.heap.size (w.heap.size + 1) ba zs c al _ hrd HL.out OK.out (Nat.mod_lt _ hn0) (Nat.mod_lt _ hn0) (by simpa using q0) (by simpa using q1) (by simpa using q2)).mono ?_
                rintro e w' ⟨h1, q, h2⟩
                exact ⟨h1, q, #[], by rw [grow_empty]; exact h2⟩
              have CST := Lib.hid (c_sortStable (m0 := k) (fun x => remZ c al zs (x % k)) 55 #[.pointer (some ⟨w.heap.size, 0, none⟩), .pointer (some ⟨w.heap.size + 1, 0, none⟩), .pointer (some ⟨ba, 0, none⟩)] gr 0 k k (List.range k).toArray wr eg hcmp R1 hds hn60 ident_get)
              have HRO := Lib.hid R1
              obtain ⟨lN, hlN⟩ := Int.eq_ofNat_of_zero_le (OK.out.left (Nat.le_refl _)).1
              have hlj : lN ≤ k := by have := OK.out.left_lt; omega
              have HLN := Lib.hid hlN
              have l0 : (0 : Int) ≤ (lN : Int) := by omega
              have l1 : (lN : Int) ≤ (k : Int) := by omega
              rw [hlN]
              clear hOb hRg hHold R1 eg hcmp hlN HO HR HX
              go_upto_region 17 with (go_at_call 54; ((with_reducible refine CST.out.mono ?_); rintro e w2 ⟨rfl, d', k1, k2, k3⟩; have K1 := Lib.hid k1; have K2 := Lib.hid k2; have K3 := Lib.hid k3; clear k1 k2 k3))
              have HOL : Hid (w2.ownsRow w.heap.size 2 1 (.slice (some ⟨go, 0, none⟩) k k) k (nums .i64 (outK (baseZ c al zs k) (remZ c al zs) k 0))) := by
                obtain ⟨m, os, hw⟩ := K3.out
                rw [Hid, hw]
                exact own_sort hgr HO2.out (by simp only [Value.ownBlock, ne_eq, Option.some.injEq]; exact hne)
              have HBL : Hid (Below w.heap.size w w2) := by
                obtain ⟨m, os, hw⟩ := K3.out
                rw [Hid, hw]
                exact HB.out.trans (below_sort hgr (by omega))
              have HCL : Hid (∀ p, p < k → w2.cell? ⟨gr, p, none⟩ = some (.int .i64 ((d'[p]! : Nat) : Int))) := by
                intro p hp
                have := (K3.out.holds HRO.out.hblk HRO.out.hH (by rw [K1.out, hds])) p (by rw [K1.out]; exact hp)
                have hlt := (K2.out.inn p (Nat.zero_le _) hp).2
                rw [Nat.zero_add, encN, Nat.mod_eq_of_lt hlt] at this
                exact this.1
              have HOD := Lib.hid (ord_of (seg_key K2.out))
              have HIN : Hid (∀ p, p < k → d'[p]! < k) := fun p hp => (K2.out.inn p (Nat.zero_le _) hp).2
              clear K1 K2 K3 CST HRO HO2 HB
              go_wp2
              go_loopw [73] (fun iv wr => ∃ p : Nat, p ≤ lN ∧ iv = .int .i64 p ∧ Hid (wr.ownsRow w.heap.size 2 1 (.slice (some ⟨go, 0, none⟩) k k) k (nums .i64 (outK (baseZ c al zs k) (remZ c al zs) k p))) ∧ Hid (∀ p, p < k → wr.cell? ⟨gr, p, none⟩ = some (.int .i64 ((d'[p]! : Nat) : Int))) ∧ Hid (Below w.heap.size w wr)) (fun i _ => lN - (intOf i).toNat)
              case atStart => exact ⟨0, by omega, rfl, HOL, HCL, HBL⟩
              case round =>
                clear HOL HCL HBL
                obtain ⟨p, hp, rfl, HO, HC, HB⟩ := hrel
                by_cases hpl : p < lN
                · have d5 : decide ((p : Int) < (lN : Int)) = true := by simp; omega
                  have hpk : p < k := by omega
                  have cr := HC.out p hpk
                  have hr := HIN.out p hpk
                  have HR2 := Lib.hid ((HOD.out p (by omega)).2 hpk)
                  obtain ⟨o0, o1⟩ := outK_bd (key := remZ c al zs) (base_bd OK.out) (base_len c al zs k) p (by omega) _ hr
                  have hlen : (outK (baseZ c al zs k) (remZ c al zs) k p).length = k := by rw [outK_len, base_len]
                  generalize d'[p]! = r at *
                  obtain ⟨co, fo⟩ := own_get HO.out (nums_get (by rw [hlen]; exact hr))
                  have p0' : (0 : Int) ≤ (p : Int) := by omega
                  have p1' : (p : Int) < (lN : Int) := by omega
                  have r0 : (0 : Int) ≤ (r : Int) := by omega
                  have r1 : (r : Int) < (k : Int) := by omega
                  go_wp2
                  go_roundw
                  case rel =>
                    refine ⟨p + 1, by omega, by go_num, ?_, ?_, ?_⟩
                    · have := own_set HO.out r (by omega) (.int .i64 (gi (outK (baseZ c al zs k) (remZ c al zs) k p) r + 1))
                      rw [outs_set HR2.out] at this
                      exact this
                    · intro q hq
                      have := HC.out q hq
                      rw [World.cell?_setCell_other _ _ _ _ (by intro e; simp only [Addr.mk.injEq] at e; exact hne e.1)]
                      exact this
                    · have hle : w.heap.size ≤ go := by omega
                      exact HB.out.setCell hle _
                  case measure => simp [intOf]; omega
                · obtain rfl : p = lN := by omega
                  have d5 : decide ((p : Int) < (p : Int)) = false := by simp
                  go_wp2
                  go_ret2
                  refine ⟨.slice (some ⟨go, 0, none⟩) k k, ?_, ?_, HB.out⟩
                  · rw [E.out]; rfl
                  · have := HO.out
                    rw [E.out, HLN.out, outK_len, base_len]
                    exact this
end Go.Proofs.YtjhifpidbobmaaaGreatDoor
