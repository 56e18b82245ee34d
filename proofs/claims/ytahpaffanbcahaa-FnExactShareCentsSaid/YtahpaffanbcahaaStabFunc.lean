/- slices.SortStableFunc over at most 60 places. -/
import Derived.Test.YtahpaffanbcahaaStabSort
namespace Go.Proofs.Ytahpaffanbcahaa
open Go.RowKit Go.Shelf Go.Lib Go.Sort
set_option linter.unusedVariables false
set_option linter.unusedSimpArgs false
variable {m0 : Nat}

structure InsInv (key : Nat → Int) (n a : Nat) (d : Array Nat) : Prop where
  size : d.size = n
  s0 : 20 ≤ a → Seg (TK key) 0 20 d
  s1 : 40 ≤ a → Seg (TK key) 20 40 d
  s2 : 60 ≤ a → Seg (TK key) 40 60 d
  r : ∀ p, a ≤ p → p < n → d[p]! = p
theorem InsInv.step {key : Nat → Int} {n a : Nat} {d : Array Nat} (h : InsInv key n a d) (ha : a = 0 ∨ a = 20 ∨ a = 40) (hn : a + 20 ≤ n) : InsInv key n (a + 20) (insertionSort (ltOf (cfK key)) d a (a + 20)) := by
  have hz := h.size
  obtain ⟨k1, k2⟩ := ins_seg (key := key) (a := a) (b := a + 20) (d := d) (by omega) (by omega) (fun p p1 p2 => h.r p p1 (by omega))
  refine ⟨k2.size.trans hz, fun g => ?_, fun g => ?_, fun g => ?_, fun p p1 p2 => by rw [k2.out p (by omega)]; exact h.r p (by omega) p2⟩
  · rcases ha with rfl | rfl | rfl
    · exact k1
    · exact (h.s0 (by omega)).moved k2 (by omega)
    · exact (h.s0 (by omega)).moved k2 (by omega)
  · rcases ha with rfl | rfl | rfl
    · omega
    · exact k1
    · exact (h.s1 (by omega)).moved k2 (by omega)
  · rcases ha with rfl | rfl | rfl
    · omega
    · omega
    · exact k1
/-- Three parts of at most 20 places. -/
structure Lev (key : Nat → Int) (n : Nat) (d : Array Nat) : Prop where
  size : d.size = n
  s0 : Seg (TK key) 0 (min 20 n) d
  s1 : Seg (TK key) (min 20 n) (min 40 n) d
  s2 : Seg (TK key) (min 40 n) n d
theorem InsInv.last {key : Nat → Int} {n a : Nat} {d : Array Nat} (h : InsInv key n a d) (ha : a = 0 ∨ a = 20 ∨ a = 40 ∨ a = 60) (h1 : a ≤ n) (h2 : n < a + 20) (hn : n ≤ 60) : Lev key n (insertionSort (ltOf (cfK key)) d a n) := by
  have hz := h.size
  obtain ⟨k1, k2⟩ := ins_seg (key := key) (a := a) (b := n) (d := d) h1 (by omega) (fun p p1 p2 => h.r p p1 p2)
  refine ⟨k2.size.trans hz, ?_, ?_, ?_⟩
  · rcases ha with rfl | rfl | rfl | rfl
    · rw [show min 20 n = n by omega]; exact k1
    · rw [show min 20 n = 20 by omega]; exact (h.s0 (by omega)).moved k2 (by omega)
    · rw [show min 20 n = 20 by omega]; exact (h.s0 (by omega)).moved k2 (by omega)
    · rw [show min 20 n = 20 by omega]; exact (h.s0 (by omega)).moved k2 (by omega)
  · rcases ha with rfl | rfl | rfl | rfl
    · exact .nil (by omega)
    · rw [show min 20 n = 20 by omega, show min 40 n = n by omega]; exact k1
    · rw [show min 20 n = 20 by omega, show min 40 n = 40 by omega]; exact (h.s1 (by omega)).moved k2 (by omega)
    · rw [show min 20 n = 20 by omega, show min 40 n = 40 by omega]; exact (h.s1 (by omega)).moved k2 (by omega)
  · rcases ha with rfl | rfl | rfl | rfl
    · exact .nil (by omega)
    · exact .nil (by omega)
    · rw [show min 40 n = 40 by omega]; exact k1
    · obtain rfl : n = 60 := by omega
      exact (h.s2 (by omega)).moved k2 (by omega)

set_option maxHeartbeats 4000000 in
set_option maxRecDepth 1000000 in
theorem c_stable (key : Nat → Int) (g : Nat) (cb : Array Value) (blk off cap n : Nat) (d0 : Array Nat) (w0 w : World)
    (eg : ∀ args w, (callFunc g args).run Try.prog w = .ok (.enter g args) w) (hcmp : CmpLays1 Try.prog g cb (encN m0) (cfK key) blk off d0.size w0) (R : Row1 (encN m0) w0 blk off d0) (hn0 : d0.size = n) (hn : n ≤ 60) (hid : ∀ p, p < n → d0[p]! = p) (S : SW (encN m0) w0 blk off d0 w) :
    Calls Try.prog 20 #[.slice (some ⟨blk, off, none⟩) n cap, .int .i64 n, .func (.func g) #[] cb] w fun e w' => e = .returned (.tuple #[]) ∧ ∃ d', d'.size = n ∧ Seg (TK key) 0 n d' ∧ SW (encN m0) w0 blk off d' w' := by
  have S0 : Aside (SW (encN m0) w0 blk off d0 w) := S
  have I0 : Hid (InsInv key n 0 d0) := ⟨hn0, fun h => by omega, fun h => by omega, fun h => by omega, fun p _ hp => hid p hp⟩
  have CI := Lib.hid (fun (a b : Nat) (d : Array Nat) (wr : World) (hz : d.size = n) (hab : a ≤ b) (hb : b ≤ n) (S : SW (encN m0) w0 blk off d wr) => hz ▸ Try.insertionSortCmpFunc_s (encN m0) (cfK key) g cb blk off cap a b d0 d w0 wr eg hcmp R (hn0.trans hz.symm) S hab (by omega) (by omega))
  have CS := Lib.hid (fun (a m b : Nat) (d : Array Nat) (wr : World) (hz : d.size = n) (S : SW (encN m0) w0 blk off d wr) (h1 : a < m) (h2 : m < b) (h3 : b ≤ n) (s1 : Seg (TK key) a m d) (s2 : Seg (TK key) m b d) => c_symMerge (cfK key) (TK key) (TK.trans key) g cb blk off cap n d0 w0 eg hcmp R hn0 (by omega) (b - a) a m b d wr (Nat.le_refl _) hz S h1 h2 h3 s1.asc s2.asc (cross_seg s1 s2))
  clear S hcmp hid
  go_enter Try.func20, Try.ntmps20
  go_wp2
  go_loopw [7, 8] (fun av bv wr => ∃ (a b : Nat) (dk : Array Nat), (a = 0 ∨ a = 20 ∨ a = 40 ∨ a = 60) ∧ a ≤ n ∧ b = a + 20 ∧ av = .int .i64 (a : Int) ∧ bv = .int .i64 (b : Int) ∧ Hid (InsInv key n a dk) ∧ Aside (SW (encN m0) w0 blk off dk wr)) (fun a _ _ => n - (intOf a).toNat)
  case atStart => exact ⟨0, 20, d0, .inl rfl, by omega, rfl, rfl, rfl, I0, S0⟩
  case round =>
    clear S0 I0
    obtain ⟨a, b, dk, ha, han, hb, rfl, rfl, HI, S1⟩ := hrel
    have hz := Lib.hid HI.out.size
    have HBE := Lib.hid hb
    have HAE := Lib.hid ha
    by_cases hbn : b ≤ n
    · have d1 : decide ((b : Int) ≤ (n : Int)) = true := by simp; omega
      have C1 := Lib.hid (CI.out a b dk wr hz.out (by omega) hbn S1.out)
      clear hb ha CI CS
      go_wp2_with (go_at_call 23; ((with_reducible refine C1.out.mono ?_); rintro e w1 ⟨rfl, k2⟩; have K2 := Lib.hid k2; clear k2))
      have hb := HBE.out
      have ha := HAE.out
      go_roundw
      case rel => exact ⟨b, b + 20, _, by omega, hbn, rfl, rfl, by go_num, (by rw [hb]; exact HI.out.step (by omega) (by omega)), (by rw [← hb]; exact K2.out)⟩
      case measure => simp [intOf]; omega
    · have d1 : decide ((b : Int) ≤ (n : Int)) = false := by simp; omega
      have C1 := Lib.hid (CI.out a n dk wr hz.out han (Nat.le_refl _) S1.out)
      have HL := Lib.hid (HI.out.last ha han (by omega) hn)
      clear hb ha CI HI
      by_cases c1 : n ≤ 20
      · have d2 : decide ((20 : Int) < (n : Int)) = false := by simp; omega
        clear CS
        go_wp2_with (go_at_call 23; ((with_reducible refine C1.out.mono ?_); rintro e w1 ⟨rfl, k2⟩; have K2 := Lib.hid k2; clear k2))
        refine wp_loop_rounds 1 ?_
        rw [rounds_succ]
        go_wp2
        go_end0
        have h0 := HL.out.s0
        rw [show min 20 n = n by omega] at h0
        exact ⟨rfl, _, HL.out.size, h0, K2.out⟩
      · have d2 : decide ((20 : Int) < (n : Int)) = true := by simp; omega
        have e20 : min 20 n = 20 := by omega
        have h0 := HL.out.s0
        have h1 := HL.out.s1
        have h2 := HL.out.s2
        have hz1 := HL.out.size
        rw [e20] at h0 h1
        generalize insertionSort (ltOf (cfK key)) dk a n = d1 at *
        by_cases c2 : n < 40
        · have d3 : decide ((40 : Int) ≤ (n : Int)) = false := by simp; omega
          have d4 : decide ((40 : Int) < (n : Int)) = false := by simp; omega
          rw [show min 40 n = n by omega] at h1
          have H0 := Lib.hid h0
          have H1 := Lib.hid h1
          have C2 : Hid (∀ wr, SW (encN m0) w0 blk off d1 wr → Calls Try.prog 24 #[.slice (some ⟨blk, off, none⟩) n cap, .int .i64 0, .int .i64 20, .int .i64 n, .func (.func g) #[] cb] wr fun e w' => e = .returned (.tuple #[]) ∧ ∃ d', Mrg (TK key) 0 n d1 d' ∧ SW (encN m0) w0 blk off d' w') := fun wr S => CS.out 0 20 n d1 wr hz1 S (by omega) (by omega) (Nat.le_refl _) h0 h1
          have HZ := Lib.hid hz1
          clear CS h0 h1 h2 hz1 e20
          go_wp2_with (go_at_call 23; ((with_reducible refine C1.out.mono ?_); rintro e w1 ⟨rfl, k2⟩; have K2 := Lib.hid k2; clear k2))
          refine wp_loop_rounds 2 ?_
          rw [rounds_succ]
          go_wp2
          refine wp_loop_rounds 1 ?_
          rw [rounds_succ]
          go_wp2_with (go_at_call 24; ((with_reducible refine (C2.out _ K2.out).mono ?_); rintro e w2 ⟨rfl, d', k3, k4⟩; have K3 := Lib.hid k3; have K4 := Lib.hid k4; clear k3 k4))
          rw [rounds_succ]
          go_wp2
          go_end0
          exact ⟨rfl, d', K3.out.mv.size.trans HZ.out, Seg.merge H0.out H1.out (by omega) (by omega) K3.out, K4.out⟩
        · have d3 : decide ((40 : Int) ≤ (n : Int)) = true := by simp; omega
          have d5 : decide ((60 : Int) < (n : Int)) = false := by simp; omega
          have d6 : decide ((80 : Int) ≤ (n : Int)) = false := by simp; omega
          have d7 : decide ((80 : Int) < (n : Int)) = false := by simp; omega
          have e40 : min 40 n = 40 := by omega
          rw [e40] at h1 h2
          have H0 := Lib.hid h0
          have H1 := Lib.hid h1
          have H2 := Lib.hid h2
          have C2 : Hid (∀ wr, SW (encN m0) w0 blk off d1 wr → Calls Try.prog 24 #[.slice (some ⟨blk, off, none⟩) n cap, .int .i64 0, .int .i64 20, .int .i64 40, .func (.func g) #[] cb] wr fun e w' => e = .returned (.tuple #[]) ∧ ∃ d', Mrg (TK key) 0 40 d1 d' ∧ SW (encN m0) w0 blk off d' w') := fun wr S => CS.out 0 20 40 d1 wr hz1 S (by omega) (by omega) (by omega) h0 h1
          have HZ := Lib.hid hz1
          clear h0 h1 h2 hz1 e20 e40
          by_cases c3 : n = 40
          · have d4 : decide ((40 : Int) < (n : Int)) = false := by simp; omega
            have C3 := Lib.hid c3
            clear CS c3
            go_wp2_with (go_at_call 23; ((with_reducible refine C1.out.mono ?_); rintro e w1 ⟨rfl, k2⟩; have K2 := Lib.hid k2; clear k2))
            refine wp_loop_rounds 2 ?_
            rw [rounds_succ]
            go_wp2
            refine wp_loop_rounds 2 ?_
            rw [rounds_succ]
            go_wp2_with (go_at_call 24; ((with_reducible refine (C2.out _ K2.out).mono ?_); rintro e w2 ⟨rfl, d', k3, k4⟩; have K3 := Lib.hid k3; have K4 := Lib.hid k4; clear k3 k4))
            rw [rounds_succ]
            go_wp2
            rw [rounds_succ]
            go_wp2
            go_end0
            exact ⟨rfl, d', K3.out.mv.size.trans HZ.out, (by rw [C3.out]; exact Seg.merge H0.out H1.out (by omega) (by omega) K3.out), K4.out⟩
          · have d4 : decide ((40 : Int) < (n : Int)) = true := by simp; omega
            have C4 : Hid (∀ d' wr, SW (encN m0) w0 blk off d' wr → d'.size = n → Seg (TK key) 0 40 d' → Seg (TK key) 40 n d' → Calls Try.prog 24 #[.slice (some ⟨blk, off, none⟩) n cap, .int .i64 0, .int .i64 40, .int .i64 n, .func (.func g) #[] cb] wr fun e w' => e = .returned (.tuple #[]) ∧ ∃ d'', Mrg (TK key) 0 n d' d'' ∧ SW (encN m0) w0 blk off d'' w') := fun d' wr S z a b => CS.out 0 40 n d' wr z S (by omega) (by omega) (Nat.le_refl _) a b
            clear CS c3
            go_wp2_with (go_at_call 23; ((with_reducible refine C1.out.mono ?_); rintro e w1 ⟨rfl, k2⟩; have K2 := Lib.hid k2; clear k2))
            refine wp_loop_rounds 3 ?_
            rw [rounds_succ]
            go_wp2
            refine wp_loop_rounds 2 ?_
            rw [rounds_succ]
            go_wp2_with (go_at_call 24; ((with_reducible refine (C2.out _ K2.out).mono ?_); rintro e w2 ⟨rfl, d', k3, k4⟩; have K3 := Lib.hid k3; have K4 := Lib.hid k4; clear k3 k4))
            rw [rounds_succ]
            go_wp2
            have HZ2 := Lib.hid (K3.out.mv.size.trans HZ.out)
            have HA := Lib.hid (Seg.merge H0.out H1.out (by omega) (by omega) K3.out)
            have HB := Lib.hid (H2.out.moved K3.out.mv (by omega))
            have C5 := Lib.hid (C4.out d' _ K4.out HZ2.out HA.out HB.out)
            clear C2 C4 C1
            rw [rounds_succ]
            go_wp2
            refine wp_loop_rounds 1 ?_
            rw [rounds_succ]
            go_wp2_with (go_at_call 24; ((with_reducible refine C5.out.mono ?_); rintro e w3 ⟨rfl, d'', k3, k4⟩; have K5 := Lib.hid k3; have K6 := Lib.hid k4; clear k3 k4))
            rw [rounds_succ]
            go_wp2
            go_end0
            exact ⟨rfl, d'', K5.out.mv.size.trans HZ2.out, Seg.merge HA.out HB.out (by omega) (by omega) K5.out, K6.out⟩
theorem c_sortStable (key : Nat → Int) (g : Nat) (cb : Array Value) (blk off cap n : Nat) (d0 : Array Nat) (w : World)
    (eg : ∀ args w, (callFunc g args).run Try.prog w = .ok (.enter g args) w) (hcmp : CmpLays1 Try.prog g cb (encN m0) (cfK key) blk off d0.size w) (R : Row1 (encN m0) w blk off d0) (hn0 : d0.size = n) (hn : n ≤ 60) (hid : ∀ p, p < n → d0[p]! = p) :
    Calls Try.prog 15 #[.slice (some ⟨blk, off, none⟩) n cap, .func (.func g) #[] cb] w fun e w' => e = .returned (.tuple #[]) ∧ ∃ d', d'.size = n ∧ Seg (TK key) 0 n d' ∧ SW (encN m0) w blk off d' w' := by
  have C := Lib.hid (c_stable key g cb blk off cap n d0 w w eg hcmp R hn0 hn hid (SW.start R.hH))
  clear hcmp hid
  go_enter Try.func15, Try.ntmps15
  go_wp2_with (go_at_call 20; ((with_reducible refine C.out.mono ?_); rintro e w1 ⟨rfl, k⟩; have K := Lib.hid k; clear k))
  go_end0
  exact ⟨rfl, K.out⟩
end Go.Proofs.Ytahpaffanbcahaa
