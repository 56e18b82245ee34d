/- Texts laid together: StabWalk, StabSym. -/
import Derived.Test.YtjhifpidbobmaaaGreatDoorMg16
import Derived.Test.YtjhifpidbobmaaaGreatDoorMg02
import Derived.Sort.WalkB2
import Derived.Sort.WalkB12
import Derived.Deep.LoopGhost
import Derived.Deep.DeepCutAuto
/- slices.swapRangeCmpFunc and slices.rotateCmpFunc, at numbers. -/
namespace Go.Proofs.YtjhifpidbobmaaaGreatDoor
open Go.RowKit Go.Shelf Go.Lib Go.Sort
set_option linter.unusedVariables false
set_option linter.unusedSimpArgs false

/-- A place as Go keeps it (a number beyond m is never kept: it stands for its remainder). -/
def encN (m x : Nat) : Value := .int .i64 ((x % m : Nat) : Int)
theorem encN_one (m : Nat) : OneCell (encN m) := fun _ => rfl
variable {m0 : Nat}
set_option maxHeartbeats 4000000 in
set_option maxRecDepth 1000000 in
theorem c_swapRange (blk off cap a b n : Nat) (d0 d : Array Nat) (w0 w : World) (fv : Value)
    (R : Row1 (encN m0) w0 blk off d0) (hs : d0.size = d.size) (S : SW (encN m0) w0 blk off d w) (h1 : a + n ≤ b) (h2 : b + n ≤ d.size) (hsz : d.size < 4611686018427387904) :
    Calls Tryz.prog 120 #[.slice (some ⟨blk, off, none⟩) d.size cap, .int .i64 a, .int .i64 b, .int .i64 n, fv] w fun e w' => e = .returned (.tuple #[]) ∧ ∃ d', SwR a b n d d' ∧ SW (encN m0) w0 blk off d' w' := by
  have S0 : Aside (SW (encN m0) w0 blk off d w) := S
  clear S
  have mixed : Tryz.prog.follows Departure.mixedOrders = true := by kernel_rfl
  have hcl0 := R.hO.cells
  simp only [Value.cells] at hcl0
  have hst := R.hO.store Tryz.prog
  go_enter Tryz.func120, Tryz.ntmps120
  go_wp2
  go_loopw [10] (fun i wr => ∃ (k : Nat) (dk : Array Nat), k ≤ n ∧ i = .int .i64 (k : Int) ∧ Aside (SwR a b k d dk) ∧ Aside (SW (encN m0) w0 blk off dk wr)) (fun i _ => n - (intOf i).toNat)
  case atStart => exact ⟨0, d, by omega, rfl, SwR.zero _ _ _, S0⟩
  case round =>
    clear S0
    obtain ⟨k, dk, hk, rfl, HR, S1⟩ := hrel
    have hsk := HR.out.size
    by_cases hkn : k < n
    · have d1 : decide ((k : Int) < (n : Int)) = true := by simp; omega
      obtain ⟨iN, hiN⟩ : ∃ q, q = a + k := ⟨_, rfl⟩
      obtain ⟨jN, hjN⟩ : ∃ q, q = b + k := ⟨_, rfl⟩
      have ea : ((a : Int) + (k : Int)).toNat = iN := by omega
      have pa : (0 : Int) ≤ (a : Int) + (k : Int) := by omega
      have ba : (a : Int) + (k : Int) < (d.size : Int) := by omega
      have ra : IntKind.i64.wrap ((a : Int) + (k : Int)) = (a : Int) + (k : Int) := by rw [IntKind.wrap_i64]; omega
      have ec : ((b : Int) + (k : Int)).toNat = jN := by omega
      have pc : (0 : Int) ≤ (b : Int) + (k : Int) := by omega
      have bc : (b : Int) + (k : Int) < (d.size : Int) := by omega
      have rc : IntKind.i64.wrap ((b : Int) + (k : Int)) = (b : Int) + (k : Int) := by rw [IntKind.wrap_i64]; omega
      obtain ⟨x, hx⟩ : ∃ x, x = dk[a + k]! := ⟨_, rfl⟩
      obtain ⟨y, hy⟩ : ∃ x, x = dk[b + k]! := ⟨_, rfl⟩
      have S3 : Aside (SW (encN m0) w0 blk off (swp dk (a + k) (b + k)) ((wr.setCell ⟨blk, off + iN, none⟩ (encN m0 y)).setCell ⟨blk, off + jN, none⟩ (encN m0 x)).drew) := by rw [hiN, hjN, hx, hy]; exact S1.out.swapped R (a + k) (b + k) (by omega) (by omega)
      have ca := S1.out.c1 R (by omega) (a + k) (by omega)
      have cb := S1.out.c1 R (by omega) (b + k) (by omega)
      have fa := S1.out.f1 R (by omega) (a + k) (by omega)
      have fb := S1.out.f1 R (by omega) (b + k) (by omega)
      obtain ⟨u, cc⟩ := S1.out.c2 R (by omega) (a + k) (b + k) (by omega) (by omega) (encN m0 y)
      rw [← hjN, ← hiN] at cc
      rw [← hx, ← hiN] at ca
      rw [← hy, ← hjN] at cb
      rw [← hiN] at fa
      rw [← hjN] at fb
      have HR2 : Aside (SwR a b (k + 1) d (swp dk (a + k) (b + k))) := HR.out.step h1 h2 hkn
      clear S1 hx hy hiN hjN HR
      go_wp2_with fail
      go_big_region_o
      clear ca cb cc fa fb
      generalize ((wr.setCell ⟨blk, off + iN, none⟩ (encN m0 y)).setCell ⟨blk, off + jN, none⟩ (encN m0 x)).drew = w3 at S3 ⊢
      clear ea ec
      go_wp2
      go_roundw
      case rel => exact ⟨k + 1, _, by omega, by go_num, HR2, S3⟩
      case measure => simp [intOf]; omega
    · obtain rfl : k = n := by omega
      have d1 : decide ((k : Int) < (k : Int)) = false := by simp
      go_wp2
      go_end0
      exact ⟨rfl, dk, HR.out, S1.out⟩

set_option maxHeartbeats 4000000 in
set_option maxRecDepth 1000000 in
theorem c_rotate (blk off cap a m b : Nat) (d0 d : Array Nat) (w0 w : World) (fv : Value)
    (R : Row1 (encN m0) w0 blk off d0) (hs : d0.size = d.size) (S : SW (encN m0) w0 blk off d w) (h1 : a < m) (h2 : m < b) (h3 : b ≤ d.size) (hsz : d.size < 4611686018427387904) :
    Calls Tryz.prog 103 #[.slice (some ⟨blk, off, none⟩) d.size cap, .int .i64 a, .int .i64 m, .int .i64 b, fv] w fun e w' => e = .returned (.tuple #[]) ∧ ∃ d', Rot a m b d d' ∧ SW (encN m0) w0 blk off d' w' := by
  have S0 : Aside (SW (encN m0) w0 blk off d w) := S
  clear S
  have C := Lib.hid (fun (i j n : Nat) (dk : Array Nat) (wr : World) (hz : dk.size = d.size) (h1 : i + n ≤ j) (h2 : j + n ≤ d.size) (S : SW (encN m0) w0 blk off dk wr) => hz ▸ c_swapRange blk off cap i j n d0 dk w0 wr fv R (hs.trans hz.symm) S h1 (by omega) (by omega))
  go_enter Tryz.func103, Tryz.ntmps103
  go_wp2
  go_loopw [10, 11] (fun iv jv wr => ∃ (i j : Nat) (dk : Array Nat), 0 < i ∧ i ≤ m ∧ 0 < j ∧ m + j ≤ b ∧ iv = .int .i64 (i : Int) ∧ jv = .int .i64 (j : Int) ∧ dk.size = d.size ∧ Aside (∀ e, Rot (m - i) m (m + j) dk e → Rot a m b d e) ∧ Aside (SW (encN m0) w0 blk off dk wr)) (fun i j _ => (intOf i).toNat + (intOf j).toNat)
  case atStart => exact ⟨m - a, b - m, d, by omega, by omega, by omega, by omega, by go_num, by go_num, rfl, (fun e h => by rwa [show m - (m - a) = a by omega, show m + (b - m) = b by omega] at h), S0⟩
  case round =>
    clear S0
    obtain ⟨i, j, dk, hi, him, hj, hjb, rfl, rfl, hz, HR, S1⟩ := hrel
    by_cases hij : i = j
    · subst hij
      have d1 : ((i : Int) != (i : Int)) = false := by simp
      obtain ⟨p, hp⟩ : ∃ p : Nat, p = m - i := ⟨_, rfl⟩
      have hpi : (m : Int) - (i : Int) = (p : Int) := by omega
      have C1 := Lib.hid (C.out p m i dk wr hz (by omega) (by omega) S1.out)
      have HP := Lib.hid hp
      clear hp
      clear C
      go_wp2_with (go_at_call 120; ((with_reducible refine C1.out.mono ?_); rintro e w1 ⟨rfl, d', k1, k2⟩; have K1 := Lib.hid k1; have K2 := Lib.hid k2; clear k1 k2))
      go_end0
      refine ⟨rfl, d', HR.out _ (Rot.even him ?_), K2.out⟩
      rw [← HP.out]; exact K1.out
    · have d1 : ((i : Int) != (j : Int)) = true := by simp; omega
      by_cases hgt : j < i
      · have d2 : decide ((j : Int) < (i : Int)) = true := by simp; omega
        obtain ⟨p, hp⟩ : ∃ p : Nat, p = m - i := ⟨_, rfl⟩
        have hpi : (m : Int) - (i : Int) = (p : Int) := by omega
        have C1 := Lib.hid (C.out p m j dk wr hz (by omega) (by omega) S1.out)
        have HP := Lib.hid hp
        clear hp
        go_wp2_with (go_at_call 120; ((with_reducible refine C1.out.mono ?_); rintro e w1 ⟨rfl, d', k1, k2⟩; have K1 := Lib.hid k1; have K2 := Lib.hid k2; clear k1 k2))
        go_roundw
        case rel => exact ⟨i - j, j, d', by omega, by omega, hj, hjb, by go_num, rfl, K1.out.size.trans hz, (fun e h => HR.out e (Rot.left_long him hgt (by rw [← HP.out]; exact K1.out) h)), K2.out⟩
        case measure => simp [intOf]; omega
      · have d2 : decide ((j : Int) < (i : Int)) = false := by simp; omega
        obtain ⟨p, hp⟩ : ∃ p : Nat, p = m - i := ⟨_, rfl⟩
        have hpi : (m : Int) - (i : Int) = (p : Int) := by omega
        obtain ⟨q, hq⟩ : ∃ q : Nat, q = m + j - i := ⟨_, rfl⟩
        have hqi : (m : Int) + (j : Int) - (i : Int) = (q : Int) := by omega
        have C1 := Lib.hid (C.out p q i dk wr hz (by omega) (by omega) S1.out)
        have HP := Lib.hid hp
        clear hp
        have HQ := Lib.hid hq
        clear hq
        go_wp2_with (go_at_call 120; ((with_reducible refine C1.out.mono ?_); rintro e w1 ⟨rfl, d', k1, k2⟩; have K1 := Lib.hid k1; have K2 := Lib.hid k2; clear k1 k2))
        go_roundw
        case rel => exact ⟨i, j - i, d', hi, him, by omega, by omega, rfl, by go_num, K1.out.size.trans hz, (fun e h => HR.out e (Rot.right_long him (by omega) (by rw [← HP.out, ← HQ.out]; exact K1.out) h)), K2.out⟩
        case measure => simp [intOf]; omega
end Go.Proofs.YtjhifpidbobmaaaGreatDoor
/- slices.symMergeCmpFunc, at numbers (printed by stabsym.py). -/
namespace Go.Proofs.YtjhifpidbobmaaaGreatDoor
open Go.RowKit Go.Shelf Go.Lib Go.Sort
set_option linter.unusedVariables false
set_option linter.unusedSimpArgs false
variable {m0 : Nat}

set_option maxHeartbeats 8000000 in
set_option maxRecDepth 1000000 in
/-- One element on the left. -/
theorem c_sym_fst (cf : Nat → Nat → Int) (T : Nat → Nat → Prop) (tr : ∀ x y z, T x y → T y z → T x z) (g : Nat) (cb : Array Value) (blk off cap : Nat) (d0 : Array Nat) (w0 : World)
    (eg : ∀ args w, (callFunc g args).run Tryz.prog w = .ok (.enter g args) w) (hcmp : CmpLays1 Tryz.prog g cb (encN m0) cf blk off d0.size w0) (R : Row1 (encN m0) w0 blk off d0) (hsz : d0.size < 4611686018427387904) (a m b : Nat) (d : Array Nat) (w : World) (hs : d0.size = d.size) (S : SW (encN m0) w0 blk off d w) (hm : m = a + 1) (h2 : m < b) (h3 : b ≤ d.size) (hA : Asc T m b d) (hX : Cross (ltOf cf) T a m b d) :
    Calls Tryz.prog 92 #[.slice (some ⟨blk, off, none⟩) d.size cap, .int .i64 a, .int .i64 m, .int .i64 b, .func (.func g) #[] cb] w fun e w' => e = .returned (.tuple #[]) ∧ ∃ d', Mrg T a b d d' ∧ SW (encN m0) w0 blk off d' w' := by
  have e1 : (m : Int) - (a : Int) = 1 := by omega
  have e1' : ((1 : Int) == 1) = true := rfl
  have HM := Lib.hid hm
  have h1 : a < m := by omega
  clear hm
  have S0 : Aside (SW (encN m0) w0 blk off d w) := S
  have HX := Lib.hid hX
  have HC : Aside _ := hcmp
  have HA := Lib.hid hA
  clear S hX hcmp hA
  rw [hs] at hsz
  have mixed : Tryz.prog.follows Departure.mixedOrders = true := by kernel_rfl
  have hcl0 := R.hO.cells
  simp only [Value.cells] at hcl0
  have hst := R.hO.store Tryz.prog
  go_enter Tryz.func92, Tryz.ntmps92
  go_wp2
  go_loopw [10, 11] (fun iv jv wr => ∃ (i j : Nat), iv = .int .i64 (i : Int) ∧ jv = .int .i64 (j : Int) ∧ Hid (Fst T a m b i j d) ∧ Aside (SW (encN m0) w0 blk off d wr)) (fun i j _ => (intOf j).toNat - (intOf i).toNat)
  case atStart => exact ⟨m, b, rfl, rfl, ⟨Nat.le_refl _, by omega, Nat.le_refl _, .inl rfl, .inl rfl⟩, S0⟩
  case round =>
    clear S0
    obtain ⟨i, j, rfl, rfl, HF, S1⟩ := hrel
    have f1 := HF.out.lo
    have f2 := HF.out.le
    have f3 := HF.out.hi
    by_cases hij : i < j
    · have d1 : decide ((i : Int) < (j : Int)) = true := by simp; omega
      obtain ⟨h, hh⟩ : ∃ h : Nat, h = (i + j) / 2 := ⟨_, rfl⟩
      have hb1 : i ≤ h := by omega
      have hb2 : h < j := by omega
      have e2 : ((i : Int) + (j : Int)) / 2 = (h : Int) := by omega
      have HH := Lib.hid hh
      clear hh
      cases hlv : ltOf cf d[h]! d[a]! with
      | true =>
        obtain ⟨iN, hiN⟩ : ∃ q, q = h := ⟨_, rfl⟩
        obtain ⟨jN, hjN⟩ : ∃ q, q = a := ⟨_, rfl⟩
        have ea : ((h : Int)).toNat = iN := by omega
        have pa : (0 : Int) ≤ (h : Int) := by omega
        have ba : (h : Int) < (d.size : Int) := by omega
        have ec : ((a : Int)).toNat = jN := by omega
        have pc : (0 : Int) ≤ (a : Int) := by omega
        have bc : (a : Int) < (d.size : Int) := by omega
        obtain ⟨x, hx⟩ : ∃ x, x = d[h]! := ⟨_, rfl⟩
        obtain ⟨y, hy⟩ : ∃ x, x = d[a]! := ⟨_, rfl⟩
        have la := S1.out.cl R (by omega) (h) (by omega)
        have lb := S1.out.cl R (by omega) (a) (by omega)
        rw [← hx, ← hiN] at la
        rw [← hy, ← hjN] at lb
        have hc := S1.out.cmp HC.out (by omega) x y
        have hv : cf x y < 0 := by rw [hx, hy]; exact of_decide_eq_true hlv
        have hd : decide (cf x y < 0) = true := decide_eq_true hv
        have HLV := Lib.hid hlv
        clear hx hy hiN hjN hlv
        go_wp2_with fail
        go_quiet_grown (first | (go_at_fn g; refine Calls.grown_of (hc _ _)))
        have S2 : Aside (SW (encN m0) w0 blk off d (grow (wr.drewN nq) osq)) := S1.out.grown nq osq
        clear la lb hc S1
        generalize grow (wr.drewN nq) osq = w2 at S2 ⊢
        clear nq osq
        go_wp2
        go_roundw
        case rel => exact ⟨h + 1, j, by go_num, rfl, ⟨by omega, by omega, f3, .inr (HX.out.yes a h (Nat.le_refl _) h1 (by omega) (by omega) HLV.out), HF.out.r⟩, S2⟩
        case measure => simp [intOf]; omega
      | false =>
        obtain ⟨iN, hiN⟩ : ∃ q, q = h := ⟨_, rfl⟩
        obtain ⟨jN, hjN⟩ : ∃ q, q = a := ⟨_, rfl⟩
        have ea : ((h : Int)).toNat = iN := by omega
        have pa : (0 : Int) ≤ (h : Int) := by omega
        have ba : (h : Int) < (d.size : Int) := by omega
        have ec : ((a : Int)).toNat = jN := by omega
        have pc : (0 : Int) ≤ (a : Int) := by omega
        have bc : (a : Int) < (d.size : Int) := by omega
        obtain ⟨x, hx⟩ : ∃ x, x = d[h]! := ⟨_, rfl⟩
        obtain ⟨y, hy⟩ : ∃ x, x = d[a]! := ⟨_, rfl⟩
        have la := S1.out.cl R (by omega) (h) (by omega)
        have lb := S1.out.cl R (by omega) (a) (by omega)
        rw [← hx, ← hiN] at la
        rw [← hy, ← hjN] at lb
        have hc := S1.out.cmp HC.out (by omega) x y
        have hv : ¬ cf x y < 0 := by rw [hx, hy]; exact of_decide_eq_false hlv
        have hd : decide (cf x y < 0) = false := decide_eq_false hv
        have HLV := Lib.hid hlv
        clear hx hy hiN hjN hlv
        go_wp2_with fail
        go_quiet_grown (first | (go_at_fn g; refine Calls.grown_of (hc _ _)))
        have S2 : Aside (SW (encN m0) w0 blk off d (grow (wr.drewN nq) osq)) := S1.out.grown nq osq
        clear la lb hc S1
        generalize grow (wr.drewN nq) osq = w2 at S2 ⊢
        clear nq osq
        go_wp2
        go_roundw
        case rel => exact ⟨i, h, rfl, rfl, ⟨f1, hb1, by omega, HF.out.l, .inr (HX.out.no a h (Nat.le_refl _) h1 (by omega) (by omega) HLV.out)⟩, S2⟩
        case measure => simp [intOf]; omega
    · obtain rfl : i = j := by omega
      have d1 : decide ((i : Int) < (i : Int)) = false := by simp
      obtain ⟨ip, hip⟩ : ∃ ip : Nat, ip + 1 = i := ⟨i - 1, by omega⟩
      have e3 : (i : Int) - 1 = (ip : Int) := by omega
      have HI := Lib.hid hip
      have hip1 : a ≤ ip := by omega
      have hip2 : ip < b := by omega
      clear hip
      go_wp2
      go_loopw [13] (fun kv wr => ∃ (k : Nat) (dk : Array Nat), a ≤ k ∧ k ≤ ip ∧ kv = .int .i64 (k : Int) ∧ Hid (Rot a m (k + 1) d dk) ∧ Aside (SW (encN m0) w0 blk off dk wr)) (fun k _ => ip - (intOf k).toNat)
      case atStart => exact ⟨a, d, Nat.le_refl _, hip1, rfl, (by rw [Hid, HM.out]; exact Rot.none_right d (by omega)), S1⟩
      case round =>
        clear S1
        obtain ⟨k, dk, k1, k2, rfl, HR, S1⟩ := hrel
        have hz := HR.out.size
        by_cases hk : k < ip
        · have d2 : decide ((k : Int) < (ip : Int)) = true := by simp; omega
          obtain ⟨iN, hiN⟩ : ∃ q, q = k := ⟨_, rfl⟩
          obtain ⟨jN, hjN⟩ : ∃ q, q = k + 1 := ⟨_, rfl⟩
          have ea : ((k : Int)).toNat = iN := by omega
          have pa : (0 : Int) ≤ (k : Int) := by omega
          have ba : (k : Int) < (d.size : Int) := by omega
          have ra : IntKind.i64.wrap ((k : Int)) = (k : Int) := by rw [IntKind.wrap_i64]; omega
          have ec : ((k : Int) + 1).toNat = jN := by omega
          have pc : (0 : Int) ≤ (k : Int) + 1 := by omega
          have bc : (k : Int) + 1 < (d.size : Int) := by omega
          have rc : IntKind.i64.wrap ((k : Int) + 1) = (k : Int) + 1 := by rw [IntKind.wrap_i64]; omega
          obtain ⟨x, hx⟩ : ∃ x, x = dk[k]! := ⟨_, rfl⟩
          obtain ⟨y, hy⟩ : ∃ x, x = dk[k + 1]! := ⟨_, rfl⟩
          have S3 : Aside (SW (encN m0) w0 blk off (swp dk (k) (k + 1)) ((wr.setCell ⟨blk, off + iN, none⟩ (encN m0 y)).setCell ⟨blk, off + jN, none⟩ (encN m0 x)).drew) := by rw [hiN, hjN, hx, hy]; exact S1.out.swapped R (k) (k + 1) (by omega) (by omega)
          have ca := S1.out.c1 R (by omega) (k) (by omega)
          have cb := S1.out.c1 R (by omega) (k + 1) (by omega)
          have fa := S1.out.f1 R (by omega) (k) (by omega)
          have fb := S1.out.f1 R (by omega) (k + 1) (by omega)
          obtain ⟨u, cc⟩ := S1.out.c2 R (by omega) (k) (k + 1) (by omega) (by omega) (encN m0 y)
          rw [← hjN, ← hiN] at cc
          rw [← hx, ← hiN] at ca
          rw [← hy, ← hjN] at cb
          rw [← hiN] at fa
          rw [← hjN] at fb
          have HR2 := Lib.hid ((show Rot a m (k + 2) d (swp dk k (k + 1)) from by have := HR.out; rw [HM.out] at this ⊢; exact this.right_one k1 (by omega)))
          clear S1 hx hy hiN hjN HR
          go_wp2_with fail
          go_big_region_o
          clear ca cb cc fa fb
          generalize ((wr.setCell ⟨blk, off + iN, none⟩ (encN m0 y)).setCell ⟨blk, off + jN, none⟩ (encN m0 x)).drew = w3 at S3 ⊢
          clear ea ec
          go_wp2
          go_roundw
          case rel => exact ⟨k + 1, _, by omega, by omega, by go_num, HR2.out, S3⟩
          case measure => simp [intOf]; omega
        · obtain rfl : k = ip := by omega
          have d2 : decide ((k : Int) < (k : Int)) = false := by simp
          go_wp2
          try simp only [Exit.inBlock, Exit.then]

          refine bodyPost_ret (results_none rfl _ _ _) rfl ?_
          refine ⟨rfl, dk, ?_, S1.out⟩
          have h1 := HR.out
          have h2 := HF.out
          have h3 := HA.out
          rw [HI.out, HM.out] at h1
          rw [HM.out] at h2 h3
          exact h2.merge tr h3 h1

set_option maxHeartbeats 8000000 in
set_option maxRecDepth 1000000 in
/-- One element on the right. -/
theorem c_sym_lst (cf : Nat → Nat → Int) (T : Nat → Nat → Prop) (tr : ∀ x y z, T x y → T y z → T x z) (g : Nat) (cb : Array Value) (blk off cap : Nat) (d0 : Array Nat) (w0 : World)
    (eg : ∀ args w, (callFunc g args).run Tryz.prog w = .ok (.enter g args) w) (hcmp : CmpLays1 Tryz.prog g cb (encN m0) cf blk off d0.size w0) (R : Row1 (encN m0) w0 blk off d0) (hsz : d0.size < 4611686018427387904) (a m b : Nat) (d : Array Nat) (w : World) (hs : d0.size = d.size) (S : SW (encN m0) w0 blk off d w) (h2 : a + 1 < m) (hm : b = m + 1) (h3 : b ≤ d.size) (hA : Asc T a m d) (hX : Cross (ltOf cf) T a m b d) :
    Calls Tryz.prog 92 #[.slice (some ⟨blk, off, none⟩) d.size cap, .int .i64 a, .int .i64 m, .int .i64 b, .func (.func g) #[] cb] w fun e w' => e = .returned (.tuple #[]) ∧ ∃ d', Mrg T a b d d' ∧ SW (encN m0) w0 blk off d' w' := by
  have e0 : ((m : Int) - (a : Int) == 1) = false := by simp; omega
  have e1 : (b : Int) - (m : Int) = 1 := by omega
  have e1' : ((1 : Int) == 1) = true := rfl
  have HM := Lib.hid hm
  have h1 : m < b := by omega
  have h4 : b ≤ m + 1 := by omega
  clear hm
  have S0 : Aside (SW (encN m0) w0 blk off d w) := S
  have HX := Lib.hid hX
  have HC : Aside _ := hcmp
  have HA := Lib.hid hA
  clear S hX hcmp hA
  rw [hs] at hsz
  have mixed : Tryz.prog.follows Departure.mixedOrders = true := by kernel_rfl
  have hcl0 := R.hO.cells
  simp only [Value.cells] at hcl0
  have hst := R.hO.store Tryz.prog
  go_enter Tryz.func92, Tryz.ntmps92
  go_wp2
  go_loopw [14, 15] (fun iv jv wr => ∃ (i j : Nat), iv = .int .i64 (i : Int) ∧ jv = .int .i64 (j : Int) ∧ Hid (Lst T a m i j d) ∧ Aside (SW (encN m0) w0 blk off d wr)) (fun i j _ => (intOf j).toNat - (intOf i).toNat)
  case atStart => exact ⟨a, m, rfl, rfl, ⟨Nat.le_refl _, by omega, Nat.le_refl _, .inl rfl, .inl rfl⟩, S0⟩
  case round =>
    clear S0
    obtain ⟨i, j, rfl, rfl, HF, S1⟩ := hrel
    have f1 := HF.out.lo
    have f2 := HF.out.le
    have f3 := HF.out.hi
    by_cases hij : i < j
    · have d1 : decide ((i : Int) < (j : Int)) = true := by simp; omega
      obtain ⟨h, hh⟩ : ∃ h : Nat, h = (i + j) / 2 := ⟨_, rfl⟩
      have hb1 : i ≤ h := by omega
      have hb2 : h < j := by omega
      have e2 : ((i : Int) + (j : Int)) / 2 = (h : Int) := by omega
      have HH := Lib.hid hh
      clear hh
      cases hlv : ltOf cf d[m]! d[h]! with
      | false =>
        obtain ⟨iN, hiN⟩ : ∃ q, q = m := ⟨_, rfl⟩
        obtain ⟨jN, hjN⟩ : ∃ q, q = h := ⟨_, rfl⟩
        have ea : ((m : Int)).toNat = iN := by omega
        have pa : (0 : Int) ≤ (m : Int) := by omega
        have ba : (m : Int) < (d.size : Int) := by omega
        have ec : ((h : Int)).toNat = jN := by omega
        have pc : (0 : Int) ≤ (h : Int) := by omega
        have bc : (h : Int) < (d.size : Int) := by omega
        obtain ⟨x, hx⟩ : ∃ x, x = d[m]! := ⟨_, rfl⟩
        obtain ⟨y, hy⟩ : ∃ x, x = d[h]! := ⟨_, rfl⟩
        have la := S1.out.cl R (by omega) (m) (by omega)
        have lb := S1.out.cl R (by omega) (h) (by omega)
        rw [← hx, ← hiN] at la
        rw [← hy, ← hjN] at lb
        have hc := S1.out.cmp HC.out (by omega) x y
        have hv : ¬ cf x y < 0 := by rw [hx, hy]; exact of_decide_eq_false hlv
        have hd : decide (cf x y < 0) = false := decide_eq_false hv
        have HLV := Lib.hid hlv
        clear hx hy hiN hjN hlv
        go_wp2_with fail
        go_quiet_grown (first | (go_at_fn g; refine Calls.grown_of (hc _ _)))
        have S2 : Aside (SW (encN m0) w0 blk off d (grow (wr.drewN nq) osq)) := S1.out.grown nq osq
        clear la lb hc S1
        generalize grow (wr.drewN nq) osq = w2 at S2 ⊢
        clear nq osq
        go_wp2
        go_roundw
        case rel => exact ⟨h + 1, j, by go_num, rfl, ⟨by omega, by omega, f3, .inr (HX.out.no h m (by omega) (by omega) (Nat.le_refl _) h1 HLV.out), HF.out.r⟩, S2⟩
        case measure => simp [intOf]; omega
      | true =>
        obtain ⟨iN, hiN⟩ : ∃ q, q = m := ⟨_, rfl⟩
        obtain ⟨jN, hjN⟩ : ∃ q, q = h := ⟨_, rfl⟩
        have ea : ((m : Int)).toNat = iN := by omega
        have pa : (0 : Int) ≤ (m : Int) := by omega
        have ba : (m : Int) < (d.size : Int) := by omega
        have ec : ((h : Int)).toNat = jN := by omega
        have pc : (0 : Int) ≤ (h : Int) := by omega
        have bc : (h : Int) < (d.size : Int) := by omega
        obtain ⟨x, hx⟩ : ∃ x, x = d[m]! := ⟨_, rfl⟩
        obtain ⟨y, hy⟩ : ∃ x, x = d[h]! := ⟨_, rfl⟩
        have la := S1.out.cl R (by omega) (m) (by omega)
        have lb := S1.out.cl R (by omega) (h) (by omega)
        rw [← hx, ← hiN] at la
        rw [← hy, ← hjN] at lb
        have hc := S1.out.cmp HC.out (by omega) x y
        have hv : cf x y < 0 := by rw [hx, hy]; exact of_decide_eq_true hlv
        have hd : decide (cf x y < 0) = true := decide_eq_true hv
        have HLV := Lib.hid hlv
        clear hx hy hiN hjN hlv
        go_wp2_with fail
        go_quiet_grown (first | (go_at_fn g; refine Calls.grown_of (hc _ _)))
        have S2 : Aside (SW (encN m0) w0 blk off d (grow (wr.drewN nq) osq)) := S1.out.grown nq osq
        clear la lb hc S1
        generalize grow (wr.drewN nq) osq = w2 at S2 ⊢
        clear nq osq
        go_wp2
        go_roundw
        case rel => exact ⟨i, h, rfl, rfl, ⟨f1, hb1, by omega, HF.out.l, .inr (HX.out.yes h m (by omega) (by omega) (Nat.le_refl _) h1 HLV.out)⟩, S2⟩
        case measure => simp [intOf]; omega
    · obtain rfl : i = j := by omega
      have d1 : decide ((i : Int) < (i : Int)) = false := by simp
      go_wp2
      go_loopw [17] (fun kv wr => ∃ (k : Nat) (dk : Array Nat), i ≤ k ∧ k ≤ m ∧ kv = .int .i64 (k : Int) ∧ Hid (Rot k m (m + 1) d dk) ∧ Aside (SW (encN m0) w0 blk off dk wr)) (fun k _ => (intOf k).toNat - i)
      case atStart => exact ⟨m, d, f3, Nat.le_refl _, rfl, Rot.none_left d, S1⟩
      case round =>
        clear S1
        obtain ⟨k, dk, k1, k2, rfl, HR, S1⟩ := hrel
        have hz := HR.out.size
        by_cases hk : i < k
        · obtain ⟨kp, rfl⟩ : ∃ kp : Nat, k = kp + 1 := ⟨k - 1, by omega⟩
          have d2 : decide ((i : Int) < (kp : Int) + 1) = true := by simp; omega
          have d3 : (kp : Int) + 1 - 1 = (kp : Int) := by omega
          obtain ⟨iN, hiN⟩ : ∃ q, q = kp + 1 := ⟨_, rfl⟩
          obtain ⟨jN, hjN⟩ : ∃ q, q = kp := ⟨_, rfl⟩
          have ea : ((kp : Int) + 1).toNat = iN := by omega
          have pa : (0 : Int) ≤ (kp : Int) + 1 := by omega
          have ba : (kp : Int) + 1 < (d.size : Int) := by omega
          have ra : IntKind.i64.wrap ((kp : Int) + 1) = (kp : Int) + 1 := by rw [IntKind.wrap_i64]; omega
          have ec : ((kp : Int)).toNat = jN := by omega
          have pc : (0 : Int) ≤ (kp : Int) := by omega
          have bc : (kp : Int) < (d.size : Int) := by omega
          have rc : IntKind.i64.wrap ((kp : Int)) = (kp : Int) := by rw [IntKind.wrap_i64]; omega
          obtain ⟨x, hx⟩ : ∃ x, x = dk[kp + 1]! := ⟨_, rfl⟩
          obtain ⟨y, hy⟩ : ∃ x, x = dk[kp]! := ⟨_, rfl⟩
          have S3 : Aside (SW (encN m0) w0 blk off (swp dk (kp + 1) (kp)) ((wr.setCell ⟨blk, off + iN, none⟩ (encN m0 y)).setCell ⟨blk, off + jN, none⟩ (encN m0 x)).drew) := by rw [hiN, hjN, hx, hy]; exact S1.out.swapped R (kp + 1) (kp) (by omega) (by omega)
          have ca := S1.out.c1 R (by omega) (kp + 1) (by omega)
          have cb := S1.out.c1 R (by omega) (kp) (by omega)
          have fa := S1.out.f1 R (by omega) (kp + 1) (by omega)
          have fb := S1.out.f1 R (by omega) (kp) (by omega)
          obtain ⟨u, cc⟩ := S1.out.c2 R (by omega) (kp + 1) (kp) (by omega) (by omega) (encN m0 y)
          rw [← hiN, ← hjN] at cc
          rw [← hx, ← hiN] at ca
          rw [← hy, ← hjN] at cb
          rw [← hiN] at fa
          rw [← hjN] at fb
          have HR2 := Lib.hid ((show Rot kp m (m + 1) d (swp dk (kp + 1) kp) from HR.out.left_one k2 (by omega)))
          clear S1 hx hy hiN hjN HR
          go_wp2_with fail
          go_big_region_o
          clear ca cb cc fa fb
          generalize ((wr.setCell ⟨blk, off + iN, none⟩ (encN m0 y)).setCell ⟨blk, off + jN, none⟩ (encN m0 x)).drew = w3 at S3 ⊢
          clear ea ec
          go_wp2
          go_roundw
          case rel => exact ⟨kp, _, by omega, by omega, by go_num, HR2.out, S3⟩
          case measure => simp [intOf]; omega
        · obtain rfl : k = i := by omega
          have d2 : decide ((k : Int) < (k : Int)) = false := by simp
          go_wp2
          try simp only [Exit.inBlock, Exit.then]

          refine bodyPost_ret (results_none rfl _ _ _) rfl ?_
          refine ⟨rfl, dk, ?_, S1.out⟩
          rw [HM.out]
          exact HF.out.merge tr HA.out HR.out
end Go.Proofs.YtjhifpidbobmaaaGreatDoor
