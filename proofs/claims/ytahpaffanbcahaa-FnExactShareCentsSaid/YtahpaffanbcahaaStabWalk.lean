/- slices.swapRangeCmpFunc and slices.rotateCmpFunc, at numbers. -/
import Derived.Test.YtahpaffanbcahaaStabPure
import Derived.Test.YtahpaffanbcahaaShelf
import Derived.Test.YtahpaffanbcahaaMem2
import Derived.Sort.WalkB2
import Derived.Sort.WalkB12
import Derived.Deep.LoopGhost
namespace Go.Proofs.Ytahpaffanbcahaa
open Go.RowKit Go.Shelf Go.Lib Go.Sort
set_option linter.unusedVariables false
set_option linter.unusedSimpArgs false

/-- A place as Go keeps it (a number beyond m is never kept: it stands for its remainder). -/
def encN (m x : Nat) : Value := .int .i64 ((x % m : Nat) : Int)
theorem encN_one (m : Nat) : OneCell (encN m) := fun _ => rfl
variable {m0 : Nat}
set_option maxHeartbeats 4000000 in
set_option maxRecDepth 1000000 in
theorem c_swapRange (blk off cap a b n : Nat) (d0 d : Array Nat) (w0 w : World) (fv : Value)
    (R : Row1 (encN m0) w0 blk off d0) (hs : d0.size = d.size) (S : SW (encN m0) w0 blk off d w) (h1 : a + n ≤ b) (h2 : b + n ≤ d.size) (hsz : d.size < 4611686018427387904) :
    Calls Try.prog 26 #[.slice (some ⟨blk, off, none⟩) d.size cap, .int .i64 a, .int .i64 b, .int .i64 n, fv] w fun e w' => e = .returned (.tuple #[]) ∧ ∃ d', SwR a b n d d' ∧ SW (encN m0) w0 blk off d' w' := by
  have S0 : Aside (SW (encN m0) w0 blk off d w) := S
  clear S
  have mixed : Try.prog.follows Departure.mixedOrders = true := by kernel_rfl
  have hcl0 := R.hO.cells
  simp only [Value.cells] at hcl0
  have hst := R.hO.store Try.prog
  go_enter Try.func26, Try.ntmps26
  go_wp2
  go_loopw [10] (fun i wr => ∃ (k : Nat) (dk : Array Nat), k ≤ n ∧ i = .int .i64 (k : Int) ∧ Aside (SwR a b k d dk) ∧ Aside (SW (encN m0) w0 blk off dk wr)) (fun i _ => n - (intOf i).toNat)
  case atStart => exact ⟨0, d, by omega, rfl, SwR.zero _ _ _, S0⟩
  case round =>
    clear S0
    obtain ⟨k, dk, hk, rfl, HR, S1⟩ := hrel
    have hsk := HR.out.size
    by_cases hkn : k < n
    · have d1 : decide ((k : Int) < (n : Int)) = true := by simp; omega
      obtain ⟨iN, hiN⟩ : ∃ q, q = a + k := ⟨_, rfl⟩
      obtain ⟨jN, hjN⟩ : ∃ q, q = b + k := ⟨_, rfl⟩
      have ea : ((a : Int) + (k : Int)).toNat = iN := by omega
      have pa : (0 : Int) ≤ (a : Int) + (k : Int) := by omega
      have ba : (a : Int) + (k : Int) < (d.size : Int) := by omega
      have ra : IntKind.i64.wrap ((a : Int) + (k : Int)) = (a : Int) + (k : Int) := by rw [IntKind.wrap_i64]; omega
      have ec : ((b : Int) + (k : Int)).toNat = jN := by omega
      have pc : (0 : Int) ≤ (b : Int) + (k : Int) := by omega
      have bc : (b : Int) + (k : Int) < (d.size : Int) := by omega
      have rc : IntKind.i64.wrap ((b : Int) + (k : Int)) = (b : Int) + (k : Int) := by rw [IntKind.wrap_i64]; omega
      obtain ⟨x, hx⟩ : ∃ x, x = dk[a + k]! := ⟨_, rfl⟩
      obtain ⟨y, hy⟩ : ∃ x, x = dk[b + k]! := ⟨_, rfl⟩
      have S3 : Aside (SW (encN m0) w0 blk off (swp dk (a + k) (b + k)) ((wr.setCell ⟨blk, off + iN, none⟩ (encN m0 y)).setCell ⟨blk, off + jN, none⟩ (encN m0 x)).drew) := by rw [hiN, hjN, hx, hy]; exact S1.out.swapped R (a + k) (b + k) (by omega) (by omega)
      have ca := S1.out.c1 R (by omega) (a + k) (by omega)
      have cb := S1.out.c1 R (by omega) (b + k) (by omega)
      have fa := S1.out.f1 R (by omega) (a + k) (by omega)
      have fb := S1.out.f1 R (by omega) (b + k) (by omega)
      obtain ⟨u, cc⟩ := S1.out.c2 R (by omega) (a + k) (b + k) (by omega) (by omega) (encN m0 y)
      rw [← hjN, ← hiN] at cc
      rw [← hx, ← hiN] at ca
      rw [← hy, ← hjN] at cb
      rw [← hiN] at fa
      rw [← hjN] at fb
      have HR2 : Aside (SwR a b (k + 1) d (swp dk (a + k) (b + k))) := HR.out.step h1 h2 hkn
      clear S1 hx hy hiN hjN HR
      go_wp2_with fail
      go_big_region_o
      clear ca cb cc fa fb
      generalize ((wr.setCell ⟨blk, off + iN, none⟩ (encN m0 y)).setCell ⟨blk, off + jN, none⟩ (encN m0 x)).drew = w3 at S3 ⊢
      clear ea ec
      go_wp2
      go_roundw
      case rel => exact ⟨k + 1, _, by omega, by go_num, HR2, S3⟩
      case measure => simp [intOf]; omega
    · obtain rfl : k = n := by omega
      have d1 : decide ((k : Int) < (k : Int)) = false := by simp
      go_wp2
      go_end0
      exact ⟨rfl, dk, HR.out, S1.out⟩

set_option maxHeartbeats 4000000 in
set_option maxRecDepth 1000000 in
theorem c_rotate (blk off cap a m b : Nat) (d0 d : Array Nat) (w0 w : World) (fv : Value)
    (R : Row1 (encN m0) w0 blk off d0) (hs : d0.size = d.size) (S : SW (encN m0) w0 blk off d w) (h1 : a < m) (h2 : m < b) (h3 : b ≤ d.size) (hsz : d.size < 4611686018427387904) :
    Calls Try.prog 25 #[.slice (some ⟨blk, off, none⟩) d.size cap, .int .i64 a, .int .i64 m, .int .i64 b, fv] w fun e w' => e = .returned (.tuple #[]) ∧ ∃ d', Rot a m b d d' ∧ SW (encN m0) w0 blk off d' w' := by
  have S0 : Aside (SW (encN m0) w0 blk off d w) := S
  clear S
  have C := Lib.hid (fun (i j n : Nat) (dk : Array Nat) (wr : World) (hz : dk.size = d.size) (h1 : i + n ≤ j) (h2 : j + n ≤ d.size) (S : SW (encN m0) w0 blk off dk wr) => hz ▸ c_swapRange blk off cap i j n d0 dk w0 wr fv R (hs.trans hz.symm) S h1 (by omega) (by omega))
  go_enter Try.func25, Try.ntmps25
  go_wp2
  go_loopw [10, 11] (fun iv jv wr => ∃ (i j : Nat) (dk : Array Nat), 0 < i ∧ i ≤ m ∧ 0 < j ∧ m + j ≤ b ∧ iv = .int .i64 (i : Int) ∧ jv = .int .i64 (j : Int) ∧ dk.size = d.size ∧ Aside (∀ e, Rot (m - i) m (m + j) dk e → Rot a m b d e) ∧ Aside (SW (encN m0) w0 blk off dk wr)) (fun i j _ => (intOf i).toNat + (intOf j).toNat)
  case atStart => exact ⟨m - a, b - m, d, by omega, by omega, by omega, by omega, by go_num, by go_num, rfl, (fun e h => by rwa [show m - (m - a) = a by omega, show m + (b - m) = b by omega] at h), S0⟩
  case round =>
    clear S0
    obtain ⟨i, j, dk, hi, him, hj, hjb, rfl, rfl, hz, HR, S1⟩ := hrel
    by_cases hij : i = j
    · subst hij
      have d1 : ((i : Int) != (i : Int)) = false := by simp
      obtain ⟨p, hp⟩ : ∃ p : Nat, p = m - i := ⟨_, rfl⟩
      have hpi : (m : Int) - (i : Int) = (p : Int) := by omega
      have C1 := Lib.hid (C.out p m i dk wr hz (by omega) (by omega) S1.out)
      have HP := Lib.hid hp
      clear hp
      clear C
      go_wp2_with (go_at_call 26; ((with_reducible refine C1.out.mono ?_); rintro e w1 ⟨rfl, d', k1, k2⟩; have K1 := Lib.hid k1; have K2 := Lib.hid k2; clear k1 k2))
      go_end0
      refine ⟨rfl, d', HR.out _ (Rot.even him ?_), K2.out⟩
      rw [← HP.out]; exact K1.out
    · have d1 : ((i : Int) != (j : Int)) = true := by simp; omega
      by_cases hgt : j < i
      · have d2 : decide ((j : Int) < (i : Int)) = true := by simp; omega
        obtain ⟨p, hp⟩ : ∃ p : Nat, p = m - i := ⟨_, rfl⟩
        have hpi : (m : Int) - (i : Int) = (p : Int) := by omega
        have C1 := Lib.hid (C.out p m j dk wr hz (by omega) (by omega) S1.out)
        have HP := Lib.hid hp
        clear hp
        go_wp2_with (go_at_call 26; ((with_reducible refine C1.out.mono ?_); rintro e w1 ⟨rfl, d', k1, k2⟩; have K1 := Lib.hid k1; have K2 := Lib.hid k2; clear k1 k2))
        go_roundw
        case rel => exact ⟨i - j, j, d', by omega, by omega, hj, hjb, by go_num, rfl, K1.out.size.trans hz, (fun e h => HR.out e (Rot.left_long him hgt (by rw [← HP.out]; exact K1.out) h)), K2.out⟩
        case measure => simp [intOf]; omega
      · have d2 : decide ((j : Int) < (i : Int)) = false := by simp; omega
        obtain ⟨p, hp⟩ : ∃ p : Nat, p = m - i := ⟨_, rfl⟩
        have hpi : (m : Int) - (i : Int) = (p : Int) := by omega
        obtain ⟨q, hq⟩ : ∃ q : Nat, q = m + j - i := ⟨_, rfl⟩
        have hqi : (m : Int) + (j : Int) - (i : Int) = (q : Int) := by omega
        have C1 := Lib.hid (C.out p q i dk wr hz (by omega) (by omega) S1.out)
        have HP := Lib.hid hp
        clear hp
        have HQ := Lib.hid hq
        clear hq
        go_wp2_with (go_at_call 26; ((with_reducible refine C1.out.mono ?_); rintro e w1 ⟨rfl, d', k1, k2⟩; have K1 := Lib.hid k1; have K2 := Lib.hid k2; clear k1 k2))
        go_roundw
        case rel => exact ⟨i, j - i, d', hi, him, by omega, by omega, rfl, by go_num, K1.out.size.trans hz, (fun e h => HR.out e (Rot.right_long him (by omega) (by rw [← HP.out, ← HQ.out]; exact K1.out) h)), K2.out⟩
        case measure => simp [intOf]; omega
end Go.Proofs.Ytahpaffanbcahaa
