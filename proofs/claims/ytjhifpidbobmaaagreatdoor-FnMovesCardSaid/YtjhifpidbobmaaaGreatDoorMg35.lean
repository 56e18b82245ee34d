/- Texts laid together: MovSum, MovQ. -/
import Derived.Test.YtjhifpidbobmaaaGreatDoorMg19
import Derived.Test.YtjhifpidbobmaaaGreatDoorMg23
/- The sum of numbers, the reference's. -/
namespace Go.Proofs.YtjhifpidbobmaaaGreatDoor
open Go.RowKit
set_option linter.unusedVariables false
set_option linter.unusedSimpArgs false
set_option maxRecDepth 100000

set_option maxHeartbeats 1000000 in
theorem c_sumOf (A : Option Addr) (n cap : Nat) (zs : List Int) (w : World) (h : RdRow w A (nums .i64 zs)) (hl : zs.length = n) (hn : n ≤ 60) (hg : ∀ k, k ≤ n → -1000000000 ≤ sumZ zs k ∧ sumZ zs k ≤ 1000000000) :
    Calls Tryz.prog 29 #[.slice A n cap] w fun e w' => e = .returned (.int .i64 (sumZ zs n)) ∧ w = w' := by
  have H := Lib.hid h
  have HL := Lib.hid hl
  have HG := Lib.hid hg
  clear h hl hg
  go_enter Tryz.func29, Tryz.ntmps29
  go_wp2
  go_loop [4, 3] (fun i s => ∃ k : Nat, k ≤ n ∧ i = .int .i64 k ∧ s = .int .i64 (sumZ zs k)) (fun i _ => n - (intOf i).toNat)
  case atStart => exact ⟨0, by omega, rfl, rfl⟩
  case round =>
    obtain ⟨k, hk, rfl, rfl⟩ := hrel
    by_cases hlt : k < n
    · have d1 : decide ((k : Int) < (n : Int)) = true := by simp; omega
      obtain ⟨ad, rfl, c0⟩ := H.out k _ (nums_get (by rw [HL.out]; exact hlt))
      have k0 : (0 : Int) ≤ (k : Int) := by omega
      have k1 : (k : Int) < (n : Int) := by omega
      have b0 := HG.out (k + 1) (by omega)
      rw [sumZ] at b0
      have e1 : sumZ zs (k + 1) = sumZ zs k + gi zs k := rfl
      have E1 := Lib.hid e1
      clear e1
      have hw1 : IntKind.i64.wrap (sumZ zs k + gi zs k) = sumZ zs k + gi zs k := IntWalk.i64_in _ (by omega)
      generalize sumZ zs k = S at *
      generalize gi zs k = z at *
      go_wp2
      go_round
      case rel => exact ⟨k + 1, by omega, by go_num, by rw [E1.out]⟩
      case measure => simp [intOf]; omega
    · obtain rfl : k = n := by omega
      have d1 : decide ((k : Int) < (k : Int)) = false := by simp
      go_wp2
      go_ret
      exact ⟨rfl, rfl⟩
end Go.Proofs.YtjhifpidbobmaaaGreatDoor
/- Lists of moves compared, as a call that only draws. -/
namespace Go.Proofs.YtjhifpidbobmaaaGreatDoor
open Go.RowKit
set_option linter.unusedVariables false
set_option linter.unusedSimpArgs false
set_option maxRecDepth 100000

set_option maxHeartbeats 1000000 in
theorem c_sameMovesQ (v v' : Value) (base base' : Nat) (L : List (Int × Int × Int)) (w : World) (h : w.ownsRow base 46 3 v L.length (mvRow L)) (h' : w.ownsRow base' 46 3 v' L.length (mvRow L)) (hn : L.length ≤ 1048576) :
    Calls Tryz.prog 17 #[v, v'] w fun e w' => e = .returned (.bool true) ∧ ∃ q, w' = w.drewN q := by
  obtain ⟨A, c, rfl, _⟩ := own_form h
  obtain ⟨B, c', rfl, _⟩ := own_form h'
  have H := Lib.hid (movesAt_of (own_rd h))
  have H' := Lib.hid (movesAt_of (own_rd h'))
  clear h h'
  generalize hm : L.length = n at *
  have d0 : ((n : Int) != (n : Int)) = false := by simp
  go_enter Tryz.func17, Tryz.ntmps17
  go_wp2
  go_loopw [5] (fun i wr => ∃ k : Nat, k ≤ n ∧ i = .int .i64 k ∧ Hid (∃ q, wr = w.drewN q)) (fun i _ => n - (intOf i).toNat)
  case atStart => exact ⟨0, by omega, rfl, 0, rfl⟩
  case round =>
    obtain ⟨k, hk, rfl, hB⟩ := hrel
    obtain ⟨q, hq⟩ := hB
    have HQ := Lib.hid hq
    have hb : Below w.heap.size w wr := by rw [hq]; exact below_drewN (Below.refl _ _) q
    clear hq
    by_cases hlt : k < n
    · have d1 : decide ((k : Int) < (n : Int)) = true := by simp; omega
      obtain ⟨ad, rfl, c0, c1, c2⟩ := (H.out.below hb).at_ k hlt
      obtain ⟨ad', rfl, e0, e1, e2⟩ := (H'.out.below hb).at_ k hlt
      have k0 : (0 : Int) ≤ (k : Int) := by omega
      have k1 : (k : Int) < (n : Int) := by omega
      have qe := fun w => eqMv (L.getD k (0, 0, 0)).1 (L.getD k (0, 0, 0)).2.1 (L.getD k (0, 0, 0)).2.2 w
      go_wp2
      go_quiet (fail)
      go_wp2
      go_roundw
      case rel => exact ⟨k + 1, by omega, by go_num, ⟨_, by rw [HQ.out, World.drewN_drewN]⟩⟩
      case measure => simp [intOf]; omega
    · obtain rfl : k = n := by omega
      have d1 : decide ((k : Int) < (k : Int)) = false := by simp
      go_wp2
      go_ret
      exact ⟨rfl, q, HQ.out⟩
end Go.Proofs.YtjhifpidbobmaaaGreatDoor
