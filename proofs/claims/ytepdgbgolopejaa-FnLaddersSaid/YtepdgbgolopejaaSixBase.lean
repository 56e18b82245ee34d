/- What the laws of the sixth kind call first: whether a text is too long, a picked number. -/
import Derived.Test.YtepdgbgolopejaaDrawW
import Derived.Test.YtepdgbgolopejaaA2Base
namespace Go.Proofs.Ytepdgbgolopejaa
open Go.RowKit
set_option linter.unusedVariables false
set_option linter.unusedSimpArgs false
set_option maxRecDepth 100000

theorem c_P6Pick (A : Option Addr) (cap : Nat) (xs : List Int) (n : Int) (w : World) (h : BytesAt w A xs) (hA : ∀ ad, A = some ad → xs ≠ [] → ad.block < w.heap.size) (hn : 1 ≤ n ∧ n ≤ 200) :
    Calls Try.prog 16 #[.slice A xs.length cap, .int .i64 n] w fun e w' => ∃ r : Int, e = .returned (.int .i64 r) ∧ 0 ≤ r ∧ r < n ∧ Below w.heap.size w w' := by
  have CF := Lib.hid (c_l00From A cap xs w h hA)
  clear h hA
  go_enter Try.func16, Try.ntmps16
  go_wp2_with (first
    | (go_at_call 23; ((with_reducible refine CF.out.mono ?_); rintro e w1 ⟨rfl, hS, hb⟩; have HB := Lib.hid hb; have C2 := Lib.hid (c_pick w.heap.size 0 A cap xs n w1 hS (by omega) hn); clear hS hb))
    | (go_at_call 42; ((with_reducible refine C2.out.mono ?_); rintro e w2 ⟨r, rfl, r0, r1, hS, hT⟩; have HB := Lib.hid (HB.out.trans (hT.below (Nat.le_refl _))); clear hS hT)))
  go_ret
  exact ⟨r, rfl, r0, r1, HB.out⟩
theorem c_f6big (A : Option Addr) (n c : Nat) (w : World) :
    Calls Try.prog 4 #[.slice A n c] w fun e w' => e = .returned (.bool (decide ((4096 : Int) < (n : Int)))) ∧ w = w' := by
  go_enter Try.func4, Try.ntmps4
  go_wp2
  exact bodyPost_ret (v := .bool (decide ((4096 : Int) < (n : Int)))) (by simp [results, Try.results4, go_sem]) rfl ⟨rfl, rfl⟩
end Go.Proofs.Ytepdgbgolopejaa
