/- The program's number of lots that a plan opens. -/
import Derived.Test.YtfdljhepfoppaaaOpenOpen
import Derived.Test.YtfdljhepfoppaaaOpenPure
import Derived.Test.YtfdljhepfoppaaaPlanMost
namespace Go.Proofs.Ytfdljhepfoppaaa
open Go.RowKit
set_option linter.unusedVariables false
set_option linter.unusedSimpArgs false
set_option maxRecDepth 100000

def fewF (nl : Nat) (v : Visit) : Int := ((opnN v.1 nl).length : Int)
theorem c_len64 (A : Option Addr) (n c : Nat) (w : World) : Calls Try.prog 41 #[.slice A n c] w fun u w' => u = .returned (.int .i64 (n : Int)) ∧ w = w' := by
  go_enter Try.func41, Try.ntmps41
  go_wp2
  go_ret
  exact ⟨rfl, rfl⟩
/-- opened, at the search's plan. -/
theorem c_openedP {nl no : Nat} (no7 : no ≤ 7) (D : PLay) (P Lf : List Int) (o : Option Visit) (w : World) (hno : D.no = no) (h : PS D P Lf o w) (hg : GoodV nl true P Lf) :
    Calls Try.prog 42 #[.slice (some ⟨D.bp, 0, none⟩) no no] w fun e w' => ∃ a c, e = .returned (.slice a (opnN P nl).length c) ∧
      w'.ownsRow w.heap.size 2 1 (.slice a (opnN P nl).length c) (opnN P nl).length (nums .i64 (opnN P nl)) ∧ Below w.heap.size w w' := by
  have hlp : P.length = no := h.lp.trans hno
  have E := opened_opnN P nl (fun z hz => ⟨(hg.p z hz).2.2 rfl, (hg.p z hz).2.1⟩)
  have hc : ∀ j, j < P.length → w.cell? ⟨D.bp, j, none⟩ = some (.int .i64 (P[j]?.getD 0)) := fun j hj => by
    have hp := h.pl
    simp only [World.cell?, hp]
    simp [nums, hj]
  have c := c_opened D.bp no P (by omega) w (Array.getElem?_eq_some_iff.1 h.pl).1 hc
  rw [hlp, E] at c
  refine c.mono ?_
  rintro e w' ⟨v, rfl, hrow, hb⟩
  have hrow' : w'.ownsRow w.heap.size 2 1 v (opnN P nl).length (nums .i64 (opnN P nl)) := hrow
  obtain ⟨a, c, rfl⟩ : ∃ a c, v = .slice a (opnN P nl).length c := by
    rcases hrow'.2 with ⟨rfl, hz⟩ | ⟨gb, cap', cur, rfl, _⟩
    · exact ⟨none, 0, by rw [hz]⟩
    · exact ⟨_, _, rfl⟩
  exact ⟨a, c, rfl, hrow', hb⟩
theorem c_fl1 {nl no : Nat} (no7 : no ≤ 7) (D : PLay) (P Lf : List Int) (o : Option Visit) (w : World) (hno : D.no = no) (h : PS D P Lf o w) (hg : GoodV nl true P Lf) :
    Calls Try.prog 40 (#[.slice (some ⟨D.bp, 0, none⟩) no no, D.vl] ++ #[]) w fun e w' => e = .returned (.int .i64 (fewF nl (P, Lf))) ∧ Below w.heap.size w w' := by
  have C0 := Lib.hid (c_openedP no7 D P Lf o w hno h hg)
  clear h hg hno
  show Calls Try.prog 40 #[.slice (some ⟨D.bp, 0, none⟩) no no, D.vl] w _
  go_enter Try.func40, Try.ntmps40
  go_wp2_with (first
    | (go_at_call 42; ((with_reducible refine C0.out.mono ?_); rintro e w1 ⟨a, c, rfl, hr, hb⟩; have HB := Lib.hid hb; clear hr hb))
    | (go_at_call 41; ((with_reducible refine (c_len64 _ _ _ _).mono ?_); rintro e w3 ⟨rfl, rfl⟩)))
  exact bodyPost_ret (v := .int .i64 (fewF nl (P, Lf))) (by simp [results, Try.results40, go_sem, fewF]) rfl ⟨rfl, HB.out⟩
end Go.Proofs.Ytfdljhepfoppaaa
