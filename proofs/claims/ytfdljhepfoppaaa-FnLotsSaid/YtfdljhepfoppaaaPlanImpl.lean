/- The search through all right plans: the program's recursion. -/
import Derived.Test.YtfdljhepfoppaaaPlanState
import Derived.Test.YtfdljhepfoppaaaClone64
namespace Go.Proofs.Ytfdljhepfoppaaa
open Go.RowKit
set_option linter.unusedVariables false
set_option linter.unusedSimpArgs false
set_option maxRecDepth 100000

/-- The plan's numbers are lots or -1; what is left is within bounds. -/
structure GoodV (nl : Nat) (all : Bool) (P Lf : List Int) : Prop where
  p : ∀ z ∈ P, -1 ≤ z ∧ z < (nl : Int) ∧ (all = true → 0 ≤ z)
  l : LeftOk nl Lf
/-- The boxes that nobody writes. -/
structure PBox (D : PLay) (A B : Option Addr) (c c1 : Nat) (all : Bool) (s g so go : Nat → Int) (F : Nat) (caps : Array Value) (gN pO pD pPl pLe pL pS pA : Nat) : Prop where
  ok : D.Ok
  mN : (gN, Obj.cells #[.func (.func F) #[] caps] 63 (0, 0)) ∈ D.S
  mO : (pO, Obj.cells #[.slice B D.no c1] 26 (0, 0)) ∈ D.S
  mD : (pD, Obj.cells #[.func (.func 58) #[] #[.pointer (some ⟨gN, 0, none⟩), .pointer (some ⟨D.gF, 0, none⟩), .pointer (some ⟨D.gL, 0, none⟩), .pointer (some ⟨D.gB, 0, none⟩)]] 82 (0, 0)) ∈ D.S
  mP : (pPl, Obj.cells #[.slice (some ⟨D.bp, 0, none⟩) D.no D.no] 29 (0, 0)) ∈ D.S
  mV : (pLe, Obj.cells #[D.vl] 29 (0, 0)) ∈ D.S
  mL : (pL, Obj.cells #[.slice A D.nl c] 24 (0, 0)) ∈ D.S
  mS : (pS, Obj.cells #[.func (.func 69) #[] #[.pointer (some ⟨pO, 0, none⟩), .pointer (some ⟨pD, 0, none⟩), .pointer (some ⟨pPl, 0, none⟩), .pointer (some ⟨pLe, 0, none⟩), .pointer (some ⟨pL, 0, none⟩), .pointer (some ⟨pS, 0, none⟩), .pointer (some ⟨pA, 0, none⟩)]] 94 (0, 0)) ∈ D.S
  mA : (pA, Obj.cells #[.bool all] 4 (0, 0)) ∈ D.S
  hL : LotsAt D.w0 A D.nl s g
  hO : LotsAt D.w0 B D.no so go
  nl6 : D.nl ≤ 6
  no7 : D.no ≤ 7
  bg : ∀ j, j < D.nl → 0 ≤ g j ∧ g j ≤ 5000
  bo : ∀ j, j < D.no → 1 ≤ go j ∧ go j ≤ 5000

set_option maxHeartbeats 2000000 in
theorem c_cb {D : PLay} {A B : Option Addr} {c c1 : Nat} {all : Bool} {s g so go : Nat → Int} {F : Nat} {caps : Array Value} {gN pO pD pPl pLe pL pS pA : Nat} (X : PBox D A B c c1 all s g so go F caps gN pO pD pPl pLe pL pS pA)
    (heF : ∀ args w, (callFunc F args).run Try.prog w = .ok (.enter F args) w)
    (hnum : ∀ P Lf o w, PS D P Lf o w → GoodV D.nl all P Lf → Calls Try.prog F (#[.slice (some ⟨D.bp, 0, none⟩) D.no D.no, D.vl] ++ caps) w fun e w' => e = .returned (.int .i64 (D.f (P, Lf))) ∧ Below w.heap.size w w')
    (P Lf : List Int) (o : Option Visit) (w : World) (h : PS D P Lf o w) (hv : GoodV D.nl all P Lf) :
    Calls Try.prog 58 #[.slice (some ⟨D.bp, 0, none⟩) D.no D.no, D.vl, .pointer (some ⟨gN, 0, none⟩), .pointer (some ⟨D.gF, 0, none⟩), .pointer (some ⟨D.gL, 0, none⟩), .pointer (some ⟨D.gB, 0, none⟩)] w fun e w' => e = .returned (.tuple #[]) ∧ PS D P Lf (lessO D.f o (P, Lf)) w' := by
  have HX := Lib.hid X
  have HS := Lib.hid h
  have cN := h.box X.mN
  have CN := Lib.hid (hnum P Lf o w h hv)
  have hno := X.no7
  have hlp := h.lp
  have CC := Lib.hid (fun w1 (h1 : PS D P Lf o w1) => c_clone64 D.w0.heap.size (.slice (some ⟨D.bp, 0, none⟩) D.no D.no) P D.no w1 (by
    have := own_of_row (base := D.w0.heap.size) (n := D.no) (size := 1) h1.pl (by simp [nums, h1.lp]) X.ok.b1.1 (by omega)
    simpa using this) (by omega))
  have nLB : ¬ D.gL = D.gB := X.ok.lB
  have nFB : ¬ D.gF = D.gB := X.ok.fB
  have nFL : ¬ D.gF = D.gL := X.ok.fL
  have nBL : ¬ D.gB = D.gL := fun e => X.ok.lB e.symm
  have nBF : ¬ D.gB = D.gF := fun e => X.ok.fB e.symm
  have nLF : ¬ D.gL = D.gF := fun e => X.ok.fL e.symm
  have HLP := Lib.hid hlp
  clear X h hnum hv hlp
  cases o with
  | none =>
    have E : Hid (lessO D.f none (P, Lf) = some (P, Lf)) := rfl
    go_enter Try.func58, Try.ntmps58
    go_wp2_with (first
      | ((with_reducible refine CN.out.mono ?_); rintro e w1 ⟨rfl, hb⟩; have HS := Lib.hid (HS.out.below hb); have cF : w1.cell? ⟨D.gF, 0, none⟩ = some (.bool false) := cell_of_row w1 D.gF 0 _ _ _ HS.out.bF; clear hb)
      | (go_at_call 59; ((with_reducible refine (CC.out _ HS.out).mono ?_); rintro e w2 ⟨v, rfl, hO, hb⟩; obtain ⟨Av, cv, rfl, _⟩ := own_form hO; have HN := Lib.hid (own_mono hO HS.out.n0); have HS := Lib.hid (HS.out.below hb); clear hO hb cF; obtain ⟨vb, hB1, _⟩ := HS.out.bB; have xB := cell_of_row w2 D.gB 0 _ _ _ hB1; have fB := blk_frozen hB1 0; have xL := cell_of_row w2 D.gL 0 _ _ _ HS.out.bL; have fL := blk_frozen HS.out.bL 0; have xF := cell_of_row w2 D.gF 0 _ _ _ HS.out.bF; have fF := blk_frozen HS.out.bF 0; clear hB1)))
    go_end0
    exact ⟨rfl, by rw [E.out]; exact PS.best HX.out.ok HS.out (by rw [HLP.out]; exact HN.out)⟩
  | some b =>
    by_cases hlt : D.f (P, Lf) < D.f b
    · have dl : decide (D.f (P, Lf) < D.f b) = true := by simpa using hlt
      have E : Hid (lessO D.f (some b) (P, Lf) = some (P, Lf)) := if_pos hlt
      clear hlt
      go_enter Try.func58, Try.ntmps58
      go_wp2_with (first
        | ((with_reducible refine CN.out.mono ?_); rintro e w1 ⟨rfl, hb⟩; have HS := Lib.hid (HS.out.below hb); have cF : w1.cell? ⟨D.gF, 0, none⟩ = some (.bool true) := cell_of_row w1 D.gF 0 _ _ _ HS.out.bF; have cL : w1.cell? ⟨D.gL, 0, none⟩ = some (.int .i64 (D.f b)) := cell_of_row w1 D.gL 0 _ _ _ HS.out.bL; clear hb)
        | (go_at_call 59; ((with_reducible refine (CC.out _ HS.out).mono ?_); rintro e w2 ⟨v, rfl, hO, hb⟩; obtain ⟨Av, cv, rfl, _⟩ := own_form hO; have HN := Lib.hid (own_mono hO HS.out.n0); have HS := Lib.hid (HS.out.below hb); clear hO hb cF cL; obtain ⟨vb, hB1, _⟩ := HS.out.bB; have xB := cell_of_row w2 D.gB 0 _ _ _ hB1; have fB := blk_frozen hB1 0; have xL := cell_of_row w2 D.gL 0 _ _ _ HS.out.bL; have fL := blk_frozen HS.out.bL 0; have xF := cell_of_row w2 D.gF 0 _ _ _ HS.out.bF; have fF := blk_frozen HS.out.bF 0; clear hB1)))
      go_end0
      exact ⟨rfl, by rw [E.out]; exact PS.best HX.out.ok HS.out (by rw [HLP.out]; exact HN.out)⟩
    · have dl : decide (D.f (P, Lf) < D.f b) = false := by simpa using hlt
      have E : Hid (lessO D.f (some b) (P, Lf) = some b) := if_neg hlt
      clear hlt
      go_enter Try.func58, Try.ntmps58
      go_wp2_with (first
        | ((with_reducible refine CN.out.mono ?_); rintro e w1 ⟨rfl, hb⟩; have HS := Lib.hid (HS.out.below hb); have cF : w1.cell? ⟨D.gF, 0, none⟩ = some (.bool true) := cell_of_row w1 D.gF 0 _ _ _ HS.out.bF; have cL : w1.cell? ⟨D.gL, 0, none⟩ = some (.int .i64 (D.f b)) := cell_of_row w1 D.gL 0 _ _ _ HS.out.bL; clear hb))
      go_end0
      exact ⟨rfl, by rw [E.out]; exact HS.out⟩
end Go.Proofs.Ytfdljhepfoppaaa
