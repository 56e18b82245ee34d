/- A loop over a frame of very many slots: what a round writes is one function of the slot's number. -/
import Derived.Test.YtepdgbgolopejaaMem2
namespace Go.Proofs.Ytepdgbgolopejaa
open Go.RowKit
set_option linter.unusedVariables false

/-- The frame whose named slots hold what a function tells. -/
def maskL : List (Option Nat) → (Nat → Value) → List Value → List Value
  | [], _, xs => xs
  | _ :: _, _, [] => []
  | none :: ks, f, x :: xs => x :: maskL ks f xs
  | some n :: ks, f, _ :: xs => f n :: maskL ks f xs
/-- What a round must come to. -/
def MaskEnd (KS : List (Option Nat)) (A : List Value) (Rel : (Nat → Value) → World → Prop) (mu : Act → Nat) (m : Nat) (a1 : Act) (w1 : World) : Prop :=
  (∃ f1, Rel f1 w1 ∧ a1 = ⟨(maskL KS f1 A).toArray, []⟩) ∧ mu a1 < m
theorem loop_mask {P : Program} {body : Code} {Q : Exit → Act → World → Prop} {A : List Value} {w : World} (KS : List (Option Nat)) (Rel : (Nat → Value) → World → Prop) (mu : Act → Nat)
    (hA : A = maskL KS (fun n => A.getD n undef) A) (h0 : Rel (fun n => A.getD n undef) w)
    (hr : ∀ f w' m, Rel f w' → m = mu ⟨(maskL KS f A).toArray, []⟩ → body.wp P (Exit.then (fun a1 w1 => MaskEnd KS A Rel mu m a1 w1) Q) ⟨(maskL KS f A).toArray, []⟩ w') :
    (Code.loop body).wp P Q ⟨A.toArray, []⟩ w := by
  refine wp_loop (fun a1 w1 => ∃ f1, Rel f1 w1 ∧ a1 = ⟨(maskL KS f1 A).toArray, []⟩) (fun a _ => mu a) ⟨fun n => A.getD n undef, h0, by rw [← hA]⟩ ?_
  rintro a1 w1 ⟨f1, h1, rfl⟩
  exact hr f1 w1 _ h1 rfl
theorem mask_end {KS : List (Option Nat)} {A B : List Value} {Rel : (Nat → Value) → World → Prop} {mu : Act → Nat} {m : Nat} {w : World} (hB : B = maskL KS (fun n => B.getD n undef) A) (h : Rel (fun n => B.getD n undef) w) (hm : mu ⟨B.toArray, []⟩ < m) :
    MaskEnd KS A Rel mu m ⟨B.toArray, []⟩ w := ⟨⟨fun n => B.getD n undef, h, by rw [← hB]⟩, hm⟩
end Go.Proofs.Ytepdgbgolopejaa
