/- Texts laid together: FabSpec, FabImpl. -/
import Derived.Test.YtjhifpidbobmaaaGreatDoorMg24
/- Rows of stitches: the reference's functions. -/
namespace Go.Proofs.YtjhifpidbobmaaaGreatDoor
open Go.RowKit
set_option linter.unusedVariables false
set_option linter.unusedSimpArgs false
set_option maxRecDepth 100000

theorem strs_get {L : List (List UInt8)} {j : Nat} (h : j < L.length) : (strs L)[j]? = some (.string (str (L.getD j []))) := by
  simp [strs, List.getD_eq_getElem?_getD, h]
theorem u8_eq (c : UInt8) (n : Nat) (d : UInt8) (hd : d.toNat = n) : ((c.toNat : Int) == (n : Int)) = decide (c = d) := by
  by_cases h : c = d
  · subst h; simp [hd]
  · have : ¬ c.toNat = n := fun e => h (UInt8.toNat_inj.1 (e.trans hd.symm))
    simp only [h, decide_false, beq_eq_false_iff_ne, ne_eq]
    omega
theorem l05_takes_pure (c : UInt8) : (match stT c with | some s => s.1 | none => -1) = if c = 107 ∨ c = 105 ∨ c = 98 then 1 else if c = 100 then 2 else if c = 111 then 0 else (-1 : Int) := by
  unfold stT
  by_cases h1 : c = 107
  · subst h1; rfl
  · by_cases h2 : c = 100
    · subst h2; rfl
    · by_cases h3 : c = 105
      · subst h3; rfl
      · by_cases h4 : c = 111
        · subst h4; rfl
        · by_cases h5 : c = 98
          · subst h5; rfl
          · simp [h1, h2, h3, h4, h5]
def takV (c : UInt8) : Int := match stT c with | some s => s.1 | none => -1
def makV (c : UInt8) : Int := if c = 105 then 2 else if c = 98 then 0 else 1
theorem makV_of {c : UInt8} {s : Int × Int × Int} (h : stT c = some s) : makV c = s.2.1 := by
  unfold stT at h
  split at h
  · injection h with h; subst h; rename_i e; subst e; rfl
  · split at h
    · injection h with h; subst h; rename_i e; subst e; rfl
    · split at h
      · injection h with h; subst h; rename_i e; subst e; rfl
      · split at h
        · injection h with h; subst h; rename_i e; subst e; rfl
        · split at h
          · injection h with h; subst h; rename_i e; subst e; rfl
          · cases h
theorem takV_of {c : UInt8} {s : Int × Int × Int} (h : stT c = some s) : takV c = s.1 := by simp [takV, h]
theorem takV_no {c : UInt8} (h : stT c = none) : takV c = -1 := by simp [takV, h]
theorem rowV_none {l : List UInt8} (h : rowS l = none) : rowV l = (0, 0, 0) ∧ (rowS l).isSome = false := by simp [rowV, h]
theorem rowV_some {l : List UInt8} {a : Int × Int × Int} (h : rowS l = some a) : rowV l = a ∧ (rowS l).isSome = true := by simp [rowV, h]
theorem flipw {P : Program} {f : FuncId} {args : Array Value} {w : World} {v : Value} (h : Calls P f args w fun e w' => e = .returned v ∧ w = w') : Calls P f args w fun e w' => e = .returned v ∧ w' = w :=
  h.mono fun _ _ h => ⟨h.1, h.2.symm⟩
/-- A fabric that can be read: its cast and its rows. -/
structure FabAt (w : World) (cast : Int) (A : Option Addr) (cap : Nat) (L : List (List UInt8)) : Prop where
  num : L.length ≤ 1048576
  len : ∀ l ∈ L, l.length ≤ 1048576
  row : RdRow w A (strs L)
  bd : -32768 ≤ cast ∧ cast ≤ 32767
theorem FabAt.below {w w1 : World} {cast : Int} {A : Option Addr} {cap : Nat} {L : List (List UInt8)} (h : FabAt w cast A cap L) (hb : Below w.heap.size w w1) : FabAt w1 cast A cap L := ⟨h.num, h.len, h.row.below hb, h.bd⟩
end Go.Proofs.YtjhifpidbobmaaaGreatDoor
/- Rows of stitches: the program's functions. -/
namespace Go.Proofs.YtjhifpidbobmaaaGreatDoor
open Go.RowKit
set_option linter.unusedVariables false
set_option linter.unusedSimpArgs false
set_option maxRecDepth 100000

def stCells (a : Int × Int × Int) : Array Value := #[.int .i64 a.1, .int .i64 a.2.1, .int .i64 a.2.2]
theorem stCells_size (a : Int × Int × Int) : (stCells a).size = 3 := rfl
theorem st_one (a : Int × Int × Int) : (stCells a).all (·.oneCell') = true := by simp [stCells, Value.oneCell']
theorem stV_some {c : UInt8} {s : Int × Int × Int} (h : stT c = some s) : stV c = s ∧ (stT c).isSome = true := by simp [stV, h]
theorem stV_none {c : UInt8} (h : stT c = none) : stV c = (0, 0, 0) ∧ (stT c).isSome = false := by simp [stV, h]
end Go.Proofs.YtjhifpidbobmaaaGreatDoor
