/-
  DERIVED. GIVEN WITH THE SEED: THE CARDS: each row of YtjhifpidbobmaaaGreatDoorRows.lean that lists a variable, with what it lists TIED to the program's text (the seventh form; the later family's looks); each row that meets fmt, with fmt's text TOLD by the authors' own Lean function (tested against real Go, not proved from fmt's source: count such statements apart). THE CARD IS WHAT COUNTS. Prove the row's statement (the work); the ties are given (YtjhifpidbobmaaaGreatDoorTie.lean); close each card by the builder's one call (the guide's Derived/Test/ToyasCard.lean, 'card_holds'). Laid BY PROGRAM, IN A SANDBOX (cutbox-door.mjs). By AI agents, Wed Nov 11 2026. No macro, syntax, notation, axiom, sorry.
-/
import Derived.Test.YtjhifpidbobmaaaGreatDoorRows
import GoSem.ClaimSeven
namespace Go.Proofs.YtjhifpidbobmaaaGreatDoor
namespace Rows

/-- THE TIED CARD OF 'laws.FnMoves'. -/
def fnMovesCard : Claim7 := { stood := { row := fnMovesRow, standIns := [], harness := (true, "d94ebbbdf6c223376314a7c673838e83eb643788bc9580bed905ef2b0bba34b0"), looks := true }, kinds := [], alts := [], laidByText := true, laidKinds := [.data, .data, .data, .data, .sentinel, .sentinel, .pinned], laidTests := true, laidLooks := .later }
def FnMovesCardSaid : Prop := Claim7.holds Tryz.pinned (.plain (OpenSpec.ofChange fnMovesSpec)) fnMovesCard

/-- THE SECOND FORM's CARD OF 'laws.FnMoves'. -/
def fnMovesUptoCard : Claim7 := { stood := { row := fnMovesUptoRow, standIns := [], harness := (true, "d94ebbbdf6c223376314a7c673838e83eb643788bc9580bed905ef2b0bba34b0"), looks := true }, kinds := [], alts := [], laidByText := true, laidKinds := [.data, .data, .data, .data, .sentinel, .sentinel, .pinned], laidTests := true, laidLooks := .later }
def FnMovesUptoCardSaid : Prop := Claim7.holds Tryz.pinned (.plain (OpenSpec.upto fnMovesSpec)) fnMovesUptoCard
end Rows
end Go.Proofs.YtjhifpidbobmaaaGreatDoor
