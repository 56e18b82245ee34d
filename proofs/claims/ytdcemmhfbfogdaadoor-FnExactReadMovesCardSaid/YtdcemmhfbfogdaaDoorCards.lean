/-
  DERIVED. GIVEN WITH THE SEED: THE CARDS: each row of YtdcemmhfbfogdaaDoorRows.lean that lists a variable, with what it lists TIED to the program's text (the seventh form; the later family's looks); each row that meets fmt, with fmt's text TOLD by the authors' own Lean function (tested against real Go, not proved from fmt's source: count such statements apart). THE CARD IS WHAT COUNTS. Prove the row's statement (the work); the ties are given (YtdcemmhfbfogdaaDoorTie.lean); close each card by the builder's one call (the guide's Derived/Test/ToyasCard.lean, 'card_holds'). Laid BY PROGRAM, IN A SANDBOX (cutbox-door.mjs). By AI agents, Wed Nov 11 2026. No macro, syntax, notation, axiom, sorry.
-/
import Derived.Test.YtdcemmhfbfogdaaDoorRows
import GoSem.ClaimSeven
namespace Go.Proofs.YtdcemmhfbfogdaaDoor
namespace Rows

/-- THE TIED CARD OF 'laws.FnExactFabricText'. -/
def fnExactFabricTextCard : Claim7 := { stood := { row := fnExactFabricTextRow, standIns := [], harness := (true, "0ee94825cf4a807ea959c722202548a41aff010ae4e7907b63831fe6d1ea3e82"), looks := true }, kinds := [], alts := [], laidByText := true, laidKinds := [.data, .data, .data], laidTests := true, laidLooks := .later }
def FnExactFabricTextCardSaid : Prop := Claim7.holds Tryd.pinned (.plain (OpenSpec.ofChange fnExactFabricTextSpec)) fnExactFabricTextCard

/-- THE TIED CARD OF 'laws.FnExactReadFabric'. -/
def fnExactReadFabricCard : Claim7 := { stood := { row := fnExactReadFabricRow, standIns := [], harness := (true, "0ee94825cf4a807ea959c722202548a41aff010ae4e7907b63831fe6d1ea3e82"), looks := true }, kinds := [], alts := [], laidByText := true, laidKinds := [.data, .data, .data, .data, .sentinel, .sentinel, .pinned], laidTests := true, laidLooks := .later }
def FnExactReadFabricCardSaid : Prop := Claim7.holds Tryd.pinned (.plain (OpenSpec.ofChange fnExactReadFabricSpec)) fnExactReadFabricCard

/-- THE TIED CARD OF 'laws.FnExactMovesText'. -/
def fnExactMovesTextCard : Claim7 := { stood := { row := fnExactMovesTextRow, standIns := [], harness := (true, "0ee94825cf4a807ea959c722202548a41aff010ae4e7907b63831fe6d1ea3e82"), looks := true }, kinds := [], alts := [], laidByText := true, laidKinds := [.data, .data, .data], laidTests := true, laidLooks := .later }
def FnExactMovesTextCardSaid : Prop := Claim7.holds Tryd.pinned (.plain (OpenSpec.ofChange fnExactMovesTextSpec)) fnExactMovesTextCard

/-- THE TIED CARD OF 'laws.FnExactReadMoves'. -/
def fnExactReadMovesCard : Claim7 := { stood := { row := fnExactReadMovesRow, standIns := [], harness := (true, "0ee94825cf4a807ea959c722202548a41aff010ae4e7907b63831fe6d1ea3e82"), looks := true }, kinds := [], alts := [], laidByText := true, laidKinds := [.data, .data, .data, .data, .sentinel, .sentinel, .pinned], laidTests := true, laidLooks := .later }
def FnExactReadMovesCardSaid : Prop := Claim7.holds Tryd.pinned (.plain (OpenSpec.ofChange fnExactReadMovesSpec)) fnExactReadMovesCard

/-- THE SECOND FORM's CARD OF 'laws.FnExactFabricText'. -/
def fnExactFabricTextUptoCard : Claim7 := { stood := { row := fnExactFabricTextUptoRow, standIns := [], harness := (true, "0ee94825cf4a807ea959c722202548a41aff010ae4e7907b63831fe6d1ea3e82"), looks := true }, kinds := [], alts := [], laidByText := true, laidKinds := [.data, .data, .data], laidTests := true, laidLooks := .later }
def FnExactFabricTextUptoCardSaid : Prop := Claim7.holds Tryd.pinned (.plain (OpenSpec.upto fnExactFabricTextSpec)) fnExactFabricTextUptoCard

/-- THE SECOND FORM's CARD OF 'laws.FnExactReadFabric'. -/
def fnExactReadFabricUptoCard : Claim7 := { stood := { row := fnExactReadFabricUptoRow, standIns := [], harness := (true, "0ee94825cf4a807ea959c722202548a41aff010ae4e7907b63831fe6d1ea3e82"), looks := true }, kinds := [], alts := [], laidByText := true, laidKinds := [.data, .data, .data, .data, .sentinel, .sentinel, .pinned], laidTests := true, laidLooks := .later }
def FnExactReadFabricUptoCardSaid : Prop := Claim7.holds Tryd.pinned (.plain (OpenSpec.upto fnExactReadFabricSpec)) fnExactReadFabricUptoCard

/-- THE SECOND FORM's CARD OF 'laws.FnExactMovesText'. -/
def fnExactMovesTextUptoCard : Claim7 := { stood := { row := fnExactMovesTextUptoRow, standIns := [], harness := (true, "0ee94825cf4a807ea959c722202548a41aff010ae4e7907b63831fe6d1ea3e82"), looks := true }, kinds := [], alts := [], laidByText := true, laidKinds := [.data, .data, .data], laidTests := true, laidLooks := .later }
def FnExactMovesTextUptoCardSaid : Prop := Claim7.holds Tryd.pinned (.plain (OpenSpec.upto fnExactMovesTextSpec)) fnExactMovesTextUptoCard

/-- THE SECOND FORM's CARD OF 'laws.FnExactReadMoves'. -/
def fnExactReadMovesUptoCard : Claim7 := { stood := { row := fnExactReadMovesUptoRow, standIns := [], harness := (true, "0ee94825cf4a807ea959c722202548a41aff010ae4e7907b63831fe6d1ea3e82"), looks := true }, kinds := [], alts := [], laidByText := true, laidKinds := [.data, .data, .data, .data, .sentinel, .sentinel, .pinned], laidTests := true, laidLooks := .later }
def FnExactReadMovesUptoCardSaid : Prop := Claim7.holds Tryd.pinned (.plain (OpenSpec.upto fnExactReadMovesSpec)) fnExactReadMovesUptoCard
end Rows
end Go.Proofs.YtdcemmhfbfogdaaDoor
