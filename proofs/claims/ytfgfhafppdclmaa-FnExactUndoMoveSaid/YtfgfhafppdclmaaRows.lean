/-
  No cell of these rows narrows 'for every input' (looked for: loops, veiled, ifaces, maps, wideKeys, modest, calm, conditions, laid).
  DERIVED. THE GIVEN ROWS OF THIS SEAT. 12 by the template 'for every input the law returns true; each argument reads behind the call as it read before'; 0 by the template 'total and deterministic' (their statements: YtfgfhafppdclmaaTotals.lean).
  GIVEN WITH THE SEED: the statements are not yours to turn. If you find one false, say at which input.
  Laid BY PROGRAM, IN A SANDBOX (cutbox-rows.mjs): the forced cells as the released guide's own fill.sh prints them over the translation e5344c09fa540547… (all of the seat's roots in one cut). By AI agents, Wed Nov 11 2026. No macro, syntax, notation, axiom, sorry.
-/
import Derived.Test.YtfgfhafppdclmaaChecked
import GoSem.Claim
import GoSem.ClaimJoined
import GoSem.ClaimMapViews
import Derived.JoinedTies
import Derived.KernelRfl
namespace Go.Proofs.Ytfgfhafppdclmaa
/- THE CELL 'sum', in the pinned program and in every row, IS THE sha256 OF THE DUMP (.gsa) THAT YtfgfhafppdclmaaProg.lean LOADS. Nothing in Lean hashes anything: it is a label: what it is worth is what the hold of that sum in a sandbox is worth. -/
noncomputable def Try.pinned : Pinned := { name := "ytfgfhafppdclmaa", sum := "e5344c09fa540547f89abddfefc863aa25b42c6d7dbd4322f9207856b0ec3591", checked := Try.checked }
namespace Rows
def none {H : Type} : Left H := { results := [], args := [] }

/-- 'laws.FnExactValidLots': WHATEVER THE INPUT: true; the input reads as it did. -/
def fnExactValidLotsSpec : ChangeSpec := { name := "fnExactValidLots", fn := fun _ => fun
  | [d] => { results := [.lit (.bool true)], args := [d] }
  | _ => none }
def fnExactValidLotsRow : OpenClaim := { program := "ytfgfhafppdclmaa", sum := "e5344c09fa540547f89abddfefc863aa25b42c6d7dbd4322f9207856b0ec3591", func := "loop.example/g01384/laws.FnExactValidLots", spec := "fnExactValidLots", unfollowed := true, recurses := true, apart := false }
def FnExactValidLotsSaid : Prop := fnExactValidLotsRow.holds Try.pinned (OpenSpec.ofChange fnExactValidLotsSpec)

/-- ITS FALSE NEIGHBOUR: 'it returns false'. Refute it at one input. -/
def fnExactValidLotsWrong : ChangeSpec := { name := "fnExactValidLots", fn := fun _ => fun
  | [d] => { results := [.lit (.bool false)], args := [d] }
  | _ => none }
def FnExactValidLotsWrongFalsely : Prop := fnExactValidLotsRow.holds Try.pinned (OpenSpec.ofChange fnExactValidLotsWrong)

/-- 'laws.FnExactValidOrders': WHATEVER THE INPUT: true; the input reads as it did. -/
def fnExactValidOrdersSpec : ChangeSpec := { name := "fnExactValidOrders", fn := fun _ => fun
  | [d] => { results := [.lit (.bool true)], args := [d] }
  | _ => none }
def fnExactValidOrdersRow : OpenClaim := { program := "ytfgfhafppdclmaa", sum := "e5344c09fa540547f89abddfefc863aa25b42c6d7dbd4322f9207856b0ec3591", func := "loop.example/g01384/laws.FnExactValidOrders", spec := "fnExactValidOrders", unfollowed := true, recurses := true, apart := false }
def FnExactValidOrdersSaid : Prop := fnExactValidOrdersRow.holds Try.pinned (OpenSpec.ofChange fnExactValidOrdersSpec)

/-- ITS FALSE NEIGHBOUR: 'it returns false'. Refute it at one input. -/
def fnExactValidOrdersWrong : ChangeSpec := { name := "fnExactValidOrders", fn := fun _ => fun
  | [d] => { results := [.lit (.bool false)], args := [d] }
  | _ => none }
def FnExactValidOrdersWrongFalsely : Prop := fnExactValidOrdersRow.holds Try.pinned (OpenSpec.ofChange fnExactValidOrdersWrong)

/-- 'laws.FnExactValidMoves': WHATEVER THE INPUT: true; the input reads as it did. -/
def fnExactValidMovesSpec : ChangeSpec := { name := "fnExactValidMoves", fn := fun _ => fun
  | [d] => { results := [.lit (.bool true)], args := [d] }
  | _ => none }
def fnExactValidMovesRow : OpenClaim := { program := "ytfgfhafppdclmaa", sum := "e5344c09fa540547f89abddfefc863aa25b42c6d7dbd4322f9207856b0ec3591", func := "loop.example/g01384/laws.FnExactValidMoves", spec := "fnExactValidMoves", unfollowed := true, recurses := true, apart := false }
def FnExactValidMovesSaid : Prop := fnExactValidMovesRow.holds Try.pinned (OpenSpec.ofChange fnExactValidMovesSpec)

/-- ITS FALSE NEIGHBOUR: 'it returns false'. Refute it at one input. -/
def fnExactValidMovesWrong : ChangeSpec := { name := "fnExactValidMoves", fn := fun _ => fun
  | [d] => { results := [.lit (.bool false)], args := [d] }
  | _ => none }
def FnExactValidMovesWrongFalsely : Prop := fnExactValidMovesRow.holds Try.pinned (OpenSpec.ofChange fnExactValidMovesWrong)

/-- 'laws.FnExactLeastStart': WHATEVER THE INPUT: true; the input reads as it did. -/
def fnExactLeastStartSpec : ChangeSpec := { name := "fnExactLeastStart", fn := fun _ => fun
  | [d] => { results := [.lit (.bool true)], args := [d] }
  | _ => none }
def fnExactLeastStartRow : OpenClaim := { program := "ytfgfhafppdclmaa", sum := "e5344c09fa540547f89abddfefc863aa25b42c6d7dbd4322f9207856b0ec3591", func := "loop.example/g01384/laws.FnExactLeastStart", spec := "fnExactLeastStart", unfollowed := true, recurses := true, apart := false }
def FnExactLeastStartSaid : Prop := fnExactLeastStartRow.holds Try.pinned (OpenSpec.ofChange fnExactLeastStartSpec)

/-- ITS FALSE NEIGHBOUR: 'it returns false'. Refute it at one input. -/
def fnExactLeastStartWrong : ChangeSpec := { name := "fnExactLeastStart", fn := fun _ => fun
  | [d] => { results := [.lit (.bool false)], args := [d] }
  | _ => none }
def FnExactLeastStartWrongFalsely : Prop := fnExactLeastStartRow.holds Try.pinned (OpenSpec.ofChange fnExactLeastStartWrong)

/-- 'laws.FnExactNetMoves': WHATEVER THE INPUT: true; the input reads as it did. -/
def fnExactNetMovesSpec : ChangeSpec := { name := "fnExactNetMoves", fn := fun _ => fun
  | [d] => { results := [.lit (.bool true)], args := [d] }
  | _ => none }
def fnExactNetMovesRow : OpenClaim := { program := "ytfgfhafppdclmaa", sum := "e5344c09fa540547f89abddfefc863aa25b42c6d7dbd4322f9207856b0ec3591", func := "loop.example/g01384/laws.FnExactNetMoves", spec := "fnExactNetMoves", unfollowed := true, recurses := true, apart := false }
def FnExactNetMovesSaid : Prop := fnExactNetMovesRow.holds Try.pinned (OpenSpec.ofChange fnExactNetMovesSpec)

/-- ITS FALSE NEIGHBOUR: 'it returns false'. Refute it at one input. -/
def fnExactNetMovesWrong : ChangeSpec := { name := "fnExactNetMoves", fn := fun _ => fun
  | [d] => { results := [.lit (.bool false)], args := [d] }
  | _ => none }
def FnExactNetMovesWrongFalsely : Prop := fnExactNetMovesRow.holds Try.pinned (OpenSpec.ofChange fnExactNetMovesWrong)

/-- 'laws.FnExactPlacesAt': WHATEVER THE INPUT: true; the input reads as it did. -/
def fnExactPlacesAtSpec : ChangeSpec := { name := "fnExactPlacesAt", fn := fun _ => fun
  | [d1, d2] => { results := [.lit (.bool true)], args := [d1, d2] }
  | _ => none }
def fnExactPlacesAtRow : OpenClaim := { program := "ytfgfhafppdclmaa", sum := "e5344c09fa540547f89abddfefc863aa25b42c6d7dbd4322f9207856b0ec3591", func := "loop.example/g01384/laws.FnExactPlacesAt", spec := "fnExactPlacesAt", unfollowed := true, recurses := true, apart := false }
def FnExactPlacesAtSaid : Prop := fnExactPlacesAtRow.holds Try.pinned (OpenSpec.ofChange fnExactPlacesAtSpec)

/-- ITS FALSE NEIGHBOUR: 'it returns false'. Refute it at one input. -/
def fnExactPlacesAtWrong : ChangeSpec := { name := "fnExactPlacesAt", fn := fun _ => fun
  | [d1, d2] => { results := [.lit (.bool false)], args := [d1, d2] }
  | _ => none }
def FnExactPlacesAtWrongFalsely : Prop := fnExactPlacesAtRow.holds Try.pinned (OpenSpec.ofChange fnExactPlacesAtWrong)

/-- 'laws.FnExactFirstWrong': WHATEVER THE INPUT: true; the input reads as it did. -/
def fnExactFirstWrongSpec : ChangeSpec := { name := "fnExactFirstWrong", fn := fun _ => fun
  | [d1, d2] => { results := [.lit (.bool true)], args := [d1, d2] }
  | _ => none }
def fnExactFirstWrongRow : OpenClaim := { program := "ytfgfhafppdclmaa", sum := "e5344c09fa540547f89abddfefc863aa25b42c6d7dbd4322f9207856b0ec3591", func := "loop.example/g01384/laws.FnExactFirstWrong", spec := "fnExactFirstWrong", unfollowed := true, recurses := true, apart := false }
def FnExactFirstWrongSaid : Prop := fnExactFirstWrongRow.holds Try.pinned (OpenSpec.ofChange fnExactFirstWrongSpec)

/-- ITS FALSE NEIGHBOUR: 'it returns false'. Refute it at one input. -/
def fnExactFirstWrongWrong : ChangeSpec := { name := "fnExactFirstWrong", fn := fun _ => fun
  | [d1, d2] => { results := [.lit (.bool false)], args := [d1, d2] }
  | _ => none }
def FnExactFirstWrongWrongFalsely : Prop := fnExactFirstWrongRow.holds Try.pinned (OpenSpec.ofChange fnExactFirstWrongWrong)

/-- 'laws.FnExactLeftIn': WHATEVER THE INPUT: true; the input reads as it did. -/
def fnExactLeftInSpec : ChangeSpec := { name := "fnExactLeftIn", fn := fun _ => fun
  | [d1, d2, d3] => { results := [.lit (.bool true)], args := [d1, d2, d3] }
  | _ => none }
def fnExactLeftInRow : OpenClaim := { program := "ytfgfhafppdclmaa", sum := "e5344c09fa540547f89abddfefc863aa25b42c6d7dbd4322f9207856b0ec3591", func := "loop.example/g01384/laws.FnExactLeftIn", spec := "fnExactLeftIn", unfollowed := true, recurses := true, apart := false }
def FnExactLeftInSaid : Prop := fnExactLeftInRow.holds Try.pinned (OpenSpec.ofChange fnExactLeftInSpec)

/-- ITS FALSE NEIGHBOUR: 'it returns false'. Refute it at one input. -/
def fnExactLeftInWrong : ChangeSpec := { name := "fnExactLeftIn", fn := fun _ => fun
  | [d1, d2, d3] => { results := [.lit (.bool false)], args := [d1, d2, d3] }
  | _ => none }
def FnExactLeftInWrongFalsely : Prop := fnExactLeftInRow.holds Try.pinned (OpenSpec.ofChange fnExactLeftInWrong)

/-- 'laws.FnExactCountStitch': WHATEVER THE INPUT: true; the input reads as it did. -/
def fnExactCountStitchSpec : ChangeSpec := { name := "fnExactCountStitch", fn := fun _ => fun
  | [d1, d2] => { results := [.lit (.bool true)], args := [d1, d2] }
  | _ => none }
def fnExactCountStitchRow : OpenClaim := { program := "ytfgfhafppdclmaa", sum := "e5344c09fa540547f89abddfefc863aa25b42c6d7dbd4322f9207856b0ec3591", func := "loop.example/g01384/laws.FnExactCountStitch", spec := "fnExactCountStitch", inPlace := ["internal/abi.NoEscape", "internal/bytealg.MakeNoZero", "internal/bytealg.CountString", "internal/bytealg.IndexByteString", "internal/bytealg.IndexString"], named := ["internal/bytealg.MaxLen"], apart := false }
def FnExactCountStitchSaid : Prop := fnExactCountStitchRow.holds Try.pinned (OpenSpec.ofChange fnExactCountStitchSpec)

/-- ITS FALSE NEIGHBOUR: 'it returns false'. Refute it at one input. -/
def fnExactCountStitchWrong : ChangeSpec := { name := "fnExactCountStitch", fn := fun _ => fun
  | [d1, d2] => { results := [.lit (.bool false)], args := [d1, d2] }
  | _ => none }
def FnExactCountStitchWrongFalsely : Prop := fnExactCountStitchRow.holds Try.pinned (OpenSpec.ofChange fnExactCountStitchWrong)

/-- 'laws.FnExactServedBy': WHATEVER THE INPUT: true; the input reads as it did. -/
def fnExactServedBySpec : ChangeSpec := { name := "fnExactServedBy", fn := fun _ => fun
  | [d1, d2, d3] => { results := [.lit (.bool true)], args := [d1, d2, d3] }
  | _ => none }
def fnExactServedByRow : OpenClaim := { program := "ytfgfhafppdclmaa", sum := "e5344c09fa540547f89abddfefc863aa25b42c6d7dbd4322f9207856b0ec3591", func := "loop.example/g01384/laws.FnExactServedBy", spec := "fnExactServedBy", unfollowed := true, recurses := true, apart := false }
def FnExactServedBySaid : Prop := fnExactServedByRow.holds Try.pinned (OpenSpec.ofChange fnExactServedBySpec)

/-- ITS FALSE NEIGHBOUR: 'it returns false'. Refute it at one input. -/
def fnExactServedByWrong : ChangeSpec := { name := "fnExactServedBy", fn := fun _ => fun
  | [d1, d2, d3] => { results := [.lit (.bool false)], args := [d1, d2, d3] }
  | _ => none }
def FnExactServedByWrongFalsely : Prop := fnExactServedByRow.holds Try.pinned (OpenSpec.ofChange fnExactServedByWrong)

/-- 'laws.FnExactUndoMove': WHATEVER THE INPUT: true; the input reads as it did. -/
def fnExactUndoMoveSpec : ChangeSpec := { name := "fnExactUndoMove", fn := fun _ => fun
  | [d1, d2] => { results := [.lit (.bool true)], args := [d1, d2] }
  | _ => none }
def fnExactUndoMoveRow : OpenClaim := { program := "ytfgfhafppdclmaa", sum := "e5344c09fa540547f89abddfefc863aa25b42c6d7dbd4322f9207856b0ec3591", func := "loop.example/g01384/laws.FnExactUndoMove", spec := "fnExactUndoMove", unfollowed := true, recurses := true, apart := false }
def FnExactUndoMoveSaid : Prop := fnExactUndoMoveRow.holds Try.pinned (OpenSpec.ofChange fnExactUndoMoveSpec)

/-- ITS FALSE NEIGHBOUR: 'it returns false'. Refute it at one input. -/
def fnExactUndoMoveWrong : ChangeSpec := { name := "fnExactUndoMove", fn := fun _ => fun
  | [d1, d2] => { results := [.lit (.bool false)], args := [d1, d2] }
  | _ => none }
def FnExactUndoMoveWrongFalsely : Prop := fnExactUndoMoveRow.holds Try.pinned (OpenSpec.ofChange fnExactUndoMoveWrong)

/-- 'laws.FnExactShareCents': WHATEVER THE INPUT: true; the input reads as it did. -/
def fnExactShareCentsSpec : ChangeSpec := { name := "fnExactShareCents", fn := fun _ => fun
  | [d1, d2] => { results := [.lit (.bool true)], args := [d1, d2] }
  | _ => none }
def fnExactShareCentsRow : OpenClaim := { program := "ytfgfhafppdclmaa", sum := "e5344c09fa540547f89abddfefc863aa25b42c6d7dbd4322f9207856b0ec3591", func := "loop.example/g01384/laws.FnExactShareCents", spec := "fnExactShareCents", unfollowed := true, recurses := true, apart := false }
def FnExactShareCentsSaid : Prop := fnExactShareCentsRow.holds Try.pinned (OpenSpec.ofChange fnExactShareCentsSpec)

/-- ITS FALSE NEIGHBOUR: 'it returns false'. Refute it at one input. -/
def fnExactShareCentsWrong : ChangeSpec := { name := "fnExactShareCents", fn := fun _ => fun
  | [d1, d2] => { results := [.lit (.bool false)], args := [d1, d2] }
  | _ => none }
def FnExactShareCentsWrongFalsely : Prop := fnExactShareCentsRow.holds Try.pinned (OpenSpec.ofChange fnExactShareCentsWrong)

/- THE SECOND FORM. 'bulk': how many values and letters a reading holds, each counted each time it is reached (what is shared counts as often as it is met; a slice's spare places count too). A statement '..UptoSaid' is the law's where the arguments, and the package variables that the reading takes, are together of bulk at most 1048576: NARROWER than '..Said'. Prove '..Said' where nothing that the law and all that it calls make is longer than what came in: it says more and counts as full. Else prove '..UptoSaid'. A law counts once. -/
mutual
def uptoBulk {H : Type} : DataW H → Nat
  | .lit (.string bytes) => bytes.length + 1
  | .lit _ => 1
  | .nil => 1
  | .ptr d => uptoBulk d + 1
  | .slice elems spare => uptoBulkAll elems + uptoBulkAll spare + 1
  | .agg parts => uptoBulkAll parts + 1
  | .iface _ d => uptoBulk d + 1
  | .map entries => uptoBulkEntries entries + 1
  | .held _ => 1
def uptoBulkAll {H : Type} : List (DataW H) → Nat
  | [] => 0
  | d :: r => uptoBulk d + uptoBulkAll r
def uptoBulkEntries {H : Type} : List (Lit × DataW H) → Nat
  | [] => 0
  | x :: r => uptoBulkEntry x + uptoBulkEntries r
def uptoBulkEntry {H : Type} : Lit × DataW H → Nat
  | (.string bytes, d) => bytes.length + uptoBulk d + 1
  | (_, d) => uptoBulk d + 1
 end
def uptoSmall : (H : Type) → List (DataW H) → Bool := fun _ ds => decide (uptoBulkAll ds ≤ 1048576)
def OpenSpec.upto (s : _root_.Go.ChangeSpec) : _root_.Go.OpenSpec := { _root_.Go.OpenSpec.ofChange s with cond := some uptoSmall }

/-- 'laws.FnExactValidLots', WHERE WHAT IT READS IS OF BULK AT MOST 1048576: true; the input reads as it did. -/
def fnExactValidLotsUptoRow : OpenClaim := { program := "ytfgfhafppdclmaa", sum := "e5344c09fa540547f89abddfefc863aa25b42c6d7dbd4322f9207856b0ec3591", func := "loop.example/g01384/laws.FnExactValidLots", spec := "fnExactValidLots", unfollowed := true, recurses := true, apart := false, narrowed := true }
def FnExactValidLotsUptoSaid : Prop := fnExactValidLotsUptoRow.holds Try.pinned (OpenSpec.upto fnExactValidLotsSpec)

/-- 'laws.FnExactValidOrders', WHERE WHAT IT READS IS OF BULK AT MOST 1048576: true; the input reads as it did. -/
def fnExactValidOrdersUptoRow : OpenClaim := { program := "ytfgfhafppdclmaa", sum := "e5344c09fa540547f89abddfefc863aa25b42c6d7dbd4322f9207856b0ec3591", func := "loop.example/g01384/laws.FnExactValidOrders", spec := "fnExactValidOrders", unfollowed := true, recurses := true, apart := false, narrowed := true }
def FnExactValidOrdersUptoSaid : Prop := fnExactValidOrdersUptoRow.holds Try.pinned (OpenSpec.upto fnExactValidOrdersSpec)

/-- 'laws.FnExactValidMoves', WHERE WHAT IT READS IS OF BULK AT MOST 1048576: true; the input reads as it did. -/
def fnExactValidMovesUptoRow : OpenClaim := { program := "ytfgfhafppdclmaa", sum := "e5344c09fa540547f89abddfefc863aa25b42c6d7dbd4322f9207856b0ec3591", func := "loop.example/g01384/laws.FnExactValidMoves", spec := "fnExactValidMoves", unfollowed := true, recurses := true, apart := false, narrowed := true }
def FnExactValidMovesUptoSaid : Prop := fnExactValidMovesUptoRow.holds Try.pinned (OpenSpec.upto fnExactValidMovesSpec)

/-- 'laws.FnExactLeastStart', WHERE WHAT IT READS IS OF BULK AT MOST 1048576: true; the input reads as it did. -/
def fnExactLeastStartUptoRow : OpenClaim := { program := "ytfgfhafppdclmaa", sum := "e5344c09fa540547f89abddfefc863aa25b42c6d7dbd4322f9207856b0ec3591", func := "loop.example/g01384/laws.FnExactLeastStart", spec := "fnExactLeastStart", unfollowed := true, recurses := true, apart := false, narrowed := true }
def FnExactLeastStartUptoSaid : Prop := fnExactLeastStartUptoRow.holds Try.pinned (OpenSpec.upto fnExactLeastStartSpec)

/-- 'laws.FnExactNetMoves', WHERE WHAT IT READS IS OF BULK AT MOST 1048576: true; the input reads as it did. -/
def fnExactNetMovesUptoRow : OpenClaim := { program := "ytfgfhafppdclmaa", sum := "e5344c09fa540547f89abddfefc863aa25b42c6d7dbd4322f9207856b0ec3591", func := "loop.example/g01384/laws.FnExactNetMoves", spec := "fnExactNetMoves", unfollowed := true, recurses := true, apart := false, narrowed := true }
def FnExactNetMovesUptoSaid : Prop := fnExactNetMovesUptoRow.holds Try.pinned (OpenSpec.upto fnExactNetMovesSpec)

/-- 'laws.FnExactPlacesAt', WHERE WHAT IT READS IS OF BULK AT MOST 1048576: true; the input reads as it did. -/
def fnExactPlacesAtUptoRow : OpenClaim := { program := "ytfgfhafppdclmaa", sum := "e5344c09fa540547f89abddfefc863aa25b42c6d7dbd4322f9207856b0ec3591", func := "loop.example/g01384/laws.FnExactPlacesAt", spec := "fnExactPlacesAt", unfollowed := true, recurses := true, apart := false, narrowed := true }
def FnExactPlacesAtUptoSaid : Prop := fnExactPlacesAtUptoRow.holds Try.pinned (OpenSpec.upto fnExactPlacesAtSpec)

/-- 'laws.FnExactFirstWrong', WHERE WHAT IT READS IS OF BULK AT MOST 1048576: true; the input reads as it did. -/
def fnExactFirstWrongUptoRow : OpenClaim := { program := "ytfgfhafppdclmaa", sum := "e5344c09fa540547f89abddfefc863aa25b42c6d7dbd4322f9207856b0ec3591", func := "loop.example/g01384/laws.FnExactFirstWrong", spec := "fnExactFirstWrong", unfollowed := true, recurses := true, apart := false, narrowed := true }
def FnExactFirstWrongUptoSaid : Prop := fnExactFirstWrongUptoRow.holds Try.pinned (OpenSpec.upto fnExactFirstWrongSpec)

/-- 'laws.FnExactLeftIn', WHERE WHAT IT READS IS OF BULK AT MOST 1048576: true; the input reads as it did. -/
def fnExactLeftInUptoRow : OpenClaim := { program := "ytfgfhafppdclmaa", sum := "e5344c09fa540547f89abddfefc863aa25b42c6d7dbd4322f9207856b0ec3591", func := "loop.example/g01384/laws.FnExactLeftIn", spec := "fnExactLeftIn", unfollowed := true, recurses := true, apart := false, narrowed := true }
def FnExactLeftInUptoSaid : Prop := fnExactLeftInUptoRow.holds Try.pinned (OpenSpec.upto fnExactLeftInSpec)

/-- 'laws.FnExactCountStitch', WHERE WHAT IT READS IS OF BULK AT MOST 1048576: true; the input reads as it did. -/
def fnExactCountStitchUptoRow : OpenClaim := { program := "ytfgfhafppdclmaa", sum := "e5344c09fa540547f89abddfefc863aa25b42c6d7dbd4322f9207856b0ec3591", func := "loop.example/g01384/laws.FnExactCountStitch", spec := "fnExactCountStitch", inPlace := ["internal/abi.NoEscape", "internal/bytealg.MakeNoZero", "internal/bytealg.CountString", "internal/bytealg.IndexByteString", "internal/bytealg.IndexString"], named := ["internal/bytealg.MaxLen"], apart := false, narrowed := true }
def FnExactCountStitchUptoSaid : Prop := fnExactCountStitchUptoRow.holds Try.pinned (OpenSpec.upto fnExactCountStitchSpec)

/-- 'laws.FnExactServedBy', WHERE WHAT IT READS IS OF BULK AT MOST 1048576: true; the input reads as it did. -/
def fnExactServedByUptoRow : OpenClaim := { program := "ytfgfhafppdclmaa", sum := "e5344c09fa540547f89abddfefc863aa25b42c6d7dbd4322f9207856b0ec3591", func := "loop.example/g01384/laws.FnExactServedBy", spec := "fnExactServedBy", unfollowed := true, recurses := true, apart := false, narrowed := true }
def FnExactServedByUptoSaid : Prop := fnExactServedByUptoRow.holds Try.pinned (OpenSpec.upto fnExactServedBySpec)

/-- 'laws.FnExactUndoMove', WHERE WHAT IT READS IS OF BULK AT MOST 1048576: true; the input reads as it did. -/
def fnExactUndoMoveUptoRow : OpenClaim := { program := "ytfgfhafppdclmaa", sum := "e5344c09fa540547f89abddfefc863aa25b42c6d7dbd4322f9207856b0ec3591", func := "loop.example/g01384/laws.FnExactUndoMove", spec := "fnExactUndoMove", unfollowed := true, recurses := true, apart := false, narrowed := true }
def FnExactUndoMoveUptoSaid : Prop := fnExactUndoMoveUptoRow.holds Try.pinned (OpenSpec.upto fnExactUndoMoveSpec)

/-- 'laws.FnExactShareCents', WHERE WHAT IT READS IS OF BULK AT MOST 1048576: true; the input reads as it did. -/
def fnExactShareCentsUptoRow : OpenClaim := { program := "ytfgfhafppdclmaa", sum := "e5344c09fa540547f89abddfefc863aa25b42c6d7dbd4322f9207856b0ec3591", func := "loop.example/g01384/laws.FnExactShareCents", spec := "fnExactShareCents", unfollowed := true, recurses := true, apart := false, narrowed := true }
def FnExactShareCentsUptoSaid : Prop := fnExactShareCentsUptoRow.holds Try.pinned (OpenSpec.upto fnExactShareCentsSpec)

end Rows
end Go.Proofs.Ytfgfhafppdclmaa
