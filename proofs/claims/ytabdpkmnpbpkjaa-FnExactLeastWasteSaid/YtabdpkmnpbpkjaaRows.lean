/-
  No cell of these rows narrows 'for every input' (looked for: loops, veiled, ifaces, maps, wideKeys, modest, calm, conditions, laid).
  DERIVED. THE GIVEN ROWS OF THIS SEAT. 7 by the template 'for every input the law returns true; each argument reads behind the call as it read before'; 0 by the template 'total and deterministic' (their statements: YtabdpkmnpbpkjaaTotals.lean).
  GIVEN WITH THE SEED: the statements are not yours to turn. If you find one false, say at which input.
  Laid BY PROGRAM, IN A SANDBOX (cutbox-rows.mjs): the forced cells as the released guide's own fill.sh prints them over the translation 33180fc13155bdcc… (all of the seat's roots in one cut). By AI agents, Wed Nov 11 2026. No macro, syntax, notation, axiom, sorry.
-/
import Derived.Test.YtabdpkmnpbpkjaaChecked
import GoSem.Claim
import GoSem.ClaimJoined
import GoSem.ClaimMapViews
import Derived.JoinedTies
import Derived.KernelRfl
namespace Go.Proofs.Ytabdpkmnpbpkjaa
/- THE CELL 'sum', in the pinned program and in every row, IS THE sha256 OF THE DUMP (.gsa) THAT YtabdpkmnpbpkjaaProg.lean LOADS. Nothing in Lean hashes anything: it is a label: what it is worth is what the hold of that sum in a sandbox is worth. -/
noncomputable def Try.pinned : Pinned := { name := "ytabdpkmnpbpkjaa", sum := "33180fc13155bdccea5be4019fb9d1db556aec9c8e8f37292f129a6a64092490", checked := Try.checked }
namespace Rows
def none {H : Type} : Left H := { results := [], args := [] }

/-- 'laws.FnExactShadeSums': WHATEVER THE INPUT: true; the input reads as it did. -/
def fnExactShadeSumsSpec : ChangeSpec := { name := "fnExactShadeSums", fn := fun _ => fun
  | [d1, d2] => { results := [.lit (.bool true)], args := [d1, d2] }
  | _ => none }
def fnExactShadeSumsRow : OpenClaim := { program := "ytabdpkmnpbpkjaa", sum := "33180fc13155bdccea5be4019fb9d1db556aec9c8e8f37292f129a6a64092490", func := "loop.example/g01384/laws.FnExactShadeSums", spec := "fnExactShadeSums", unfollowed := true, recurses := true, apart := false }
def FnExactShadeSumsSaid : Prop := fnExactShadeSumsRow.holds Try.pinned (OpenSpec.ofChange fnExactShadeSumsSpec)

/-- ITS FALSE NEIGHBOUR: 'it returns false'. Refute it at one input. -/
def fnExactShadeSumsWrong : ChangeSpec := { name := "fnExactShadeSums", fn := fun _ => fun
  | [d1, d2] => { results := [.lit (.bool false)], args := [d1, d2] }
  | _ => none }
def FnExactShadeSumsWrongFalsely : Prop := fnExactShadeSumsRow.holds Try.pinned (OpenSpec.ofChange fnExactShadeSumsWrong)

/-- 'laws.FnExactBestFit': WHATEVER THE INPUT: true; the input reads as it did. -/
def fnExactBestFitSpec : ChangeSpec := { name := "fnExactBestFit", fn := fun _ => fun
  | [d1, d2] => { results := [.lit (.bool true)], args := [d1, d2] }
  | _ => none }
def fnExactBestFitRow : OpenClaim := { program := "ytabdpkmnpbpkjaa", sum := "33180fc13155bdccea5be4019fb9d1db556aec9c8e8f37292f129a6a64092490", func := "loop.example/g01384/laws.FnExactBestFit", spec := "fnExactBestFit", unfollowed := true, recurses := true, apart := false }
def FnExactBestFitSaid : Prop := fnExactBestFitRow.holds Try.pinned (OpenSpec.ofChange fnExactBestFitSpec)

/-- ITS FALSE NEIGHBOUR: 'it returns false'. Refute it at one input. -/
def fnExactBestFitWrong : ChangeSpec := { name := "fnExactBestFit", fn := fun _ => fun
  | [d1, d2] => { results := [.lit (.bool false)], args := [d1, d2] }
  | _ => none }
def FnExactBestFitWrongFalsely : Prop := fnExactBestFitRow.holds Try.pinned (OpenSpec.ofChange fnExactBestFitWrong)

/-- 'laws.FnExactFirstFit': WHATEVER THE INPUT: true; the input reads as it did. -/
def fnExactFirstFitSpec : ChangeSpec := { name := "fnExactFirstFit", fn := fun _ => fun
  | [d1, d2] => { results := [.lit (.bool true)], args := [d1, d2] }
  | _ => none }
def fnExactFirstFitRow : OpenClaim := { program := "ytabdpkmnpbpkjaa", sum := "33180fc13155bdccea5be4019fb9d1db556aec9c8e8f37292f129a6a64092490", func := "loop.example/g01384/laws.FnExactFirstFit", spec := "fnExactFirstFit", unfollowed := true, recurses := true, apart := false }
def FnExactFirstFitSaid : Prop := fnExactFirstFitRow.holds Try.pinned (OpenSpec.ofChange fnExactFirstFitSpec)

/-- ITS FALSE NEIGHBOUR: 'it returns false'. Refute it at one input. -/
def fnExactFirstFitWrong : ChangeSpec := { name := "fnExactFirstFit", fn := fun _ => fun
  | [d1, d2] => { results := [.lit (.bool false)], args := [d1, d2] }
  | _ => none }
def FnExactFirstFitWrongFalsely : Prop := fnExactFirstFitRow.holds Try.pinned (OpenSpec.ofChange fnExactFirstFitWrong)

/-- 'laws.FnExactMostOrders': WHATEVER THE INPUT: true; the input reads as it did. -/
def fnExactMostOrdersSpec : ChangeSpec := { name := "fnExactMostOrders", fn := fun _ => fun
  | [d1, d2] => { results := [.lit (.bool true)], args := [d1, d2] }
  | _ => none }
def fnExactMostOrdersRow : OpenClaim := { program := "ytabdpkmnpbpkjaa", sum := "33180fc13155bdccea5be4019fb9d1db556aec9c8e8f37292f129a6a64092490", func := "loop.example/g01384/laws.FnExactMostOrders", spec := "fnExactMostOrders", unfollowed := true, recurses := true, apart := false }
def FnExactMostOrdersSaid : Prop := fnExactMostOrdersRow.holds Try.pinned (OpenSpec.ofChange fnExactMostOrdersSpec)

/-- ITS FALSE NEIGHBOUR: 'it returns false'. Refute it at one input. -/
def fnExactMostOrdersWrong : ChangeSpec := { name := "fnExactMostOrders", fn := fun _ => fun
  | [d1, d2] => { results := [.lit (.bool false)], args := [d1, d2] }
  | _ => none }
def FnExactMostOrdersWrongFalsely : Prop := fnExactMostOrdersRow.holds Try.pinned (OpenSpec.ofChange fnExactMostOrdersWrong)

/-- 'laws.FnExactFewestLots': WHATEVER THE INPUT: true; the input reads as it did. -/
def fnExactFewestLotsSpec : ChangeSpec := { name := "fnExactFewestLots", fn := fun _ => fun
  | [d1, d2] => { results := [.lit (.bool true)], args := [d1, d2] }
  | _ => none }
def fnExactFewestLotsRow : OpenClaim := { program := "ytabdpkmnpbpkjaa", sum := "33180fc13155bdccea5be4019fb9d1db556aec9c8e8f37292f129a6a64092490", func := "loop.example/g01384/laws.FnExactFewestLots", spec := "fnExactFewestLots", unfollowed := true, recurses := true, apart := false }
def FnExactFewestLotsSaid : Prop := fnExactFewestLotsRow.holds Try.pinned (OpenSpec.ofChange fnExactFewestLotsSpec)

/-- ITS FALSE NEIGHBOUR: 'it returns false'. Refute it at one input. -/
def fnExactFewestLotsWrong : ChangeSpec := { name := "fnExactFewestLots", fn := fun _ => fun
  | [d1, d2] => { results := [.lit (.bool false)], args := [d1, d2] }
  | _ => none }
def FnExactFewestLotsWrongFalsely : Prop := fnExactFewestLotsRow.holds Try.pinned (OpenSpec.ofChange fnExactFewestLotsWrong)

/-- 'laws.FnExactLeastWaste': WHATEVER THE INPUT: true; the input reads as it did. -/
def fnExactLeastWasteSpec : ChangeSpec := { name := "fnExactLeastWaste", fn := fun _ => fun
  | [d1, d2, d3] => { results := [.lit (.bool true)], args := [d1, d2, d3] }
  | _ => none }
def fnExactLeastWasteRow : OpenClaim := { program := "ytabdpkmnpbpkjaa", sum := "33180fc13155bdccea5be4019fb9d1db556aec9c8e8f37292f129a6a64092490", func := "loop.example/g01384/laws.FnExactLeastWaste", spec := "fnExactLeastWaste", unfollowed := true, recurses := true, apart := false }
def FnExactLeastWasteSaid : Prop := fnExactLeastWasteRow.holds Try.pinned (OpenSpec.ofChange fnExactLeastWasteSpec)

/-- ITS FALSE NEIGHBOUR: 'it returns false'. Refute it at one input. -/
def fnExactLeastWasteWrong : ChangeSpec := { name := "fnExactLeastWaste", fn := fun _ => fun
  | [d1, d2, d3] => { results := [.lit (.bool false)], args := [d1, d2, d3] }
  | _ => none }
def FnExactLeastWasteWrongFalsely : Prop := fnExactLeastWasteRow.holds Try.pinned (OpenSpec.ofChange fnExactLeastWasteWrong)

/-- 'laws.FnLots': WHATEVER THE INPUT: true; the input reads as it did. -/
def fnLotsSpec : ChangeSpec := { name := "fnLots", fn := fun _ => fun
  | [d1, d2] => { results := [.lit (.bool true)], args := [d1, d2] }
  | _ => none }
def fnLotsRow : OpenClaim := { program := "ytabdpkmnpbpkjaa", sum := "33180fc13155bdccea5be4019fb9d1db556aec9c8e8f37292f129a6a64092490", func := "loop.example/g01384/laws.FnLots", spec := "fnLots", unfollowed := true, recurses := true, apart := false }
def FnLotsSaid : Prop := fnLotsRow.holds Try.pinned (OpenSpec.ofChange fnLotsSpec)

/-- ITS FALSE NEIGHBOUR: 'it returns false'. Refute it at one input. -/
def fnLotsWrong : ChangeSpec := { name := "fnLots", fn := fun _ => fun
  | [d1, d2] => { results := [.lit (.bool false)], args := [d1, d2] }
  | _ => none }
def FnLotsWrongFalsely : Prop := fnLotsRow.holds Try.pinned (OpenSpec.ofChange fnLotsWrong)

/- THE SECOND FORM. 'bulk': how many values and letters a reading holds, each counted each time it is reached (what is shared counts as often as it is met; a slice's spare places count too). A statement '..UptoSaid' is the law's where the arguments, and the package variables that the reading takes, are together of bulk at most 1048576: NARROWER than '..Said'. Prove '..Said' where nothing that the law and all that it calls make is longer than what came in: it says more and counts as full. Else prove '..UptoSaid'. A law counts once. -/
mutual
def uptoBulk {H : Type} : DataW H → Nat
  | .lit (.string bytes) => bytes.length + 1
  | .lit _ => 1
  | .nil => 1
  | .ptr d => uptoBulk d + 1
  | .slice elems spare => uptoBulkAll elems + uptoBulkAll spare + 1
  | .agg parts => uptoBulkAll parts + 1
  | .iface _ d => uptoBulk d + 1
  | .map entries => uptoBulkEntries entries + 1
  | .held _ => 1
def uptoBulkAll {H : Type} : List (DataW H) → Nat
  | [] => 0
  | d :: r => uptoBulk d + uptoBulkAll r
def uptoBulkEntries {H : Type} : List (Lit × DataW H) → Nat
  | [] => 0
  | x :: r => uptoBulkEntry x + uptoBulkEntries r
def uptoBulkEntry {H : Type} : Lit × DataW H → Nat
  | (.string bytes, d) => bytes.length + uptoBulk d + 1
  | (_, d) => uptoBulk d + 1
 end
def uptoSmall : (H : Type) → List (DataW H) → Bool := fun _ ds => decide (uptoBulkAll ds ≤ 1048576)
def OpenSpec.upto (s : _root_.Go.ChangeSpec) : _root_.Go.OpenSpec := { _root_.Go.OpenSpec.ofChange s with cond := some uptoSmall }

/-- 'laws.FnExactShadeSums', WHERE WHAT IT READS IS OF BULK AT MOST 1048576: true; the input reads as it did. -/
def fnExactShadeSumsUptoRow : OpenClaim := { program := "ytabdpkmnpbpkjaa", sum := "33180fc13155bdccea5be4019fb9d1db556aec9c8e8f37292f129a6a64092490", func := "loop.example/g01384/laws.FnExactShadeSums", spec := "fnExactShadeSums", unfollowed := true, recurses := true, apart := false, narrowed := true }
def FnExactShadeSumsUptoSaid : Prop := fnExactShadeSumsUptoRow.holds Try.pinned (OpenSpec.upto fnExactShadeSumsSpec)

/-- 'laws.FnExactBestFit', WHERE WHAT IT READS IS OF BULK AT MOST 1048576: true; the input reads as it did. -/
def fnExactBestFitUptoRow : OpenClaim := { program := "ytabdpkmnpbpkjaa", sum := "33180fc13155bdccea5be4019fb9d1db556aec9c8e8f37292f129a6a64092490", func := "loop.example/g01384/laws.FnExactBestFit", spec := "fnExactBestFit", unfollowed := true, recurses := true, apart := false, narrowed := true }
def FnExactBestFitUptoSaid : Prop := fnExactBestFitUptoRow.holds Try.pinned (OpenSpec.upto fnExactBestFitSpec)

/-- 'laws.FnExactFirstFit', WHERE WHAT IT READS IS OF BULK AT MOST 1048576: true; the input reads as it did. -/
def fnExactFirstFitUptoRow : OpenClaim := { program := "ytabdpkmnpbpkjaa", sum := "33180fc13155bdccea5be4019fb9d1db556aec9c8e8f37292f129a6a64092490", func := "loop.example/g01384/laws.FnExactFirstFit", spec := "fnExactFirstFit", unfollowed := true, recurses := true, apart := false, narrowed := true }
def FnExactFirstFitUptoSaid : Prop := fnExactFirstFitUptoRow.holds Try.pinned (OpenSpec.upto fnExactFirstFitSpec)

/-- 'laws.FnExactMostOrders', WHERE WHAT IT READS IS OF BULK AT MOST 1048576: true; the input reads as it did. -/
def fnExactMostOrdersUptoRow : OpenClaim := { program := "ytabdpkmnpbpkjaa", sum := "33180fc13155bdccea5be4019fb9d1db556aec9c8e8f37292f129a6a64092490", func := "loop.example/g01384/laws.FnExactMostOrders", spec := "fnExactMostOrders", unfollowed := true, recurses := true, apart := false, narrowed := true }
def FnExactMostOrdersUptoSaid : Prop := fnExactMostOrdersUptoRow.holds Try.pinned (OpenSpec.upto fnExactMostOrdersSpec)

/-- 'laws.FnExactFewestLots', WHERE WHAT IT READS IS OF BULK AT MOST 1048576: true; the input reads as it did. -/
def fnExactFewestLotsUptoRow : OpenClaim := { program := "ytabdpkmnpbpkjaa", sum := "33180fc13155bdccea5be4019fb9d1db556aec9c8e8f37292f129a6a64092490", func := "loop.example/g01384/laws.FnExactFewestLots", spec := "fnExactFewestLots", unfollowed := true, recurses := true, apart := false, narrowed := true }
def FnExactFewestLotsUptoSaid : Prop := fnExactFewestLotsUptoRow.holds Try.pinned (OpenSpec.upto fnExactFewestLotsSpec)

/-- 'laws.FnExactLeastWaste', WHERE WHAT IT READS IS OF BULK AT MOST 1048576: true; the input reads as it did. -/
def fnExactLeastWasteUptoRow : OpenClaim := { program := "ytabdpkmnpbpkjaa", sum := "33180fc13155bdccea5be4019fb9d1db556aec9c8e8f37292f129a6a64092490", func := "loop.example/g01384/laws.FnExactLeastWaste", spec := "fnExactLeastWaste", unfollowed := true, recurses := true, apart := false, narrowed := true }
def FnExactLeastWasteUptoSaid : Prop := fnExactLeastWasteUptoRow.holds Try.pinned (OpenSpec.upto fnExactLeastWasteSpec)

/-- 'laws.FnLots', WHERE WHAT IT READS IS OF BULK AT MOST 1048576: true; the input reads as it did. -/
def fnLotsUptoRow : OpenClaim := { program := "ytabdpkmnpbpkjaa", sum := "33180fc13155bdccea5be4019fb9d1db556aec9c8e8f37292f129a6a64092490", func := "loop.example/g01384/laws.FnLots", spec := "fnLots", unfollowed := true, recurses := true, apart := false, narrowed := true }
def FnLotsUptoSaid : Prop := fnLotsUptoRow.holds Try.pinned (OpenSpec.upto fnLotsSpec)

end Rows
end Go.Proofs.Ytabdpkmnpbpkjaa
