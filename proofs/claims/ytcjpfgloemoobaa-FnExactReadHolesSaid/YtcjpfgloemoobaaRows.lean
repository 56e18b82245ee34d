/-
  No cell of these rows narrows 'for every input' (looked for: loops, veiled, ifaces, maps, wideKeys, modest, calm, conditions, laid).
  DERIVED. THE GIVEN ROWS OF THIS SEAT. 12 by the template 'for every input the law returns true; each argument reads behind the call as it read before'; 0 by the template 'total and deterministic' (their statements: YtcjpfgloemoobaaTotals.lean).
  GIVEN WITH THE SEED: the statements are not yours to turn. If you find one false, say at which input.
  Laid BY PROGRAM, IN A SANDBOX (cutbox-rows.mjs): the forced cells as the released guide's own fill.sh prints them over the translation 98f5f11067a2a67c… (all of the seat's roots in one cut). By AI agents, Wed Nov 11 2026. No macro, syntax, notation, axiom, sorry.
-/
import Derived.Test.YtcjpfgloemoobaaChecked
import GoSem.Claim
import GoSem.ClaimJoined
import GoSem.ClaimMapViews
import Derived.JoinedTies
import Derived.KernelRfl
namespace Go.Proofs.Ytcjpfgloemoobaa
/- THE CELL 'sum', in the pinned program and in every row, IS THE sha256 OF THE DUMP (.gsa) THAT YtcjpfgloemoobaaProg.lean LOADS. Nothing in Lean hashes anything: it is a label: what it is worth is what the hold of that sum in a sandbox is worth. -/
noncomputable def Try.pinned : Pinned := { name := "ytcjpfgloemoobaa", sum := "98f5f11067a2a67c7d1fe2535595433f011191bb1fae9493e53bf9fb2ef87051", checked := Try.checked }
namespace Rows
def none {H : Type} : Left H := { results := [], args := [] }

/-- 'laws.FnExactFeltsBy': WHATEVER THE INPUT: true; the input reads as it did. -/
def fnExactFeltsBySpec : ChangeSpec := { name := "fnExactFeltsBy", fn := fun _ => fun
  | [d1, d2] => { results := [.lit (.bool true)], args := [d1, d2] }
  | _ => none }
def fnExactFeltsByRow : OpenClaim := { program := "ytcjpfgloemoobaa", sum := "98f5f11067a2a67c7d1fe2535595433f011191bb1fae9493e53bf9fb2ef87051", func := "loop.example/g01384/laws.FnExactFeltsBy", spec := "fnExactFeltsBy", apart := false }
def FnExactFeltsBySaid : Prop := fnExactFeltsByRow.holds Try.pinned (OpenSpec.ofChange fnExactFeltsBySpec)

/-- ITS FALSE NEIGHBOUR: 'it returns false'. Refute it at one input. -/
def fnExactFeltsByWrong : ChangeSpec := { name := "fnExactFeltsBy", fn := fun _ => fun
  | [d1, d2] => { results := [.lit (.bool false)], args := [d1, d2] }
  | _ => none }
def FnExactFeltsByWrongFalsely : Prop := fnExactFeltsByRow.holds Try.pinned (OpenSpec.ofChange fnExactFeltsByWrong)

/-- 'laws.FnExactStaysFor': WHATEVER THE INPUT: true; the input reads as it did. -/
def fnExactStaysForSpec : ChangeSpec := { name := "fnExactStaysFor", fn := fun _ => fun
  | [d1, d2] => { results := [.lit (.bool true)], args := [d1, d2] }
  | _ => none }
def fnExactStaysForRow : OpenClaim := { program := "ytcjpfgloemoobaa", sum := "98f5f11067a2a67c7d1fe2535595433f011191bb1fae9493e53bf9fb2ef87051", func := "loop.example/g01384/laws.FnExactStaysFor", spec := "fnExactStaysFor", unfollowed := true, recurses := true, apart := false }
def FnExactStaysForSaid : Prop := fnExactStaysForRow.holds Try.pinned (OpenSpec.ofChange fnExactStaysForSpec)

/-- ITS FALSE NEIGHBOUR: 'it returns false'. Refute it at one input. -/
def fnExactStaysForWrong : ChangeSpec := { name := "fnExactStaysFor", fn := fun _ => fun
  | [d1, d2] => { results := [.lit (.bool false)], args := [d1, d2] }
  | _ => none }
def FnExactStaysForWrongFalsely : Prop := fnExactStaysForRow.holds Try.pinned (OpenSpec.ofChange fnExactStaysForWrong)

/-- 'laws.FnExactWeekLater': WHATEVER THE INPUT: true; the input reads as it did. -/
def fnExactWeekLaterSpec : ChangeSpec := { name := "fnExactWeekLater", fn := fun _ => fun
  | [d1, d2] => { results := [.lit (.bool true)], args := [d1, d2] }
  | _ => none }
def fnExactWeekLaterRow : OpenClaim := { program := "ytcjpfgloemoobaa", sum := "98f5f11067a2a67c7d1fe2535595433f011191bb1fae9493e53bf9fb2ef87051", func := "loop.example/g01384/laws.FnExactWeekLater", spec := "fnExactWeekLater", unfollowed := true, recurses := true, apart := false }
def FnExactWeekLaterSaid : Prop := fnExactWeekLaterRow.holds Try.pinned (OpenSpec.ofChange fnExactWeekLaterSpec)

/-- ITS FALSE NEIGHBOUR: 'it returns false'. Refute it at one input. -/
def fnExactWeekLaterWrong : ChangeSpec := { name := "fnExactWeekLater", fn := fun _ => fun
  | [d1, d2] => { results := [.lit (.bool false)], args := [d1, d2] }
  | _ => none }
def FnExactWeekLaterWrongFalsely : Prop := fnExactWeekLaterRow.holds Try.pinned (OpenSpec.ofChange fnExactWeekLaterWrong)

/-- 'laws.FnExactReadHoles': WHATEVER THE INPUT: true; the input reads as it did. -/
def fnExactReadHolesSpec : ChangeSpec := { name := "fnExactReadHoles", fn := fun _ => fun
  | [d] => { results := [.lit (.bool true)], args := [d] }
  | _ => none }
def fnExactReadHolesRow : OpenClaim := { program := "ytcjpfgloemoobaa", sum := "98f5f11067a2a67c7d1fe2535595433f011191bb1fae9493e53bf9fb2ef87051", func := "loop.example/g01384/laws.FnExactReadHoles", spec := "fnExactReadHoles", unfollowed := true, recurses := true, apart := false }
def FnExactReadHolesSaid : Prop := fnExactReadHolesRow.holds Try.pinned (OpenSpec.ofChange fnExactReadHolesSpec)

/-- ITS FALSE NEIGHBOUR: 'it returns false'. Refute it at one input. -/
def fnExactReadHolesWrong : ChangeSpec := { name := "fnExactReadHoles", fn := fun _ => fun
  | [d] => { results := [.lit (.bool false)], args := [d] }
  | _ => none }
def FnExactReadHolesWrongFalsely : Prop := fnExactReadHolesRow.holds Try.pinned (OpenSpec.ofChange fnExactReadHolesWrong)

/-- 'laws.FnExactWeeksLater': WHATEVER THE INPUT: true; the input reads as it did. -/
def fnExactWeeksLaterSpec : ChangeSpec := { name := "fnExactWeeksLater", fn := fun _ => fun
  | [d1, d2, d3] => { results := [.lit (.bool true)], args := [d1, d2, d3] }
  | _ => none }
def fnExactWeeksLaterRow : OpenClaim := { program := "ytcjpfgloemoobaa", sum := "98f5f11067a2a67c7d1fe2535595433f011191bb1fae9493e53bf9fb2ef87051", func := "loop.example/g01384/laws.FnExactWeeksLater", spec := "fnExactWeeksLater", unfollowed := true, recurses := true, apart := false }
def FnExactWeeksLaterSaid : Prop := fnExactWeeksLaterRow.holds Try.pinned (OpenSpec.ofChange fnExactWeeksLaterSpec)

/-- ITS FALSE NEIGHBOUR: 'it returns false'. Refute it at one input. -/
def fnExactWeeksLaterWrong : ChangeSpec := { name := "fnExactWeeksLater", fn := fun _ => fun
  | [d1, d2, d3] => { results := [.lit (.bool false)], args := [d1, d2, d3] }
  | _ => none }
def FnExactWeeksLaterWrongFalsely : Prop := fnExactWeeksLaterRow.holds Try.pinned (OpenSpec.ofChange fnExactWeeksLaterWrong)

/-- 'laws.FnExactMendSpot': WHATEVER THE INPUT: true; the input reads as it did. -/
def fnExactMendSpotSpec : ChangeSpec := { name := "fnExactMendSpot", fn := fun _ => fun
  | [d1, d2, d3] => { results := [.lit (.bool true)], args := [d1, d2, d3] }
  | _ => none }
def fnExactMendSpotRow : OpenClaim := { program := "ytcjpfgloemoobaa", sum := "98f5f11067a2a67c7d1fe2535595433f011191bb1fae9493e53bf9fb2ef87051", func := "loop.example/g01384/laws.FnExactMendSpot", spec := "fnExactMendSpot", unfollowed := true, recurses := true, apart := false }
def FnExactMendSpotSaid : Prop := fnExactMendSpotRow.holds Try.pinned (OpenSpec.ofChange fnExactMendSpotSpec)

/-- ITS FALSE NEIGHBOUR: 'it returns false'. Refute it at one input. -/
def fnExactMendSpotWrong : ChangeSpec := { name := "fnExactMendSpot", fn := fun _ => fun
  | [d1, d2, d3] => { results := [.lit (.bool false)], args := [d1, d2, d3] }
  | _ => none }
def FnExactMendSpotWrongFalsely : Prop := fnExactMendSpotRow.holds Try.pinned (OpenSpec.ofChange fnExactMendSpotWrong)

/-- 'laws.FnExactWashOnce': WHATEVER THE INPUT: true; the input reads as it did. -/
def fnExactWashOnceSpec : ChangeSpec := { name := "fnExactWashOnce", fn := fun _ => fun
  | [d1, d2] => { results := [.lit (.bool true)], args := [d1, d2] }
  | _ => none }
def fnExactWashOnceRow : OpenClaim := { program := "ytcjpfgloemoobaa", sum := "98f5f11067a2a67c7d1fe2535595433f011191bb1fae9493e53bf9fb2ef87051", func := "loop.example/g01384/laws.FnExactWashOnce", spec := "fnExactWashOnce", apart := false }
def FnExactWashOnceSaid : Prop := fnExactWashOnceRow.holds Try.pinned (OpenSpec.ofChange fnExactWashOnceSpec)

/-- ITS FALSE NEIGHBOUR: 'it returns false'. Refute it at one input. -/
def fnExactWashOnceWrong : ChangeSpec := { name := "fnExactWashOnce", fn := fun _ => fun
  | [d1, d2] => { results := [.lit (.bool false)], args := [d1, d2] }
  | _ => none }
def FnExactWashOnceWrongFalsely : Prop := fnExactWashOnceRow.holds Try.pinned (OpenSpec.ofChange fnExactWashOnceWrong)

/-- 'laws.FnExactWeeksUntil': WHATEVER THE INPUT: true; the input reads as it did. -/
def fnExactWeeksUntilSpec : ChangeSpec := { name := "fnExactWeeksUntil", fn := fun _ => fun
  | [d1, d2, d3] => { results := [.lit (.bool true)], args := [d1, d2, d3] }
  | _ => none }
def fnExactWeeksUntilRow : OpenClaim := { program := "ytcjpfgloemoobaa", sum := "98f5f11067a2a67c7d1fe2535595433f011191bb1fae9493e53bf9fb2ef87051", func := "loop.example/g01384/laws.FnExactWeeksUntil", spec := "fnExactWeeksUntil", unfollowed := true, recurses := true, apart := false }
def FnExactWeeksUntilSaid : Prop := fnExactWeeksUntilRow.holds Try.pinned (OpenSpec.ofChange fnExactWeeksUntilSpec)

/-- ITS FALSE NEIGHBOUR: 'it returns false'. Refute it at one input. -/
def fnExactWeeksUntilWrong : ChangeSpec := { name := "fnExactWeeksUntil", fn := fun _ => fun
  | [d1, d2, d3] => { results := [.lit (.bool false)], args := [d1, d2, d3] }
  | _ => none }
def FnExactWeeksUntilWrongFalsely : Prop := fnExactWeeksUntilRow.holds Try.pinned (OpenSpec.ofChange fnExactWeeksUntilWrong)

/-- 'laws.FnExactSpotsIn': WHATEVER THE INPUT: true; the input reads as it did. -/
def fnExactSpotsInSpec : ChangeSpec := { name := "fnExactSpotsIn", fn := fun _ => fun
  | [d] => { results := [.lit (.bool true)], args := [d] }
  | _ => none }
def fnExactSpotsInRow : OpenClaim := { program := "ytcjpfgloemoobaa", sum := "98f5f11067a2a67c7d1fe2535595433f011191bb1fae9493e53bf9fb2ef87051", func := "loop.example/g01384/laws.FnExactSpotsIn", spec := "fnExactSpotsIn", unfollowed := true, recurses := true, apart := false }
def FnExactSpotsInSaid : Prop := fnExactSpotsInRow.holds Try.pinned (OpenSpec.ofChange fnExactSpotsInSpec)

/-- ITS FALSE NEIGHBOUR: 'it returns false'. Refute it at one input. -/
def fnExactSpotsInWrong : ChangeSpec := { name := "fnExactSpotsIn", fn := fun _ => fun
  | [d] => { results := [.lit (.bool false)], args := [d] }
  | _ => none }
def FnExactSpotsInWrongFalsely : Prop := fnExactSpotsInRow.holds Try.pinned (OpenSpec.ofChange fnExactSpotsInWrong)

/-- 'laws.FnExactGentleOnes': WHATEVER THE INPUT: true; the input reads as it did. -/
def fnExactGentleOnesSpec : ChangeSpec := { name := "fnExactGentleOnes", fn := fun _ => fun
  | [d1, d2] => { results := [.lit (.bool true)], args := [d1, d2] }
  | _ => none }
def fnExactGentleOnesRow : OpenClaim := { program := "ytcjpfgloemoobaa", sum := "98f5f11067a2a67c7d1fe2535595433f011191bb1fae9493e53bf9fb2ef87051", func := "loop.example/g01384/laws.FnExactGentleOnes", spec := "fnExactGentleOnes", unfollowed := true, recurses := true, apart := false }
def FnExactGentleOnesSaid : Prop := fnExactGentleOnesRow.holds Try.pinned (OpenSpec.ofChange fnExactGentleOnesSpec)

/-- ITS FALSE NEIGHBOUR: 'it returns false'. Refute it at one input. -/
def fnExactGentleOnesWrong : ChangeSpec := { name := "fnExactGentleOnes", fn := fun _ => fun
  | [d1, d2] => { results := [.lit (.bool false)], args := [d1, d2] }
  | _ => none }
def FnExactGentleOnesWrongFalsely : Prop := fnExactGentleOnesRow.holds Try.pinned (OpenSpec.ofChange fnExactGentleOnesWrong)

/-- 'laws.FnExactBestMend': WHATEVER THE INPUT: true; the input reads as it did. -/
def fnExactBestMendSpec : ChangeSpec := { name := "fnExactBestMend", fn := fun _ => fun
  | [d1, d2, d3] => { results := [.lit (.bool true)], args := [d1, d2, d3] }
  | _ => none }
def fnExactBestMendRow : OpenClaim := { program := "ytcjpfgloemoobaa", sum := "98f5f11067a2a67c7d1fe2535595433f011191bb1fae9493e53bf9fb2ef87051", func := "loop.example/g01384/laws.FnExactBestMend", spec := "fnExactBestMend", unfollowed := true, recurses := true, apart := false }
def FnExactBestMendSaid : Prop := fnExactBestMendRow.holds Try.pinned (OpenSpec.ofChange fnExactBestMendSpec)

/-- ITS FALSE NEIGHBOUR: 'it returns false'. Refute it at one input. -/
def fnExactBestMendWrong : ChangeSpec := { name := "fnExactBestMend", fn := fun _ => fun
  | [d1, d2, d3] => { results := [.lit (.bool false)], args := [d1, d2, d3] }
  | _ => none }
def FnExactBestMendWrongFalsely : Prop := fnExactBestMendRow.holds Try.pinned (OpenSpec.ofChange fnExactBestMendWrong)

/-- 'laws.FnMoths': WHATEVER THE INPUT: true; the input reads as it did. -/
def fnMothsSpec : ChangeSpec := { name := "fnMoths", fn := fun _ => fun
  | [d1, d2] => { results := [.lit (.bool true)], args := [d1, d2] }
  | _ => none }
def fnMothsRow : OpenClaim := { program := "ytcjpfgloemoobaa", sum := "98f5f11067a2a67c7d1fe2535595433f011191bb1fae9493e53bf9fb2ef87051", func := "loop.example/g01384/laws.FnMoths", spec := "fnMoths", unfollowed := true, recurses := true, apart := false }
def FnMothsSaid : Prop := fnMothsRow.holds Try.pinned (OpenSpec.ofChange fnMothsSpec)

/-- ITS FALSE NEIGHBOUR: 'it returns false'. Refute it at one input. -/
def fnMothsWrong : ChangeSpec := { name := "fnMoths", fn := fun _ => fun
  | [d1, d2] => { results := [.lit (.bool false)], args := [d1, d2] }
  | _ => none }
def FnMothsWrongFalsely : Prop := fnMothsRow.holds Try.pinned (OpenSpec.ofChange fnMothsWrong)

/- THE SECOND FORM. 'bulk': how many values and letters a reading holds, each counted each time it is reached (what is shared counts as often as it is met; a slice's spare places count too). A statement '..UptoSaid' is the law's where the arguments, and the package variables that the reading takes, are together of bulk at most 1048576: NARROWER than '..Said'. Prove '..Said' where nothing that the law and all that it calls make is longer than what came in: it says more and counts as full. Else prove '..UptoSaid'. A law counts once. -/
mutual
def uptoBulk {H : Type} : DataW H → Nat
  | .lit (.string bytes) => bytes.length + 1
  | .lit _ => 1
  | .nil => 1
  | .ptr d => uptoBulk d + 1
  | .slice elems spare => uptoBulkAll elems + uptoBulkAll spare + 1
  | .agg parts => uptoBulkAll parts + 1
  | .iface _ d => uptoBulk d + 1
  | .map entries => uptoBulkEntries entries + 1
  | .held _ => 1
def uptoBulkAll {H : Type} : List (DataW H) → Nat
  | [] => 0
  | d :: r => uptoBulk d + uptoBulkAll r
def uptoBulkEntries {H : Type} : List (Lit × DataW H) → Nat
  | [] => 0
  | x :: r => uptoBulkEntry x + uptoBulkEntries r
def uptoBulkEntry {H : Type} : Lit × DataW H → Nat
  | (.string bytes, d) => bytes.length + uptoBulk d + 1
  | (_, d) => uptoBulk d + 1
 end
def uptoSmall : (H : Type) → List (DataW H) → Bool := fun _ ds => decide (uptoBulkAll ds ≤ 1048576)
def OpenSpec.upto (s : _root_.Go.ChangeSpec) : _root_.Go.OpenSpec := { _root_.Go.OpenSpec.ofChange s with cond := some uptoSmall }

/-- 'laws.FnExactFeltsBy', WHERE WHAT IT READS IS OF BULK AT MOST 1048576: true; the input reads as it did. -/
def fnExactFeltsByUptoRow : OpenClaim := { program := "ytcjpfgloemoobaa", sum := "98f5f11067a2a67c7d1fe2535595433f011191bb1fae9493e53bf9fb2ef87051", func := "loop.example/g01384/laws.FnExactFeltsBy", spec := "fnExactFeltsBy", apart := false, narrowed := true }
def FnExactFeltsByUptoSaid : Prop := fnExactFeltsByUptoRow.holds Try.pinned (OpenSpec.upto fnExactFeltsBySpec)

/-- 'laws.FnExactStaysFor', WHERE WHAT IT READS IS OF BULK AT MOST 1048576: true; the input reads as it did. -/
def fnExactStaysForUptoRow : OpenClaim := { program := "ytcjpfgloemoobaa", sum := "98f5f11067a2a67c7d1fe2535595433f011191bb1fae9493e53bf9fb2ef87051", func := "loop.example/g01384/laws.FnExactStaysFor", spec := "fnExactStaysFor", unfollowed := true, recurses := true, apart := false, narrowed := true }
def FnExactStaysForUptoSaid : Prop := fnExactStaysForUptoRow.holds Try.pinned (OpenSpec.upto fnExactStaysForSpec)

/-- 'laws.FnExactWeekLater', WHERE WHAT IT READS IS OF BULK AT MOST 1048576: true; the input reads as it did. -/
def fnExactWeekLaterUptoRow : OpenClaim := { program := "ytcjpfgloemoobaa", sum := "98f5f11067a2a67c7d1fe2535595433f011191bb1fae9493e53bf9fb2ef87051", func := "loop.example/g01384/laws.FnExactWeekLater", spec := "fnExactWeekLater", unfollowed := true, recurses := true, apart := false, narrowed := true }
def FnExactWeekLaterUptoSaid : Prop := fnExactWeekLaterUptoRow.holds Try.pinned (OpenSpec.upto fnExactWeekLaterSpec)

/-- 'laws.FnExactReadHoles', WHERE WHAT IT READS IS OF BULK AT MOST 1048576: true; the input reads as it did. -/
def fnExactReadHolesUptoRow : OpenClaim := { program := "ytcjpfgloemoobaa", sum := "98f5f11067a2a67c7d1fe2535595433f011191bb1fae9493e53bf9fb2ef87051", func := "loop.example/g01384/laws.FnExactReadHoles", spec := "fnExactReadHoles", unfollowed := true, recurses := true, apart := false, narrowed := true }
def FnExactReadHolesUptoSaid : Prop := fnExactReadHolesUptoRow.holds Try.pinned (OpenSpec.upto fnExactReadHolesSpec)

/-- 'laws.FnExactWeeksLater', WHERE WHAT IT READS IS OF BULK AT MOST 1048576: true; the input reads as it did. -/
def fnExactWeeksLaterUptoRow : OpenClaim := { program := "ytcjpfgloemoobaa", sum := "98f5f11067a2a67c7d1fe2535595433f011191bb1fae9493e53bf9fb2ef87051", func := "loop.example/g01384/laws.FnExactWeeksLater", spec := "fnExactWeeksLater", unfollowed := true, recurses := true, apart := false, narrowed := true }
def FnExactWeeksLaterUptoSaid : Prop := fnExactWeeksLaterUptoRow.holds Try.pinned (OpenSpec.upto fnExactWeeksLaterSpec)

/-- 'laws.FnExactMendSpot', WHERE WHAT IT READS IS OF BULK AT MOST 1048576: true; the input reads as it did. -/
def fnExactMendSpotUptoRow : OpenClaim := { program := "ytcjpfgloemoobaa", sum := "98f5f11067a2a67c7d1fe2535595433f011191bb1fae9493e53bf9fb2ef87051", func := "loop.example/g01384/laws.FnExactMendSpot", spec := "fnExactMendSpot", unfollowed := true, recurses := true, apart := false, narrowed := true }
def FnExactMendSpotUptoSaid : Prop := fnExactMendSpotUptoRow.holds Try.pinned (OpenSpec.upto fnExactMendSpotSpec)

/-- 'laws.FnExactWashOnce', WHERE WHAT IT READS IS OF BULK AT MOST 1048576: true; the input reads as it did. -/
def fnExactWashOnceUptoRow : OpenClaim := { program := "ytcjpfgloemoobaa", sum := "98f5f11067a2a67c7d1fe2535595433f011191bb1fae9493e53bf9fb2ef87051", func := "loop.example/g01384/laws.FnExactWashOnce", spec := "fnExactWashOnce", apart := false, narrowed := true }
def FnExactWashOnceUptoSaid : Prop := fnExactWashOnceUptoRow.holds Try.pinned (OpenSpec.upto fnExactWashOnceSpec)

/-- 'laws.FnExactWeeksUntil', WHERE WHAT IT READS IS OF BULK AT MOST 1048576: true; the input reads as it did. -/
def fnExactWeeksUntilUptoRow : OpenClaim := { program := "ytcjpfgloemoobaa", sum := "98f5f11067a2a67c7d1fe2535595433f011191bb1fae9493e53bf9fb2ef87051", func := "loop.example/g01384/laws.FnExactWeeksUntil", spec := "fnExactWeeksUntil", unfollowed := true, recurses := true, apart := false, narrowed := true }
def FnExactWeeksUntilUptoSaid : Prop := fnExactWeeksUntilUptoRow.holds Try.pinned (OpenSpec.upto fnExactWeeksUntilSpec)

/-- 'laws.FnExactSpotsIn', WHERE WHAT IT READS IS OF BULK AT MOST 1048576: true; the input reads as it did. -/
def fnExactSpotsInUptoRow : OpenClaim := { program := "ytcjpfgloemoobaa", sum := "98f5f11067a2a67c7d1fe2535595433f011191bb1fae9493e53bf9fb2ef87051", func := "loop.example/g01384/laws.FnExactSpotsIn", spec := "fnExactSpotsIn", unfollowed := true, recurses := true, apart := false, narrowed := true }
def FnExactSpotsInUptoSaid : Prop := fnExactSpotsInUptoRow.holds Try.pinned (OpenSpec.upto fnExactSpotsInSpec)

/-- 'laws.FnExactGentleOnes', WHERE WHAT IT READS IS OF BULK AT MOST 1048576: true; the input reads as it did. -/
def fnExactGentleOnesUptoRow : OpenClaim := { program := "ytcjpfgloemoobaa", sum := "98f5f11067a2a67c7d1fe2535595433f011191bb1fae9493e53bf9fb2ef87051", func := "loop.example/g01384/laws.FnExactGentleOnes", spec := "fnExactGentleOnes", unfollowed := true, recurses := true, apart := false, narrowed := true }
def FnExactGentleOnesUptoSaid : Prop := fnExactGentleOnesUptoRow.holds Try.pinned (OpenSpec.upto fnExactGentleOnesSpec)

/-- 'laws.FnExactBestMend', WHERE WHAT IT READS IS OF BULK AT MOST 1048576: true; the input reads as it did. -/
def fnExactBestMendUptoRow : OpenClaim := { program := "ytcjpfgloemoobaa", sum := "98f5f11067a2a67c7d1fe2535595433f011191bb1fae9493e53bf9fb2ef87051", func := "loop.example/g01384/laws.FnExactBestMend", spec := "fnExactBestMend", unfollowed := true, recurses := true, apart := false, narrowed := true }
def FnExactBestMendUptoSaid : Prop := fnExactBestMendUptoRow.holds Try.pinned (OpenSpec.upto fnExactBestMendSpec)

/-- 'laws.FnMoths', WHERE WHAT IT READS IS OF BULK AT MOST 1048576: true; the input reads as it did. -/
def fnMothsUptoRow : OpenClaim := { program := "ytcjpfgloemoobaa", sum := "98f5f11067a2a67c7d1fe2535595433f011191bb1fae9493e53bf9fb2ef87051", func := "loop.example/g01384/laws.FnMoths", spec := "fnMoths", unfollowed := true, recurses := true, apart := false, narrowed := true }
def FnMothsUptoSaid : Prop := fnMothsUptoRow.holds Try.pinned (OpenSpec.upto fnMothsSpec)

end Rows
end Go.Proofs.Ytcjpfgloemoobaa
