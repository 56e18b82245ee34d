/-
  No cell of these rows narrows 'for every input' (looked for: loops, veiled, ifaces, maps, wideKeys, modest, calm, conditions, laid).
  DERIVED. THE GIVEN ROWS OF THIS SEAT. 5 by the template 'for every input the law returns true; each argument reads behind the call as it read before'; 0 by the template 'total and deterministic' (their statements: YtjgnojjndjincaaTotals.lean).
  GIVEN WITH THE SEED: the statements are not yours to turn. If you find one false, say at which input.
  Laid BY PROGRAM, IN A SANDBOX (cutbox-rows.mjs): the forced cells as the released guide's own fill.sh prints them over the translation 3a141f437834fb06… (all of the seat's roots in one cut). By AI agents, Wed Nov 11 2026. No macro, syntax, notation, axiom, sorry.
-/
import Derived.Test.YtjgnojjndjincaaChecked
import GoSem.Claim
import GoSem.ClaimJoined
import GoSem.ClaimMapViews
import Derived.JoinedTies
import Derived.KernelRfl
namespace Go.Proofs.Ytjgnojjndjincaa
/- THE CELL 'sum', in the pinned program and in every row, IS THE sha256 OF THE DUMP (.gsa) THAT YtjgnojjndjincaaProg.lean LOADS. Nothing in Lean hashes anything: it is a label: what it is worth is what the hold of that sum in a sandbox is worth. -/
noncomputable def Try.pinned : Pinned := { name := "ytjgnojjndjincaa", sum := "3a141f437834fb067511868ee4cf0d0174f580387ef16bef3c56f7e67e03d5f2", checked := Try.checked }
namespace Rows
def none {H : Type} : Left H := { results := [], args := [] }

/-- 'laws.FnExactWashAll': WHATEVER THE INPUT: true; the input reads as it did. -/
def fnExactWashAllSpec : ChangeSpec := { name := "fnExactWashAll", fn := fun _ => fun
  | [d1, d2, d3] => { results := [.lit (.bool true)], args := [d1, d2, d3] }
  | _ => none }
def fnExactWashAllRow : OpenClaim := { program := "ytjgnojjndjincaa", sum := "3a141f437834fb067511868ee4cf0d0174f580387ef16bef3c56f7e67e03d5f2", func := "loop.example/g01384/laws.FnExactWashAll", spec := "fnExactWashAll", unfollowed := true, recurses := true, apart := false }
def FnExactWashAllSaid : Prop := fnExactWashAllRow.holds Try.pinned (OpenSpec.ofChange fnExactWashAllSpec)

/-- ITS FALSE NEIGHBOUR: 'it returns false'. Refute it at one input. -/
def fnExactWashAllWrong : ChangeSpec := { name := "fnExactWashAll", fn := fun _ => fun
  | [d1, d2, d3] => { results := [.lit (.bool false)], args := [d1, d2, d3] }
  | _ => none }
def FnExactWashAllWrongFalsely : Prop := fnExactWashAllRow.holds Try.pinned (OpenSpec.ofChange fnExactWashAllWrong)

/-- 'laws.FnExactFewestWashes': WHATEVER THE INPUT: true; the input reads as it did. -/
def fnExactFewestWashesSpec : ChangeSpec := { name := "fnExactFewestWashes", fn := fun _ => fun
  | [d1, d2, d3] => { results := [.lit (.bool true)], args := [d1, d2, d3] }
  | _ => none }
def fnExactFewestWashesRow : OpenClaim := { program := "ytjgnojjndjincaa", sum := "3a141f437834fb067511868ee4cf0d0174f580387ef16bef3c56f7e67e03d5f2", func := "loop.example/g01384/laws.FnExactFewestWashes", spec := "fnExactFewestWashes", unfollowed := true, recurses := true, apart := false }
def FnExactFewestWashesSaid : Prop := fnExactFewestWashesRow.holds Try.pinned (OpenSpec.ofChange fnExactFewestWashesSpec)

/-- ITS FALSE NEIGHBOUR: 'it returns false'. Refute it at one input. -/
def fnExactFewestWashesWrong : ChangeSpec := { name := "fnExactFewestWashes", fn := fun _ => fun
  | [d1, d2, d3] => { results := [.lit (.bool false)], args := [d1, d2, d3] }
  | _ => none }
def FnExactFewestWashesWrongFalsely : Prop := fnExactFewestWashesRow.holds Try.pinned (OpenSpec.ofChange fnExactFewestWashesWrong)

/-- 'laws.FnExactLargestClean': WHATEVER THE INPUT: true; the input reads as it did. -/
def fnExactLargestCleanSpec : ChangeSpec := { name := "fnExactLargestClean", fn := fun _ => fun
  | [d1, d2, d3] => { results := [.lit (.bool true)], args := [d1, d2, d3] }
  | _ => none }
def fnExactLargestCleanRow : OpenClaim := { program := "ytjgnojjndjincaa", sum := "3a141f437834fb067511868ee4cf0d0174f580387ef16bef3c56f7e67e03d5f2", func := "loop.example/g01384/laws.FnExactLargestClean", spec := "fnExactLargestClean", unfollowed := true, recurses := true, apart := false }
def FnExactLargestCleanSaid : Prop := fnExactLargestCleanRow.holds Try.pinned (OpenSpec.ofChange fnExactLargestCleanSpec)

/-- ITS FALSE NEIGHBOUR: 'it returns false'. Refute it at one input. -/
def fnExactLargestCleanWrong : ChangeSpec := { name := "fnExactLargestClean", fn := fun _ => fun
  | [d1, d2, d3] => { results := [.lit (.bool false)], args := [d1, d2, d3] }
  | _ => none }
def FnExactLargestCleanWrongFalsely : Prop := fnExactLargestCleanRow.holds Try.pinned (OpenSpec.ofChange fnExactLargestCleanWrong)

/-- 'laws.FnExactLeastFelt': WHATEVER THE INPUT: true; the input reads as it did. -/
def fnExactLeastFeltSpec : ChangeSpec := { name := "fnExactLeastFelt", fn := fun _ => fun
  | [d1, d2, d3] => { results := [.lit (.bool true)], args := [d1, d2, d3] }
  | _ => none }
def fnExactLeastFeltRow : OpenClaim := { program := "ytjgnojjndjincaa", sum := "3a141f437834fb067511868ee4cf0d0174f580387ef16bef3c56f7e67e03d5f2", func := "loop.example/g01384/laws.FnExactLeastFelt", spec := "fnExactLeastFelt", unfollowed := true, recurses := true, apart := false }
def FnExactLeastFeltSaid : Prop := fnExactLeastFeltRow.holds Try.pinned (OpenSpec.ofChange fnExactLeastFeltSpec)

/-- ITS FALSE NEIGHBOUR: 'it returns false'. Refute it at one input. -/
def fnExactLeastFeltWrong : ChangeSpec := { name := "fnExactLeastFelt", fn := fun _ => fun
  | [d1, d2, d3] => { results := [.lit (.bool false)], args := [d1, d2, d3] }
  | _ => none }
def FnExactLeastFeltWrongFalsely : Prop := fnExactLeastFeltRow.holds Try.pinned (OpenSpec.ofChange fnExactLeastFeltWrong)

/-- 'laws.FnWashes': WHATEVER THE INPUT: true; the input reads as it did. -/
def fnWashesSpec : ChangeSpec := { name := "fnWashes", fn := fun _ => fun
  | [d1, d2] => { results := [.lit (.bool true)], args := [d1, d2] }
  | _ => none }
def fnWashesRow : OpenClaim := { program := "ytjgnojjndjincaa", sum := "3a141f437834fb067511868ee4cf0d0174f580387ef16bef3c56f7e67e03d5f2", func := "loop.example/g01384/laws.FnWashes", spec := "fnWashes", unfollowed := true, recurses := true, apart := false }
def FnWashesSaid : Prop := fnWashesRow.holds Try.pinned (OpenSpec.ofChange fnWashesSpec)

/-- ITS FALSE NEIGHBOUR: 'it returns false'. Refute it at one input. -/
def fnWashesWrong : ChangeSpec := { name := "fnWashes", fn := fun _ => fun
  | [d1, d2] => { results := [.lit (.bool false)], args := [d1, d2] }
  | _ => none }
def FnWashesWrongFalsely : Prop := fnWashesRow.holds Try.pinned (OpenSpec.ofChange fnWashesWrong)

/- THE SECOND FORM. 'bulk': how many values and letters a reading holds, each counted each time it is reached (what is shared counts as often as it is met; a slice's spare places count too). A statement '..UptoSaid' is the law's where the arguments, and the package variables that the reading takes, are together of bulk at most 1048576: NARROWER than '..Said'. Prove '..Said' where nothing that the law and all that it calls make is longer than what came in: it says more and counts as full. Else prove '..UptoSaid'. A law counts once. -/
mutual
def uptoBulk {H : Type} : DataW H → Nat
  | .lit (.string bytes) => bytes.length + 1
  | .lit _ => 1
  | .nil => 1
  | .ptr d => uptoBulk d + 1
  | .slice elems spare => uptoBulkAll elems + uptoBulkAll spare + 1
  | .agg parts => uptoBulkAll parts + 1
  | .iface _ d => uptoBulk d + 1
  | .map entries => uptoBulkEntries entries + 1
  | .held _ => 1
def uptoBulkAll {H : Type} : List (DataW H) → Nat
  | [] => 0
  | d :: r => uptoBulk d + uptoBulkAll r
def uptoBulkEntries {H : Type} : List (Lit × DataW H) → Nat
  | [] => 0
  | x :: r => uptoBulkEntry x + uptoBulkEntries r
def uptoBulkEntry {H : Type} : Lit × DataW H → Nat
  | (.string bytes, d) => bytes.length + uptoBulk d + 1
  | (_, d) => uptoBulk d + 1
 end
def uptoSmall : (H : Type) → List (DataW H) → Bool := fun _ ds => decide (uptoBulkAll ds ≤ 1048576)
def OpenSpec.upto (s : _root_.Go.ChangeSpec) : _root_.Go.OpenSpec := { _root_.Go.OpenSpec.ofChange s with cond := some uptoSmall }

/-- 'laws.FnExactWashAll', WHERE WHAT IT READS IS OF BULK AT MOST 1048576: true; the input reads as it did. -/
def fnExactWashAllUptoRow : OpenClaim := { program := "ytjgnojjndjincaa", sum := "3a141f437834fb067511868ee4cf0d0174f580387ef16bef3c56f7e67e03d5f2", func := "loop.example/g01384/laws.FnExactWashAll", spec := "fnExactWashAll", unfollowed := true, recurses := true, apart := false, narrowed := true }
def FnExactWashAllUptoSaid : Prop := fnExactWashAllUptoRow.holds Try.pinned (OpenSpec.upto fnExactWashAllSpec)

/-- 'laws.FnExactFewestWashes', WHERE WHAT IT READS IS OF BULK AT MOST 1048576: true; the input reads as it did. -/
def fnExactFewestWashesUptoRow : OpenClaim := { program := "ytjgnojjndjincaa", sum := "3a141f437834fb067511868ee4cf0d0174f580387ef16bef3c56f7e67e03d5f2", func := "loop.example/g01384/laws.FnExactFewestWashes", spec := "fnExactFewestWashes", unfollowed := true, recurses := true, apart := false, narrowed := true }
def FnExactFewestWashesUptoSaid : Prop := fnExactFewestWashesUptoRow.holds Try.pinned (OpenSpec.upto fnExactFewestWashesSpec)

/-- 'laws.FnExactLargestClean', WHERE WHAT IT READS IS OF BULK AT MOST 1048576: true; the input reads as it did. -/
def fnExactLargestCleanUptoRow : OpenClaim := { program := "ytjgnojjndjincaa", sum := "3a141f437834fb067511868ee4cf0d0174f580387ef16bef3c56f7e67e03d5f2", func := "loop.example/g01384/laws.FnExactLargestClean", spec := "fnExactLargestClean", unfollowed := true, recurses := true, apart := false, narrowed := true }
def FnExactLargestCleanUptoSaid : Prop := fnExactLargestCleanUptoRow.holds Try.pinned (OpenSpec.upto fnExactLargestCleanSpec)

/-- 'laws.FnExactLeastFelt', WHERE WHAT IT READS IS OF BULK AT MOST 1048576: true; the input reads as it did. -/
def fnExactLeastFeltUptoRow : OpenClaim := { program := "ytjgnojjndjincaa", sum := "3a141f437834fb067511868ee4cf0d0174f580387ef16bef3c56f7e67e03d5f2", func := "loop.example/g01384/laws.FnExactLeastFelt", spec := "fnExactLeastFelt", unfollowed := true, recurses := true, apart := false, narrowed := true }
def FnExactLeastFeltUptoSaid : Prop := fnExactLeastFeltUptoRow.holds Try.pinned (OpenSpec.upto fnExactLeastFeltSpec)

/-- 'laws.FnWashes', WHERE WHAT IT READS IS OF BULK AT MOST 1048576: true; the input reads as it did. -/
def fnWashesUptoRow : OpenClaim := { program := "ytjgnojjndjincaa", sum := "3a141f437834fb067511868ee4cf0d0174f580387ef16bef3c56f7e67e03d5f2", func := "loop.example/g01384/laws.FnWashes", spec := "fnWashes", unfollowed := true, recurses := true, apart := false, narrowed := true }
def FnWashesUptoSaid : Prop := fnWashesUptoRow.holds Try.pinned (OpenSpec.upto fnWashesSpec)

end Rows
end Go.Proofs.Ytjgnojjndjincaa
