/-
  No cell of these rows narrows 'for every input' (looked for: loops, veiled, ifaces, maps, wideKeys, modest, calm, conditions, laid).
  DERIVED. THE GIVEN ROWS OF THIS SEAT. 6 by the template 'for every input the law returns true; each argument reads behind the call as it read before'; 0 by the template 'total and deterministic' (their statements: YtmnipaafnjhflaaTotals.lean).
  GIVEN WITH THE SEED: the statements are not yours to turn. If you find one false, say at which input.
  Laid BY PROGRAM, IN A SANDBOX (cutbox-rows.mjs): the forced cells as the released guide's own fill.sh prints them over the translation 5264bb3fd211b62b… (all of the seat's roots in one cut). By AI agents, Wed Nov 11 2026. No macro, syntax, notation, axiom, sorry.
-/
import Derived.Test.YtmnipaafnjhflaaChecked
import GoSem.Claim
import GoSem.ClaimJoined
import GoSem.ClaimMapViews
import Derived.JoinedTies
import Derived.KernelRfl
namespace Go.Proofs.Ytmnipaafnjhflaa
/- THE CELL 'sum', in the pinned program and in every row, IS THE sha256 OF THE DUMP (.gsa) THAT YtmnipaafnjhflaaProg.lean LOADS. Nothing in Lean hashes anything: it is a label: what it is worth is what the hold of that sum in a sandbox is worth. -/
noncomputable def Try.pinned : Pinned := { name := "ytmnipaafnjhflaa", sum := "5264bb3fd211b62bddfe883ef47a45a0802a5fbfc1d34da3fc5089c17705d18e", checked := Try.checked }
namespace Rows
def none {H : Type} : Left H := { results := [], args := [] }

/-- 'laws.FnExactValidProgram': WHATEVER THE INPUT: true; the input reads as it did. -/
def fnExactValidProgramSpec : ChangeSpec := { name := "fnExactValidProgram", fn := fun _ => fun
  | [d] => { results := [.lit (.bool true)], args := [d] }
  | _ => none }
def fnExactValidProgramRow : OpenClaim := { program := "ytmnipaafnjhflaa", sum := "5264bb3fd211b62bddfe883ef47a45a0802a5fbfc1d34da3fc5089c17705d18e", func := "loop.example/g01384/laws.FnExactValidProgram", spec := "fnExactValidProgram", apart := false }
def FnExactValidProgramSaid : Prop := fnExactValidProgramRow.holds Try.pinned (OpenSpec.ofChange fnExactValidProgramSpec)

/-- ITS FALSE NEIGHBOUR: 'it returns false'. Refute it at one input. -/
def fnExactValidProgramWrong : ChangeSpec := { name := "fnExactValidProgram", fn := fun _ => fun
  | [d] => { results := [.lit (.bool false)], args := [d] }
  | _ => none }
def FnExactValidProgramWrongFalsely : Prop := fnExactValidProgramRow.holds Try.pinned (OpenSpec.ofChange fnExactValidProgramWrong)

/-- 'laws.FnExactMayMove': WHATEVER THE INPUT: true; the input reads as it did. -/
def fnExactMayMoveSpec : ChangeSpec := { name := "fnExactMayMove", fn := fun _ => fun
  | [d1, d2] => { results := [.lit (.bool true)], args := [d1, d2] }
  | _ => none }
def fnExactMayMoveRow : OpenClaim := { program := "ytmnipaafnjhflaa", sum := "5264bb3fd211b62bddfe883ef47a45a0802a5fbfc1d34da3fc5089c17705d18e", func := "loop.example/g01384/laws.FnExactMayMove", spec := "fnExactMayMove", apart := false }
def FnExactMayMoveSaid : Prop := fnExactMayMoveRow.holds Try.pinned (OpenSpec.ofChange fnExactMayMoveSpec)

/-- ITS FALSE NEIGHBOUR: 'it returns false'. Refute it at one input. -/
def fnExactMayMoveWrong : ChangeSpec := { name := "fnExactMayMove", fn := fun _ => fun
  | [d1, d2] => { results := [.lit (.bool false)], args := [d1, d2] }
  | _ => none }
def FnExactMayMoveWrongFalsely : Prop := fnExactMayMoveRow.holds Try.pinned (OpenSpec.ofChange fnExactMayMoveWrong)

/-- 'laws.FnExactValidCloth': WHATEVER THE INPUT: true; the input reads as it did. -/
def fnExactValidClothSpec : ChangeSpec := { name := "fnExactValidCloth", fn := fun _ => fun
  | [d] => { results := [.lit (.bool true)], args := [d] }
  | _ => none }
def fnExactValidClothRow : OpenClaim := { program := "ytmnipaafnjhflaa", sum := "5264bb3fd211b62bddfe883ef47a45a0802a5fbfc1d34da3fc5089c17705d18e", func := "loop.example/g01384/laws.FnExactValidCloth", spec := "fnExactValidCloth", apart := false }
def FnExactValidClothSaid : Prop := fnExactValidClothRow.holds Try.pinned (OpenSpec.ofChange fnExactValidClothSpec)

/-- ITS FALSE NEIGHBOUR: 'it returns false'. Refute it at one input. -/
def fnExactValidClothWrong : ChangeSpec := { name := "fnExactValidCloth", fn := fun _ => fun
  | [d] => { results := [.lit (.bool false)], args := [d] }
  | _ => none }
def FnExactValidClothWrongFalsely : Prop := fnExactValidClothRow.holds Try.pinned (OpenSpec.ofChange fnExactValidClothWrong)

/-- 'laws.FnExactCountHoles': WHATEVER THE INPUT: true; the input reads as it did. -/
def fnExactCountHolesSpec : ChangeSpec := { name := "fnExactCountHoles", fn := fun _ => fun
  | [d] => { results := [.lit (.bool true)], args := [d] }
  | _ => none }
def fnExactCountHolesRow : OpenClaim := { program := "ytmnipaafnjhflaa", sum := "5264bb3fd211b62bddfe883ef47a45a0802a5fbfc1d34da3fc5089c17705d18e", func := "loop.example/g01384/laws.FnExactCountHoles", spec := "fnExactCountHoles", apart := false }
def FnExactCountHolesSaid : Prop := fnExactCountHolesRow.holds Try.pinned (OpenSpec.ofChange fnExactCountHolesSpec)

/-- ITS FALSE NEIGHBOUR: 'it returns false'. Refute it at one input. -/
def fnExactCountHolesWrong : ChangeSpec := { name := "fnExactCountHoles", fn := fun _ => fun
  | [d] => { results := [.lit (.bool false)], args := [d] }
  | _ => none }
def FnExactCountHolesWrongFalsely : Prop := fnExactCountHolesRow.holds Try.pinned (OpenSpec.ofChange fnExactCountHolesWrong)

/-- 'laws.FnExactShrunkBy': WHATEVER THE INPUT: true; the input reads as it did. -/
def fnExactShrunkBySpec : ChangeSpec := { name := "fnExactShrunkBy", fn := fun _ => fun
  | [d1, d2] => { results := [.lit (.bool true)], args := [d1, d2] }
  | _ => none }
def fnExactShrunkByRow : OpenClaim := { program := "ytmnipaafnjhflaa", sum := "5264bb3fd211b62bddfe883ef47a45a0802a5fbfc1d34da3fc5089c17705d18e", func := "loop.example/g01384/laws.FnExactShrunkBy", spec := "fnExactShrunkBy", apart := false }
def FnExactShrunkBySaid : Prop := fnExactShrunkByRow.holds Try.pinned (OpenSpec.ofChange fnExactShrunkBySpec)

/-- ITS FALSE NEIGHBOUR: 'it returns false'. Refute it at one input. -/
def fnExactShrunkByWrong : ChangeSpec := { name := "fnExactShrunkBy", fn := fun _ => fun
  | [d1, d2] => { results := [.lit (.bool false)], args := [d1, d2] }
  | _ => none }
def FnExactShrunkByWrongFalsely : Prop := fnExactShrunkByRow.holds Try.pinned (OpenSpec.ofChange fnExactShrunkByWrong)

/-- 'laws.FnExactHolesText': WHATEVER THE INPUT: true; the input reads as it did. -/
def fnExactHolesTextSpec : ChangeSpec := { name := "fnExactHolesText", fn := fun _ => fun
  | [d] => { results := [.lit (.bool true)], args := [d] }
  | _ => none }
def fnExactHolesTextRow : OpenClaim := { program := "ytmnipaafnjhflaa", sum := "5264bb3fd211b62bddfe883ef47a45a0802a5fbfc1d34da3fc5089c17705d18e", func := "loop.example/g01384/laws.FnExactHolesText", spec := "fnExactHolesText", unfollowed := true, recurses := true, apart := false }
def FnExactHolesTextSaid : Prop := fnExactHolesTextRow.holds Try.pinned (OpenSpec.ofChange fnExactHolesTextSpec)

/-- ITS FALSE NEIGHBOUR: 'it returns false'. Refute it at one input. -/
def fnExactHolesTextWrong : ChangeSpec := { name := "fnExactHolesText", fn := fun _ => fun
  | [d] => { results := [.lit (.bool false)], args := [d] }
  | _ => none }
def FnExactHolesTextWrongFalsely : Prop := fnExactHolesTextRow.holds Try.pinned (OpenSpec.ofChange fnExactHolesTextWrong)

/- THE SECOND FORM. 'bulk': how many values and letters a reading holds, each counted each time it is reached (what is shared counts as often as it is met; a slice's spare places count too). A statement '..UptoSaid' is the law's where the arguments, and the package variables that the reading takes, are together of bulk at most 1048576: NARROWER than '..Said'. Prove '..Said' where nothing that the law and all that it calls make is longer than what came in: it says more and counts as full. Else prove '..UptoSaid'. A law counts once. -/
mutual
def uptoBulk {H : Type} : DataW H → Nat
  | .lit (.string bytes) => bytes.length + 1
  | .lit _ => 1
  | .nil => 1
  | .ptr d => uptoBulk d + 1
  | .slice elems spare => uptoBulkAll elems + uptoBulkAll spare + 1
  | .agg parts => uptoBulkAll parts + 1
  | .iface _ d => uptoBulk d + 1
  | .map entries => uptoBulkEntries entries + 1
  | .held _ => 1
def uptoBulkAll {H : Type} : List (DataW H) → Nat
  | [] => 0
  | d :: r => uptoBulk d + uptoBulkAll r
def uptoBulkEntries {H : Type} : List (Lit × DataW H) → Nat
  | [] => 0
  | x :: r => uptoBulkEntry x + uptoBulkEntries r
def uptoBulkEntry {H : Type} : Lit × DataW H → Nat
  | (.string bytes, d) => bytes.length + uptoBulk d + 1
  | (_, d) => uptoBulk d + 1
 end
def uptoSmall : (H : Type) → List (DataW H) → Bool := fun _ ds => decide (uptoBulkAll ds ≤ 1048576)
def OpenSpec.upto (s : _root_.Go.ChangeSpec) : _root_.Go.OpenSpec := { _root_.Go.OpenSpec.ofChange s with cond := some uptoSmall }

/-- 'laws.FnExactValidProgram', WHERE WHAT IT READS IS OF BULK AT MOST 1048576: true; the input reads as it did. -/
def fnExactValidProgramUptoRow : OpenClaim := { program := "ytmnipaafnjhflaa", sum := "5264bb3fd211b62bddfe883ef47a45a0802a5fbfc1d34da3fc5089c17705d18e", func := "loop.example/g01384/laws.FnExactValidProgram", spec := "fnExactValidProgram", apart := false, narrowed := true }
def FnExactValidProgramUptoSaid : Prop := fnExactValidProgramUptoRow.holds Try.pinned (OpenSpec.upto fnExactValidProgramSpec)

/-- 'laws.FnExactMayMove', WHERE WHAT IT READS IS OF BULK AT MOST 1048576: true; the input reads as it did. -/
def fnExactMayMoveUptoRow : OpenClaim := { program := "ytmnipaafnjhflaa", sum := "5264bb3fd211b62bddfe883ef47a45a0802a5fbfc1d34da3fc5089c17705d18e", func := "loop.example/g01384/laws.FnExactMayMove", spec := "fnExactMayMove", apart := false, narrowed := true }
def FnExactMayMoveUptoSaid : Prop := fnExactMayMoveUptoRow.holds Try.pinned (OpenSpec.upto fnExactMayMoveSpec)

/-- 'laws.FnExactValidCloth', WHERE WHAT IT READS IS OF BULK AT MOST 1048576: true; the input reads as it did. -/
def fnExactValidClothUptoRow : OpenClaim := { program := "ytmnipaafnjhflaa", sum := "5264bb3fd211b62bddfe883ef47a45a0802a5fbfc1d34da3fc5089c17705d18e", func := "loop.example/g01384/laws.FnExactValidCloth", spec := "fnExactValidCloth", apart := false, narrowed := true }
def FnExactValidClothUptoSaid : Prop := fnExactValidClothUptoRow.holds Try.pinned (OpenSpec.upto fnExactValidClothSpec)

/-- 'laws.FnExactCountHoles', WHERE WHAT IT READS IS OF BULK AT MOST 1048576: true; the input reads as it did. -/
def fnExactCountHolesUptoRow : OpenClaim := { program := "ytmnipaafnjhflaa", sum := "5264bb3fd211b62bddfe883ef47a45a0802a5fbfc1d34da3fc5089c17705d18e", func := "loop.example/g01384/laws.FnExactCountHoles", spec := "fnExactCountHoles", apart := false, narrowed := true }
def FnExactCountHolesUptoSaid : Prop := fnExactCountHolesUptoRow.holds Try.pinned (OpenSpec.upto fnExactCountHolesSpec)

/-- 'laws.FnExactShrunkBy', WHERE WHAT IT READS IS OF BULK AT MOST 1048576: true; the input reads as it did. -/
def fnExactShrunkByUptoRow : OpenClaim := { program := "ytmnipaafnjhflaa", sum := "5264bb3fd211b62bddfe883ef47a45a0802a5fbfc1d34da3fc5089c17705d18e", func := "loop.example/g01384/laws.FnExactShrunkBy", spec := "fnExactShrunkBy", apart := false, narrowed := true }
def FnExactShrunkByUptoSaid : Prop := fnExactShrunkByUptoRow.holds Try.pinned (OpenSpec.upto fnExactShrunkBySpec)

/-- 'laws.FnExactHolesText', WHERE WHAT IT READS IS OF BULK AT MOST 1048576: true; the input reads as it did. -/
def fnExactHolesTextUptoRow : OpenClaim := { program := "ytmnipaafnjhflaa", sum := "5264bb3fd211b62bddfe883ef47a45a0802a5fbfc1d34da3fc5089c17705d18e", func := "loop.example/g01384/laws.FnExactHolesText", spec := "fnExactHolesText", unfollowed := true, recurses := true, apart := false, narrowed := true }
def FnExactHolesTextUptoSaid : Prop := fnExactHolesTextUptoRow.holds Try.pinned (OpenSpec.upto fnExactHolesTextSpec)

end Rows
end Go.Proofs.Ytmnipaafnjhflaa
