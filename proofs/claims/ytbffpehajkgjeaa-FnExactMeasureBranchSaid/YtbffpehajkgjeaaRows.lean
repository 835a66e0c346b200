/-
  No cell of these rows narrows 'for every input' (looked for: loops, veiled, ifaces, maps, wideKeys, modest, calm, conditions, laid).
  DERIVED. THE GIVEN ROWS OF THIS SEAT. 10 by the template 'for every input the law returns true; each argument reads behind the call as it read before'; 0 by the template 'total and deterministic' (their statements: YtbffpehajkgjeaaTotals.lean).
  GIVEN WITH THE SEED: the statements are not yours to turn. If you find one false, say at which input.
  Laid BY PROGRAM, IN A SANDBOX (cutbox-rows.mjs): the forced cells as the released guide's own fill.sh prints them over the translation c1895ea623783326… (all of the seat's roots in one cut). By AI agents, Wed Nov 11 2026. No macro, syntax, notation, axiom, sorry.
-/
import Derived.Test.YtbffpehajkgjeaaChecked
import GoSem.Claim
import GoSem.ClaimJoined
import GoSem.ClaimMapViews
import Derived.JoinedTies
import Derived.KernelRfl
namespace Go.Proofs.Ytbffpehajkgjeaa
/- THE CELL 'sum', in the pinned program and in every row, IS THE sha256 OF THE DUMP (.gsa) THAT YtbffpehajkgjeaaProg.lean LOADS. Nothing in Lean hashes anything: it is a label: what it is worth is what the hold of that sum in a sandbox is worth. -/
noncomputable def Try.pinned : Pinned := { name := "ytbffpehajkgjeaa", sum := "c1895ea623783326e822deab4834aa5fbb801d9ffba0adbea27ce218f34e1ac8", checked := Try.checked }
namespace Rows
def none {H : Type} : Left H := { results := [], args := [] }

/-- 'laws.FnExactIsValidRoutine': WHATEVER THE INPUT: true; the input reads as it did. -/
def fnExactIsValidRoutineSpec : ChangeSpec := { name := "fnExactIsValidRoutine", fn := fun _ => fun
  | [d] => { results := [.lit (.bool true)], args := [d] }
  | _ => none }
def fnExactIsValidRoutineRow : OpenClaim := { program := "ytbffpehajkgjeaa", sum := "c1895ea623783326e822deab4834aa5fbb801d9ffba0adbea27ce218f34e1ac8", func := "loop.example/g00506/laws.FnExactIsValidRoutine", spec := "fnExactIsValidRoutine", apart := false }
def FnExactIsValidRoutineSaid : Prop := fnExactIsValidRoutineRow.holds Try.pinned (OpenSpec.ofChange fnExactIsValidRoutineSpec)

/-- ITS FALSE NEIGHBOUR: 'it returns false'. Refute it at one input. -/
def fnExactIsValidRoutineWrong : ChangeSpec := { name := "fnExactIsValidRoutine", fn := fun _ => fun
  | [d] => { results := [.lit (.bool false)], args := [d] }
  | _ => none }
def FnExactIsValidRoutineWrongFalsely : Prop := fnExactIsValidRoutineRow.holds Try.pinned (OpenSpec.ofChange fnExactIsValidRoutineWrong)

/-- 'laws.FnExactControlledOps': WHATEVER THE INPUT: true; the input reads as it did. -/
def fnExactControlledOpsSpec : ChangeSpec := { name := "fnExactControlledOps", fn := fun _ => fun
  | [d1, d2] => { results := [.lit (.bool true)], args := [d1, d2] }
  | _ => none }
def fnExactControlledOpsRow : OpenClaim := { program := "ytbffpehajkgjeaa", sum := "c1895ea623783326e822deab4834aa5fbb801d9ffba0adbea27ce218f34e1ac8", func := "loop.example/g00506/laws.FnExactControlledOps", spec := "fnExactControlledOps", apart := false }
def FnExactControlledOpsSaid : Prop := fnExactControlledOpsRow.holds Try.pinned (OpenSpec.ofChange fnExactControlledOpsSpec)

/-- ITS FALSE NEIGHBOUR: 'it returns false'. Refute it at one input. -/
def fnExactControlledOpsWrong : ChangeSpec := { name := "fnExactControlledOps", fn := fun _ => fun
  | [d1, d2] => { results := [.lit (.bool false)], args := [d1, d2] }
  | _ => none }
def FnExactControlledOpsWrongFalsely : Prop := fnExactControlledOpsRow.holds Try.pinned (OpenSpec.ofChange fnExactControlledOpsWrong)

/-- 'laws.FnRepeated': WHATEVER THE INPUT: true; the input reads as it did. -/
def fnRepeatedSpec : ChangeSpec := { name := "fnRepeated", fn := fun _ => fun
  | [d] => { results := [.lit (.bool true)], args := [d] }
  | _ => none }
def fnRepeatedRow : OpenClaim := { program := "ytbffpehajkgjeaa", sum := "c1895ea623783326e822deab4834aa5fbb801d9ffba0adbea27ce218f34e1ac8", func := "loop.example/g00506/laws.FnRepeated", spec := "fnRepeated", apart := false }
def FnRepeatedSaid : Prop := fnRepeatedRow.holds Try.pinned (OpenSpec.ofChange fnRepeatedSpec)

/-- ITS FALSE NEIGHBOUR: 'it returns false'. Refute it at one input. -/
def fnRepeatedWrong : ChangeSpec := { name := "fnRepeated", fn := fun _ => fun
  | [d] => { results := [.lit (.bool false)], args := [d] }
  | _ => none }
def FnRepeatedWrongFalsely : Prop := fnRepeatedRow.holds Try.pinned (OpenSpec.ofChange fnRepeatedWrong)

/-- 'laws.FnLoweredGate': WHATEVER THE INPUT: true; the input reads as it did. -/
def fnLoweredGateSpec : ChangeSpec := { name := "fnLoweredGate", fn := fun _ => fun
  | [d] => { results := [.lit (.bool true)], args := [d] }
  | _ => none }
def fnLoweredGateRow : OpenClaim := { program := "ytbffpehajkgjeaa", sum := "c1895ea623783326e822deab4834aa5fbb801d9ffba0adbea27ce218f34e1ac8", func := "loop.example/g00506/laws.FnLoweredGate", spec := "fnLoweredGate", apart := false }
def FnLoweredGateSaid : Prop := fnLoweredGateRow.holds Try.pinned (OpenSpec.ofChange fnLoweredGateSpec)

/-- ITS FALSE NEIGHBOUR: 'it returns false'. Refute it at one input. -/
def fnLoweredGateWrong : ChangeSpec := { name := "fnLoweredGate", fn := fun _ => fun
  | [d] => { results := [.lit (.bool false)], args := [d] }
  | _ => none }
def FnLoweredGateWrongFalsely : Prop := fnLoweredGateRow.holds Try.pinned (OpenSpec.ofChange fnLoweredGateWrong)

/-- 'laws.FnOps': WHATEVER THE INPUT: true; the input reads as it did. -/
def fnOpsSpec : ChangeSpec := { name := "fnOps", fn := fun _ => fun
  | [d] => { results := [.lit (.bool true)], args := [d] }
  | _ => none }
def fnOpsRow : OpenClaim := { program := "ytbffpehajkgjeaa", sum := "c1895ea623783326e822deab4834aa5fbb801d9ffba0adbea27ce218f34e1ac8", func := "loop.example/g00506/laws.FnOps", spec := "fnOps", apart := false }
def FnOpsSaid : Prop := fnOpsRow.holds Try.pinned (OpenSpec.ofChange fnOpsSpec)

/-- ITS FALSE NEIGHBOUR: 'it returns false'. Refute it at one input. -/
def fnOpsWrong : ChangeSpec := { name := "fnOps", fn := fun _ => fun
  | [d] => { results := [.lit (.bool false)], args := [d] }
  | _ => none }
def FnOpsWrongFalsely : Prop := fnOpsRow.holds Try.pinned (OpenSpec.ofChange fnOpsWrong)

/-- 'laws.FnExactInitialBranch': WHATEVER THE INPUT: true; the input reads as it did. -/
def fnExactInitialBranchSpec : ChangeSpec := { name := "fnExactInitialBranch", fn := fun _ => fun
  | [d1, d2] => { results := [.lit (.bool true)], args := [d1, d2] }
  | _ => none }
def fnExactInitialBranchRow : OpenClaim := { program := "ytbffpehajkgjeaa", sum := "c1895ea623783326e822deab4834aa5fbb801d9ffba0adbea27ce218f34e1ac8", func := "loop.example/g00506/laws.FnExactInitialBranch", spec := "fnExactInitialBranch", apart := false }
def FnExactInitialBranchSaid : Prop := fnExactInitialBranchRow.holds Try.pinned (OpenSpec.ofChange fnExactInitialBranchSpec)

/-- ITS FALSE NEIGHBOUR: 'it returns false'. Refute it at one input. -/
def fnExactInitialBranchWrong : ChangeSpec := { name := "fnExactInitialBranch", fn := fun _ => fun
  | [d1, d2] => { results := [.lit (.bool false)], args := [d1, d2] }
  | _ => none }
def FnExactInitialBranchWrongFalsely : Prop := fnExactInitialBranchRow.holds Try.pinned (OpenSpec.ofChange fnExactInitialBranchWrong)

/-- 'laws.FnExactEqualBranches': WHATEVER THE INPUT: true; the input reads as it did. -/
def fnExactEqualBranchesSpec : ChangeSpec := { name := "fnExactEqualBranches", fn := fun _ => fun
  | [d1, d2] => { results := [.lit (.bool true)], args := [d1, d2] }
  | _ => none }
def fnExactEqualBranchesRow : OpenClaim := { program := "ytbffpehajkgjeaa", sum := "c1895ea623783326e822deab4834aa5fbb801d9ffba0adbea27ce218f34e1ac8", func := "loop.example/g00506/laws.FnExactEqualBranches", spec := "fnExactEqualBranches", apart := false }
def FnExactEqualBranchesSaid : Prop := fnExactEqualBranchesRow.holds Try.pinned (OpenSpec.ofChange fnExactEqualBranchesSpec)

/-- ITS FALSE NEIGHBOUR: 'it returns false'. Refute it at one input. -/
def fnExactEqualBranchesWrong : ChangeSpec := { name := "fnExactEqualBranches", fn := fun _ => fun
  | [d1, d2] => { results := [.lit (.bool false)], args := [d1, d2] }
  | _ => none }
def FnExactEqualBranchesWrongFalsely : Prop := fnExactEqualBranchesRow.holds Try.pinned (OpenSpec.ofChange fnExactEqualBranchesWrong)

/-- 'laws.FnExactMeasureBranch': WHATEVER THE INPUT: true; the input reads as it did. -/
def fnExactMeasureBranchSpec : ChangeSpec := { name := "fnExactMeasureBranch", fn := fun _ => fun
  | [d1, d2, d3] => { results := [.lit (.bool true)], args := [d1, d2, d3] }
  | _ => none }
def fnExactMeasureBranchRow : OpenClaim := { program := "ytbffpehajkgjeaa", sum := "c1895ea623783326e822deab4834aa5fbb801d9ffba0adbea27ce218f34e1ac8", func := "loop.example/g00506/laws.FnExactMeasureBranch", spec := "fnExactMeasureBranch", apart := false }
def FnExactMeasureBranchSaid : Prop := fnExactMeasureBranchRow.holds Try.pinned (OpenSpec.ofChange fnExactMeasureBranchSpec)

/-- ITS FALSE NEIGHBOUR: 'it returns false'. Refute it at one input. -/
def fnExactMeasureBranchWrong : ChangeSpec := { name := "fnExactMeasureBranch", fn := fun _ => fun
  | [d1, d2, d3] => { results := [.lit (.bool false)], args := [d1, d2, d3] }
  | _ => none }
def FnExactMeasureBranchWrongFalsely : Prop := fnExactMeasureBranchRow.holds Try.pinned (OpenSpec.ofChange fnExactMeasureBranchWrong)

/-- 'laws.FnExactOutcomes': WHATEVER THE INPUT: true; the input reads as it did. -/
def fnExactOutcomesSpec : ChangeSpec := { name := "fnExactOutcomes", fn := fun _ => fun
  | [d] => { results := [.lit (.bool true)], args := [d] }
  | _ => none }
def fnExactOutcomesRow : OpenClaim := { program := "ytbffpehajkgjeaa", sum := "c1895ea623783326e822deab4834aa5fbb801d9ffba0adbea27ce218f34e1ac8", func := "loop.example/g00506/laws.FnExactOutcomes", spec := "fnExactOutcomes", apart := false }
def FnExactOutcomesSaid : Prop := fnExactOutcomesRow.holds Try.pinned (OpenSpec.ofChange fnExactOutcomesSpec)

/-- ITS FALSE NEIGHBOUR: 'it returns false'. Refute it at one input. -/
def fnExactOutcomesWrong : ChangeSpec := { name := "fnExactOutcomes", fn := fun _ => fun
  | [d] => { results := [.lit (.bool false)], args := [d] }
  | _ => none }
def FnExactOutcomesWrongFalsely : Prop := fnExactOutcomesRow.holds Try.pinned (OpenSpec.ofChange fnExactOutcomesWrong)

/-- 'laws.FnExactPermuteBranch': WHATEVER THE INPUT: true; the input reads as it did. -/
def fnExactPermuteBranchSpec : ChangeSpec := { name := "fnExactPermuteBranch", fn := fun _ => fun
  | [d1, d2] => { results := [.lit (.bool true)], args := [d1, d2] }
  | _ => none }
def fnExactPermuteBranchRow : OpenClaim := { program := "ytbffpehajkgjeaa", sum := "c1895ea623783326e822deab4834aa5fbb801d9ffba0adbea27ce218f34e1ac8", func := "loop.example/g00506/laws.FnExactPermuteBranch", spec := "fnExactPermuteBranch", apart := false }
def FnExactPermuteBranchSaid : Prop := fnExactPermuteBranchRow.holds Try.pinned (OpenSpec.ofChange fnExactPermuteBranchSpec)

/-- ITS FALSE NEIGHBOUR: 'it returns false'. Refute it at one input. -/
def fnExactPermuteBranchWrong : ChangeSpec := { name := "fnExactPermuteBranch", fn := fun _ => fun
  | [d1, d2] => { results := [.lit (.bool false)], args := [d1, d2] }
  | _ => none }
def FnExactPermuteBranchWrongFalsely : Prop := fnExactPermuteBranchRow.holds Try.pinned (OpenSpec.ofChange fnExactPermuteBranchWrong)

/- THE SECOND FORM. 'bulk': how many values and letters a reading holds, each counted each time it is reached (what is shared counts as often as it is met; a slice's spare places count too). A statement '..UptoSaid' is the law's where the arguments, and the package variables that the reading takes, are together of bulk at most 1048576: NARROWER than '..Said'. Prove '..Said' where nothing that the law and all that it calls make is longer than what came in: it says more and counts as full. Else prove '..UptoSaid'. A law counts once. -/
mutual
def uptoBulk {H : Type} : DataW H → Nat
  | .lit (.string bytes) => bytes.length + 1
  | .lit _ => 1
  | .nil => 1
  | .ptr d => uptoBulk d + 1
  | .slice elems spare => uptoBulkAll elems + uptoBulkAll spare + 1
  | .agg parts => uptoBulkAll parts + 1
  | .iface _ d => uptoBulk d + 1
  | .map entries => uptoBulkEntries entries + 1
  | .held _ => 1
def uptoBulkAll {H : Type} : List (DataW H) → Nat
  | [] => 0
  | d :: r => uptoBulk d + uptoBulkAll r
def uptoBulkEntries {H : Type} : List (Lit × DataW H) → Nat
  | [] => 0
  | x :: r => uptoBulkEntry x + uptoBulkEntries r
def uptoBulkEntry {H : Type} : Lit × DataW H → Nat
  | (.string bytes, d) => bytes.length + uptoBulk d + 1
  | (_, d) => uptoBulk d + 1
 end
def uptoSmall : (H : Type) → List (DataW H) → Bool := fun _ ds => decide (uptoBulkAll ds ≤ 1048576)
def OpenSpec.upto (s : _root_.Go.ChangeSpec) : _root_.Go.OpenSpec := { _root_.Go.OpenSpec.ofChange s with cond := some uptoSmall }

/-- 'laws.FnExactIsValidRoutine', WHERE WHAT IT READS IS OF BULK AT MOST 1048576: true; the input reads as it did. -/
def fnExactIsValidRoutineUptoRow : OpenClaim := { program := "ytbffpehajkgjeaa", sum := "c1895ea623783326e822deab4834aa5fbb801d9ffba0adbea27ce218f34e1ac8", func := "loop.example/g00506/laws.FnExactIsValidRoutine", spec := "fnExactIsValidRoutine", apart := false, narrowed := true }
def FnExactIsValidRoutineUptoSaid : Prop := fnExactIsValidRoutineUptoRow.holds Try.pinned (OpenSpec.upto fnExactIsValidRoutineSpec)

/-- 'laws.FnExactControlledOps', WHERE WHAT IT READS IS OF BULK AT MOST 1048576: true; the input reads as it did. -/
def fnExactControlledOpsUptoRow : OpenClaim := { program := "ytbffpehajkgjeaa", sum := "c1895ea623783326e822deab4834aa5fbb801d9ffba0adbea27ce218f34e1ac8", func := "loop.example/g00506/laws.FnExactControlledOps", spec := "fnExactControlledOps", apart := false, narrowed := true }
def FnExactControlledOpsUptoSaid : Prop := fnExactControlledOpsUptoRow.holds Try.pinned (OpenSpec.upto fnExactControlledOpsSpec)

/-- 'laws.FnRepeated', WHERE WHAT IT READS IS OF BULK AT MOST 1048576: true; the input reads as it did. -/
def fnRepeatedUptoRow : OpenClaim := { program := "ytbffpehajkgjeaa", sum := "c1895ea623783326e822deab4834aa5fbb801d9ffba0adbea27ce218f34e1ac8", func := "loop.example/g00506/laws.FnRepeated", spec := "fnRepeated", apart := false, narrowed := true }
def FnRepeatedUptoSaid : Prop := fnRepeatedUptoRow.holds Try.pinned (OpenSpec.upto fnRepeatedSpec)

/-- 'laws.FnLoweredGate', WHERE WHAT IT READS IS OF BULK AT MOST 1048576: true; the input reads as it did. -/
def fnLoweredGateUptoRow : OpenClaim := { program := "ytbffpehajkgjeaa", sum := "c1895ea623783326e822deab4834aa5fbb801d9ffba0adbea27ce218f34e1ac8", func := "loop.example/g00506/laws.FnLoweredGate", spec := "fnLoweredGate", apart := false, narrowed := true }
def FnLoweredGateUptoSaid : Prop := fnLoweredGateUptoRow.holds Try.pinned (OpenSpec.upto fnLoweredGateSpec)

/-- 'laws.FnOps', WHERE WHAT IT READS IS OF BULK AT MOST 1048576: true; the input reads as it did. -/
def fnOpsUptoRow : OpenClaim := { program := "ytbffpehajkgjeaa", sum := "c1895ea623783326e822deab4834aa5fbb801d9ffba0adbea27ce218f34e1ac8", func := "loop.example/g00506/laws.FnOps", spec := "fnOps", apart := false, narrowed := true }
def FnOpsUptoSaid : Prop := fnOpsUptoRow.holds Try.pinned (OpenSpec.upto fnOpsSpec)

/-- 'laws.FnExactInitialBranch', WHERE WHAT IT READS IS OF BULK AT MOST 1048576: true; the input reads as it did. -/
def fnExactInitialBranchUptoRow : OpenClaim := { program := "ytbffpehajkgjeaa", sum := "c1895ea623783326e822deab4834aa5fbb801d9ffba0adbea27ce218f34e1ac8", func := "loop.example/g00506/laws.FnExactInitialBranch", spec := "fnExactInitialBranch", apart := false, narrowed := true }
def FnExactInitialBranchUptoSaid : Prop := fnExactInitialBranchUptoRow.holds Try.pinned (OpenSpec.upto fnExactInitialBranchSpec)

/-- 'laws.FnExactEqualBranches', WHERE WHAT IT READS IS OF BULK AT MOST 1048576: true; the input reads as it did. -/
def fnExactEqualBranchesUptoRow : OpenClaim := { program := "ytbffpehajkgjeaa", sum := "c1895ea623783326e822deab4834aa5fbb801d9ffba0adbea27ce218f34e1ac8", func := "loop.example/g00506/laws.FnExactEqualBranches", spec := "fnExactEqualBranches", apart := false, narrowed := true }
def FnExactEqualBranchesUptoSaid : Prop := fnExactEqualBranchesUptoRow.holds Try.pinned (OpenSpec.upto fnExactEqualBranchesSpec)

/-- 'laws.FnExactMeasureBranch', WHERE WHAT IT READS IS OF BULK AT MOST 1048576: true; the input reads as it did. -/
def fnExactMeasureBranchUptoRow : OpenClaim := { program := "ytbffpehajkgjeaa", sum := "c1895ea623783326e822deab4834aa5fbb801d9ffba0adbea27ce218f34e1ac8", func := "loop.example/g00506/laws.FnExactMeasureBranch", spec := "fnExactMeasureBranch", apart := false, narrowed := true }
def FnExactMeasureBranchUptoSaid : Prop := fnExactMeasureBranchUptoRow.holds Try.pinned (OpenSpec.upto fnExactMeasureBranchSpec)

/-- 'laws.FnExactOutcomes', WHERE WHAT IT READS IS OF BULK AT MOST 1048576: true; the input reads as it did. -/
def fnExactOutcomesUptoRow : OpenClaim := { program := "ytbffpehajkgjeaa", sum := "c1895ea623783326e822deab4834aa5fbb801d9ffba0adbea27ce218f34e1ac8", func := "loop.example/g00506/laws.FnExactOutcomes", spec := "fnExactOutcomes", apart := false, narrowed := true }
def FnExactOutcomesUptoSaid : Prop := fnExactOutcomesUptoRow.holds Try.pinned (OpenSpec.upto fnExactOutcomesSpec)

/-- 'laws.FnExactPermuteBranch', WHERE WHAT IT READS IS OF BULK AT MOST 1048576: true; the input reads as it did. -/
def fnExactPermuteBranchUptoRow : OpenClaim := { program := "ytbffpehajkgjeaa", sum := "c1895ea623783326e822deab4834aa5fbb801d9ffba0adbea27ce218f34e1ac8", func := "loop.example/g00506/laws.FnExactPermuteBranch", spec := "fnExactPermuteBranch", apart := false, narrowed := true }
def FnExactPermuteBranchUptoSaid : Prop := fnExactPermuteBranchUptoRow.holds Try.pinned (OpenSpec.upto fnExactPermuteBranchSpec)

end Rows
end Go.Proofs.Ytbffpehajkgjeaa
