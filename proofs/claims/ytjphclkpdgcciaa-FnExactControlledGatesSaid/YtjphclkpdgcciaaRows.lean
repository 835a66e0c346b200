/-
  No cell of these rows narrows 'for every input' (looked for: loops, veiled, ifaces, maps, wideKeys, modest, calm, conditions, laid).
  DERIVED. THE GIVEN ROWS OF THIS SEAT. 12 by the template 'for every input the law returns true; each argument reads behind the call as it read before'; 0 by the template 'total and deterministic' (their statements: YtjphclkpdgcciaaTotals.lean).
  GIVEN WITH THE SEED: the statements are not yours to turn. If you find one false, say at which input.
  Laid BY PROGRAM, IN A SANDBOX (cutbox-rows.mjs): the forced cells as the released guide's own fill.sh prints them over the translation 584c1dbe157ee2d3… (all of the seat's roots in one cut). By AI agents, Wed Nov 11 2026. No macro, syntax, notation, axiom, sorry.
-/
import Derived.Test.YtjphclkpdgcciaaChecked
import GoSem.Claim
import GoSem.ClaimJoined
import GoSem.ClaimMapViews
import Derived.JoinedTies
import Derived.KernelRfl
namespace Go.Proofs.Ytjphclkpdgcciaa
/- THE CELL 'sum', in the pinned program and in every row, IS THE sha256 OF THE DUMP (.gsa) THAT YtjphclkpdgcciaaProg.lean LOADS. Nothing in Lean hashes anything: it is a label: what it is worth is what the hold of that sum in a sandbox is worth. -/
noncomputable def Try.pinned : Pinned := { name := "ytjphclkpdgcciaa", sum := "584c1dbe157ee2d3ad10881e5c464c5d3fba62609543cbb16c676b89bbe39d02", checked := Try.checked }
namespace Rows
def none {H : Type} : Left H := { results := [], args := [] }

/-- 'laws.FnExactCheckErrorName': WHATEVER THE INPUT: true; the input reads as it did. -/
def fnExactCheckErrorNameSpec : ChangeSpec := { name := "fnExactCheckErrorName", fn := fun _ => fun
  | [d] => { results := [.lit (.bool true)], args := [d] }
  | _ => none }
def fnExactCheckErrorNameRow : OpenClaim := { program := "ytjphclkpdgcciaa", sum := "584c1dbe157ee2d3ad10881e5c464c5d3fba62609543cbb16c676b89bbe39d02", func := "loop.example/g00506/laws.FnExactCheckErrorName", spec := "fnExactCheckErrorName", apart := false }
def FnExactCheckErrorNameSaid : Prop := fnExactCheckErrorNameRow.holds Try.pinned (OpenSpec.ofChange fnExactCheckErrorNameSpec)

/-- ITS FALSE NEIGHBOUR: 'it returns false'. Refute it at one input. -/
def fnExactCheckErrorNameWrong : ChangeSpec := { name := "fnExactCheckErrorName", fn := fun _ => fun
  | [d] => { results := [.lit (.bool false)], args := [d] }
  | _ => none }
def FnExactCheckErrorNameWrongFalsely : Prop := fnExactCheckErrorNameRow.holds Try.pinned (OpenSpec.ofChange fnExactCheckErrorNameWrong)

/-- 'laws.FnExactSyntaxErrorName': WHATEVER THE INPUT: true; the input reads as it did. -/
def fnExactSyntaxErrorNameSpec : ChangeSpec := { name := "fnExactSyntaxErrorName", fn := fun _ => fun
  | [d] => { results := [.lit (.bool true)], args := [d] }
  | _ => none }
def fnExactSyntaxErrorNameRow : OpenClaim := { program := "ytjphclkpdgcciaa", sum := "584c1dbe157ee2d3ad10881e5c464c5d3fba62609543cbb16c676b89bbe39d02", func := "loop.example/g00506/laws.FnExactSyntaxErrorName", spec := "fnExactSyntaxErrorName", apart := false }
def FnExactSyntaxErrorNameSaid : Prop := fnExactSyntaxErrorNameRow.holds Try.pinned (OpenSpec.ofChange fnExactSyntaxErrorNameSpec)

/-- ITS FALSE NEIGHBOUR: 'it returns false'. Refute it at one input. -/
def fnExactSyntaxErrorNameWrong : ChangeSpec := { name := "fnExactSyntaxErrorName", fn := fun _ => fun
  | [d] => { results := [.lit (.bool false)], args := [d] }
  | _ => none }
def FnExactSyntaxErrorNameWrongFalsely : Prop := fnExactSyntaxErrorNameRow.holds Try.pinned (OpenSpec.ofChange fnExactSyntaxErrorNameWrong)

/-- 'laws.FnExactDecomposeGate': WHATEVER THE INPUT: true; the input reads as it did. -/
def fnExactDecomposeGateSpec : ChangeSpec := { name := "fnExactDecomposeGate", fn := fun _ => fun
  | [d] => { results := [.lit (.bool true)], args := [d] }
  | _ => none }
def fnExactDecomposeGateRow : OpenClaim := { program := "ytjphclkpdgcciaa", sum := "584c1dbe157ee2d3ad10881e5c464c5d3fba62609543cbb16c676b89bbe39d02", func := "loop.example/g00506/laws.FnExactDecomposeGate", spec := "fnExactDecomposeGate", apart := false }
def FnExactDecomposeGateSaid : Prop := fnExactDecomposeGateRow.holds Try.pinned (OpenSpec.ofChange fnExactDecomposeGateSpec)

/-- ITS FALSE NEIGHBOUR: 'it returns false'. Refute it at one input. -/
def fnExactDecomposeGateWrong : ChangeSpec := { name := "fnExactDecomposeGate", fn := fun _ => fun
  | [d] => { results := [.lit (.bool false)], args := [d] }
  | _ => none }
def FnExactDecomposeGateWrongFalsely : Prop := fnExactDecomposeGateRow.holds Try.pinned (OpenSpec.ofChange fnExactDecomposeGateWrong)

/-- 'laws.FnExactIsValidOp': WHATEVER THE INPUT: true; the input reads as it did. -/
def fnExactIsValidOpSpec : ChangeSpec := { name := "fnExactIsValidOp", fn := fun _ => fun
  | [d1, d2, d3] => { results := [.lit (.bool true)], args := [d1, d2, d3] }
  | _ => none }
def fnExactIsValidOpRow : OpenClaim := { program := "ytjphclkpdgcciaa", sum := "584c1dbe157ee2d3ad10881e5c464c5d3fba62609543cbb16c676b89bbe39d02", func := "loop.example/g00506/laws.FnExactIsValidOp", spec := "fnExactIsValidOp", apart := false }
def FnExactIsValidOpSaid : Prop := fnExactIsValidOpRow.holds Try.pinned (OpenSpec.ofChange fnExactIsValidOpSpec)

/-- ITS FALSE NEIGHBOUR: 'it returns false'. Refute it at one input. -/
def fnExactIsValidOpWrong : ChangeSpec := { name := "fnExactIsValidOp", fn := fun _ => fun
  | [d1, d2, d3] => { results := [.lit (.bool false)], args := [d1, d2, d3] }
  | _ => none }
def FnExactIsValidOpWrongFalsely : Prop := fnExactIsValidOpRow.holds Try.pinned (OpenSpec.ofChange fnExactIsValidOpWrong)

/-- 'laws.FnExactRoutineGateCount': WHATEVER THE INPUT: true; the input reads as it did. -/
def fnExactRoutineGateCountSpec : ChangeSpec := { name := "fnExactRoutineGateCount", fn := fun _ => fun
  | [d] => { results := [.lit (.bool true)], args := [d] }
  | _ => none }
def fnExactRoutineGateCountRow : OpenClaim := { program := "ytjphclkpdgcciaa", sum := "584c1dbe157ee2d3ad10881e5c464c5d3fba62609543cbb16c676b89bbe39d02", func := "loop.example/g00506/laws.FnExactRoutineGateCount", spec := "fnExactRoutineGateCount", apart := false }
def FnExactRoutineGateCountSaid : Prop := fnExactRoutineGateCountRow.holds Try.pinned (OpenSpec.ofChange fnExactRoutineGateCountSpec)

/-- ITS FALSE NEIGHBOUR: 'it returns false'. Refute it at one input. -/
def fnExactRoutineGateCountWrong : ChangeSpec := { name := "fnExactRoutineGateCount", fn := fun _ => fun
  | [d] => { results := [.lit (.bool false)], args := [d] }
  | _ => none }
def FnExactRoutineGateCountWrongFalsely : Prop := fnExactRoutineGateCountRow.holds Try.pinned (OpenSpec.ofChange fnExactRoutineGateCountWrong)

/-- 'laws.FnExactDecomposeGates': WHATEVER THE INPUT: true; the input reads as it did. -/
def fnExactDecomposeGatesSpec : ChangeSpec := { name := "fnExactDecomposeGates", fn := fun _ => fun
  | [d] => { results := [.lit (.bool true)], args := [d] }
  | _ => none }
def fnExactDecomposeGatesRow : OpenClaim := { program := "ytjphclkpdgcciaa", sum := "584c1dbe157ee2d3ad10881e5c464c5d3fba62609543cbb16c676b89bbe39d02", func := "loop.example/g00506/laws.FnExactDecomposeGates", spec := "fnExactDecomposeGates", apart := false }
def FnExactDecomposeGatesSaid : Prop := fnExactDecomposeGatesRow.holds Try.pinned (OpenSpec.ofChange fnExactDecomposeGatesSpec)

/-- ITS FALSE NEIGHBOUR: 'it returns false'. Refute it at one input. -/
def fnExactDecomposeGatesWrong : ChangeSpec := { name := "fnExactDecomposeGates", fn := fun _ => fun
  | [d] => { results := [.lit (.bool false)], args := [d] }
  | _ => none }
def FnExactDecomposeGatesWrongFalsely : Prop := fnExactDecomposeGatesRow.holds Try.pinned (OpenSpec.ofChange fnExactDecomposeGatesWrong)

/-- 'laws.FnExactEqualRoutine': WHATEVER THE INPUT: true; the input reads as it did. -/
def fnExactEqualRoutineSpec : ChangeSpec := { name := "fnExactEqualRoutine", fn := fun _ => fun
  | [d1, d2] => { results := [.lit (.bool true)], args := [d1, d2] }
  | _ => none }
def fnExactEqualRoutineRow : OpenClaim := { program := "ytjphclkpdgcciaa", sum := "584c1dbe157ee2d3ad10881e5c464c5d3fba62609543cbb16c676b89bbe39d02", func := "loop.example/g00506/laws.FnExactEqualRoutine", spec := "fnExactEqualRoutine", apart := false }
def FnExactEqualRoutineSaid : Prop := fnExactEqualRoutineRow.holds Try.pinned (OpenSpec.ofChange fnExactEqualRoutineSpec)

/-- ITS FALSE NEIGHBOUR: 'it returns false'. Refute it at one input. -/
def fnExactEqualRoutineWrong : ChangeSpec := { name := "fnExactEqualRoutine", fn := fun _ => fun
  | [d1, d2] => { results := [.lit (.bool false)], args := [d1, d2] }
  | _ => none }
def FnExactEqualRoutineWrongFalsely : Prop := fnExactEqualRoutineRow.holds Try.pinned (OpenSpec.ofChange fnExactEqualRoutineWrong)

/-- 'laws.FnExactRepeatOps': WHATEVER THE INPUT: true; the input reads as it did. -/
def fnExactRepeatOpsSpec : ChangeSpec := { name := "fnExactRepeatOps", fn := fun _ => fun
  | [d1, d2] => { results := [.lit (.bool true)], args := [d1, d2] }
  | _ => none }
def fnExactRepeatOpsRow : OpenClaim := { program := "ytjphclkpdgcciaa", sum := "584c1dbe157ee2d3ad10881e5c464c5d3fba62609543cbb16c676b89bbe39d02", func := "loop.example/g00506/laws.FnExactRepeatOps", spec := "fnExactRepeatOps", apart := false }
def FnExactRepeatOpsSaid : Prop := fnExactRepeatOpsRow.holds Try.pinned (OpenSpec.ofChange fnExactRepeatOpsSpec)

/-- ITS FALSE NEIGHBOUR: 'it returns false'. Refute it at one input. -/
def fnExactRepeatOpsWrong : ChangeSpec := { name := "fnExactRepeatOps", fn := fun _ => fun
  | [d1, d2] => { results := [.lit (.bool false)], args := [d1, d2] }
  | _ => none }
def FnExactRepeatOpsWrongFalsely : Prop := fnExactRepeatOpsRow.holds Try.pinned (OpenSpec.ofChange fnExactRepeatOpsWrong)

/-- 'laws.FnExactGateOps': WHATEVER THE INPUT: true; the input reads as it did. -/
def fnExactGateOpsSpec : ChangeSpec := { name := "fnExactGateOps", fn := fun _ => fun
  | [d1, d2] => { results := [.lit (.bool true)], args := [d1, d2] }
  | _ => none }
def fnExactGateOpsRow : OpenClaim := { program := "ytjphclkpdgcciaa", sum := "584c1dbe157ee2d3ad10881e5c464c5d3fba62609543cbb16c676b89bbe39d02", func := "loop.example/g00506/laws.FnExactGateOps", spec := "fnExactGateOps", apart := false }
def FnExactGateOpsSaid : Prop := fnExactGateOpsRow.holds Try.pinned (OpenSpec.ofChange fnExactGateOpsSpec)

/-- ITS FALSE NEIGHBOUR: 'it returns false'. Refute it at one input. -/
def fnExactGateOpsWrong : ChangeSpec := { name := "fnExactGateOps", fn := fun _ => fun
  | [d1, d2] => { results := [.lit (.bool false)], args := [d1, d2] }
  | _ => none }
def FnExactGateOpsWrongFalsely : Prop := fnExactGateOpsRow.holds Try.pinned (OpenSpec.ofChange fnExactGateOpsWrong)

/-- 'laws.FnExactAdjointOps': WHATEVER THE INPUT: true; the input reads as it did. -/
def fnExactAdjointOpsSpec : ChangeSpec := { name := "fnExactAdjointOps", fn := fun _ => fun
  | [d] => { results := [.lit (.bool true)], args := [d] }
  | _ => none }
def fnExactAdjointOpsRow : OpenClaim := { program := "ytjphclkpdgcciaa", sum := "584c1dbe157ee2d3ad10881e5c464c5d3fba62609543cbb16c676b89bbe39d02", func := "loop.example/g00506/laws.FnExactAdjointOps", spec := "fnExactAdjointOps", apart := false }
def FnExactAdjointOpsSaid : Prop := fnExactAdjointOpsRow.holds Try.pinned (OpenSpec.ofChange fnExactAdjointOpsSpec)

/-- ITS FALSE NEIGHBOUR: 'it returns false'. Refute it at one input. -/
def fnExactAdjointOpsWrong : ChangeSpec := { name := "fnExactAdjointOps", fn := fun _ => fun
  | [d] => { results := [.lit (.bool false)], args := [d] }
  | _ => none }
def FnExactAdjointOpsWrongFalsely : Prop := fnExactAdjointOpsRow.holds Try.pinned (OpenSpec.ofChange fnExactAdjointOpsWrong)

/-- 'laws.FnExactControlledGate': WHATEVER THE INPUT: true; the input reads as it did. -/
def fnExactControlledGateSpec : ChangeSpec := { name := "fnExactControlledGate", fn := fun _ => fun
  | [d1, d2] => { results := [.lit (.bool true)], args := [d1, d2] }
  | _ => none }
def fnExactControlledGateRow : OpenClaim := { program := "ytjphclkpdgcciaa", sum := "584c1dbe157ee2d3ad10881e5c464c5d3fba62609543cbb16c676b89bbe39d02", func := "loop.example/g00506/laws.FnExactControlledGate", spec := "fnExactControlledGate", apart := false }
def FnExactControlledGateSaid : Prop := fnExactControlledGateRow.holds Try.pinned (OpenSpec.ofChange fnExactControlledGateSpec)

/-- ITS FALSE NEIGHBOUR: 'it returns false'. Refute it at one input. -/
def fnExactControlledGateWrong : ChangeSpec := { name := "fnExactControlledGate", fn := fun _ => fun
  | [d1, d2] => { results := [.lit (.bool false)], args := [d1, d2] }
  | _ => none }
def FnExactControlledGateWrongFalsely : Prop := fnExactControlledGateRow.holds Try.pinned (OpenSpec.ofChange fnExactControlledGateWrong)

/-- 'laws.FnExactControlledGates': WHATEVER THE INPUT: true; the input reads as it did. -/
def fnExactControlledGatesSpec : ChangeSpec := { name := "fnExactControlledGates", fn := fun _ => fun
  | [d1, d2] => { results := [.lit (.bool true)], args := [d1, d2] }
  | _ => none }
def fnExactControlledGatesRow : OpenClaim := { program := "ytjphclkpdgcciaa", sum := "584c1dbe157ee2d3ad10881e5c464c5d3fba62609543cbb16c676b89bbe39d02", func := "loop.example/g00506/laws.FnExactControlledGates", spec := "fnExactControlledGates", apart := false }
def FnExactControlledGatesSaid : Prop := fnExactControlledGatesRow.holds Try.pinned (OpenSpec.ofChange fnExactControlledGatesSpec)

/-- ITS FALSE NEIGHBOUR: 'it returns false'. Refute it at one input. -/
def fnExactControlledGatesWrong : ChangeSpec := { name := "fnExactControlledGates", fn := fun _ => fun
  | [d1, d2] => { results := [.lit (.bool false)], args := [d1, d2] }
  | _ => none }
def FnExactControlledGatesWrongFalsely : Prop := fnExactControlledGatesRow.holds Try.pinned (OpenSpec.ofChange fnExactControlledGatesWrong)

/- THE SECOND FORM. 'bulk': how many values and letters a reading holds, each counted each time it is reached (what is shared counts as often as it is met; a slice's spare places count too). A statement '..UptoSaid' is the law's where the arguments, and the package variables that the reading takes, are together of bulk at most 1048576: NARROWER than '..Said'. Prove '..Said' where nothing that the law and all that it calls make is longer than what came in: it says more and counts as full. Else prove '..UptoSaid'. A law counts once. -/
mutual
def uptoBulk {H : Type} : DataW H → Nat
  | .lit (.string bytes) => bytes.length + 1
  | .lit _ => 1
  | .nil => 1
  | .ptr d => uptoBulk d + 1
  | .slice elems spare => uptoBulkAll elems + uptoBulkAll spare + 1
  | .agg parts => uptoBulkAll parts + 1
  | .iface _ d => uptoBulk d + 1
  | .map entries => uptoBulkEntries entries + 1
  | .held _ => 1
def uptoBulkAll {H : Type} : List (DataW H) → Nat
  | [] => 0
  | d :: r => uptoBulk d + uptoBulkAll r
def uptoBulkEntries {H : Type} : List (Lit × DataW H) → Nat
  | [] => 0
  | x :: r => uptoBulkEntry x + uptoBulkEntries r
def uptoBulkEntry {H : Type} : Lit × DataW H → Nat
  | (.string bytes, d) => bytes.length + uptoBulk d + 1
  | (_, d) => uptoBulk d + 1
 end
def uptoSmall : (H : Type) → List (DataW H) → Bool := fun _ ds => decide (uptoBulkAll ds ≤ 1048576)
def OpenSpec.upto (s : _root_.Go.ChangeSpec) : _root_.Go.OpenSpec := { _root_.Go.OpenSpec.ofChange s with cond := some uptoSmall }

/-- 'laws.FnExactCheckErrorName', WHERE WHAT IT READS IS OF BULK AT MOST 1048576: true; the input reads as it did. -/
def fnExactCheckErrorNameUptoRow : OpenClaim := { program := "ytjphclkpdgcciaa", sum := "584c1dbe157ee2d3ad10881e5c464c5d3fba62609543cbb16c676b89bbe39d02", func := "loop.example/g00506/laws.FnExactCheckErrorName", spec := "fnExactCheckErrorName", apart := false, narrowed := true }
def FnExactCheckErrorNameUptoSaid : Prop := fnExactCheckErrorNameUptoRow.holds Try.pinned (OpenSpec.upto fnExactCheckErrorNameSpec)

/-- 'laws.FnExactSyntaxErrorName', WHERE WHAT IT READS IS OF BULK AT MOST 1048576: true; the input reads as it did. -/
def fnExactSyntaxErrorNameUptoRow : OpenClaim := { program := "ytjphclkpdgcciaa", sum := "584c1dbe157ee2d3ad10881e5c464c5d3fba62609543cbb16c676b89bbe39d02", func := "loop.example/g00506/laws.FnExactSyntaxErrorName", spec := "fnExactSyntaxErrorName", apart := false, narrowed := true }
def FnExactSyntaxErrorNameUptoSaid : Prop := fnExactSyntaxErrorNameUptoRow.holds Try.pinned (OpenSpec.upto fnExactSyntaxErrorNameSpec)

/-- 'laws.FnExactDecomposeGate', WHERE WHAT IT READS IS OF BULK AT MOST 1048576: true; the input reads as it did. -/
def fnExactDecomposeGateUptoRow : OpenClaim := { program := "ytjphclkpdgcciaa", sum := "584c1dbe157ee2d3ad10881e5c464c5d3fba62609543cbb16c676b89bbe39d02", func := "loop.example/g00506/laws.FnExactDecomposeGate", spec := "fnExactDecomposeGate", apart := false, narrowed := true }
def FnExactDecomposeGateUptoSaid : Prop := fnExactDecomposeGateUptoRow.holds Try.pinned (OpenSpec.upto fnExactDecomposeGateSpec)

/-- 'laws.FnExactIsValidOp', WHERE WHAT IT READS IS OF BULK AT MOST 1048576: true; the input reads as it did. -/
def fnExactIsValidOpUptoRow : OpenClaim := { program := "ytjphclkpdgcciaa", sum := "584c1dbe157ee2d3ad10881e5c464c5d3fba62609543cbb16c676b89bbe39d02", func := "loop.example/g00506/laws.FnExactIsValidOp", spec := "fnExactIsValidOp", apart := false, narrowed := true }
def FnExactIsValidOpUptoSaid : Prop := fnExactIsValidOpUptoRow.holds Try.pinned (OpenSpec.upto fnExactIsValidOpSpec)

/-- 'laws.FnExactRoutineGateCount', WHERE WHAT IT READS IS OF BULK AT MOST 1048576: true; the input reads as it did. -/
def fnExactRoutineGateCountUptoRow : OpenClaim := { program := "ytjphclkpdgcciaa", sum := "584c1dbe157ee2d3ad10881e5c464c5d3fba62609543cbb16c676b89bbe39d02", func := "loop.example/g00506/laws.FnExactRoutineGateCount", spec := "fnExactRoutineGateCount", apart := false, narrowed := true }
def FnExactRoutineGateCountUptoSaid : Prop := fnExactRoutineGateCountUptoRow.holds Try.pinned (OpenSpec.upto fnExactRoutineGateCountSpec)

/-- 'laws.FnExactDecomposeGates', WHERE WHAT IT READS IS OF BULK AT MOST 1048576: true; the input reads as it did. -/
def fnExactDecomposeGatesUptoRow : OpenClaim := { program := "ytjphclkpdgcciaa", sum := "584c1dbe157ee2d3ad10881e5c464c5d3fba62609543cbb16c676b89bbe39d02", func := "loop.example/g00506/laws.FnExactDecomposeGates", spec := "fnExactDecomposeGates", apart := false, narrowed := true }
def FnExactDecomposeGatesUptoSaid : Prop := fnExactDecomposeGatesUptoRow.holds Try.pinned (OpenSpec.upto fnExactDecomposeGatesSpec)

/-- 'laws.FnExactEqualRoutine', WHERE WHAT IT READS IS OF BULK AT MOST 1048576: true; the input reads as it did. -/
def fnExactEqualRoutineUptoRow : OpenClaim := { program := "ytjphclkpdgcciaa", sum := "584c1dbe157ee2d3ad10881e5c464c5d3fba62609543cbb16c676b89bbe39d02", func := "loop.example/g00506/laws.FnExactEqualRoutine", spec := "fnExactEqualRoutine", apart := false, narrowed := true }
def FnExactEqualRoutineUptoSaid : Prop := fnExactEqualRoutineUptoRow.holds Try.pinned (OpenSpec.upto fnExactEqualRoutineSpec)

/-- 'laws.FnExactRepeatOps', WHERE WHAT IT READS IS OF BULK AT MOST 1048576: true; the input reads as it did. -/
def fnExactRepeatOpsUptoRow : OpenClaim := { program := "ytjphclkpdgcciaa", sum := "584c1dbe157ee2d3ad10881e5c464c5d3fba62609543cbb16c676b89bbe39d02", func := "loop.example/g00506/laws.FnExactRepeatOps", spec := "fnExactRepeatOps", apart := false, narrowed := true }
def FnExactRepeatOpsUptoSaid : Prop := fnExactRepeatOpsUptoRow.holds Try.pinned (OpenSpec.upto fnExactRepeatOpsSpec)

/-- 'laws.FnExactGateOps', WHERE WHAT IT READS IS OF BULK AT MOST 1048576: true; the input reads as it did. -/
def fnExactGateOpsUptoRow : OpenClaim := { program := "ytjphclkpdgcciaa", sum := "584c1dbe157ee2d3ad10881e5c464c5d3fba62609543cbb16c676b89bbe39d02", func := "loop.example/g00506/laws.FnExactGateOps", spec := "fnExactGateOps", apart := false, narrowed := true }
def FnExactGateOpsUptoSaid : Prop := fnExactGateOpsUptoRow.holds Try.pinned (OpenSpec.upto fnExactGateOpsSpec)

/-- 'laws.FnExactAdjointOps', WHERE WHAT IT READS IS OF BULK AT MOST 1048576: true; the input reads as it did. -/
def fnExactAdjointOpsUptoRow : OpenClaim := { program := "ytjphclkpdgcciaa", sum := "584c1dbe157ee2d3ad10881e5c464c5d3fba62609543cbb16c676b89bbe39d02", func := "loop.example/g00506/laws.FnExactAdjointOps", spec := "fnExactAdjointOps", apart := false, narrowed := true }
def FnExactAdjointOpsUptoSaid : Prop := fnExactAdjointOpsUptoRow.holds Try.pinned (OpenSpec.upto fnExactAdjointOpsSpec)

/-- 'laws.FnExactControlledGate', WHERE WHAT IT READS IS OF BULK AT MOST 1048576: true; the input reads as it did. -/
def fnExactControlledGateUptoRow : OpenClaim := { program := "ytjphclkpdgcciaa", sum := "584c1dbe157ee2d3ad10881e5c464c5d3fba62609543cbb16c676b89bbe39d02", func := "loop.example/g00506/laws.FnExactControlledGate", spec := "fnExactControlledGate", apart := false, narrowed := true }
def FnExactControlledGateUptoSaid : Prop := fnExactControlledGateUptoRow.holds Try.pinned (OpenSpec.upto fnExactControlledGateSpec)

/-- 'laws.FnExactControlledGates', WHERE WHAT IT READS IS OF BULK AT MOST 1048576: true; the input reads as it did. -/
def fnExactControlledGatesUptoRow : OpenClaim := { program := "ytjphclkpdgcciaa", sum := "584c1dbe157ee2d3ad10881e5c464c5d3fba62609543cbb16c676b89bbe39d02", func := "loop.example/g00506/laws.FnExactControlledGates", spec := "fnExactControlledGates", apart := false, narrowed := true }
def FnExactControlledGatesUptoSaid : Prop := fnExactControlledGatesUptoRow.holds Try.pinned (OpenSpec.upto fnExactControlledGatesSpec)

end Rows
end Go.Proofs.Ytjphclkpdgcciaa
