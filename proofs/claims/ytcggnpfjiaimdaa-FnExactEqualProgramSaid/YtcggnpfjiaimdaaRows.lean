/-
  NARROWER THAN 'FOR EVERY INPUT', by the rows' own cells (each row's printed sentence says how): FnExactEqualStmts: loops · FnExactExpandedGateCount: loops · FnExactNestingDepth: loops · FnExactStmtTokenCount: loops · FnExactEqualProgram: loops · FnExactMeasuredBits: loops.
  DERIVED. THE GIVEN ROWS OF THIS SEAT. 6 by the template 'for every input the law returns true; each argument reads behind the call as it read before'; 0 by the template 'total and deterministic' (their statements: YtcggnpfjiaimdaaTotals.lean).
  GIVEN WITH THE SEED: the statements are not yours to turn. If you find one false, say at which input.
  Laid BY PROGRAM, IN A SANDBOX (cutbox-rows.mjs): the forced cells as the released guide's own fill.sh prints them over the translation ca891f481119802d… (all of the seat's roots in one cut). By AI agents, Wed Nov 11 2026. No macro, syntax, notation, axiom, sorry.
-/
import Derived.Test.YtcggnpfjiaimdaaChecked
import GoSem.Claim
import GoSem.ClaimJoined
import GoSem.ClaimMapViews
import Derived.JoinedTies
import Derived.KernelRfl
namespace Go.Proofs.Ytcggnpfjiaimdaa
/- THE CELL 'sum', in the pinned program and in every row, IS THE sha256 OF THE DUMP (.gsa) THAT YtcggnpfjiaimdaaProg.lean LOADS. Nothing in Lean hashes anything: it is a label: what it is worth is what the hold of that sum in a sandbox is worth. -/
noncomputable def Try.pinned : Pinned := { name := "ytcggnpfjiaimdaa", sum := "ca891f481119802d74ab1880febf61ee8d9d7f3064487aca7b2592d70a5e3d0e", checked := Try.checked }
namespace Rows
def none {H : Type} : Left H := { results := [], args := [] }

/-- 'laws.FnExactEqualStmts': WHATEVER THE INPUT: true; the input reads as it did. -/
def fnExactEqualStmtsSpec : ChangeSpec := { name := "fnExactEqualStmts", fn := fun _ => fun
  | [d1, d2] => { results := [.lit (.bool true)], args := [d1, d2] }
  | _ => none }
def fnExactEqualStmtsRow : OpenClaim := { program := "ytcggnpfjiaimdaa", sum := "ca891f481119802d74ab1880febf61ee8d9d7f3064487aca7b2592d70a5e3d0e", func := "loop.example/g00506/laws.FnExactEqualStmts", spec := "fnExactEqualStmts", recurses := true, loops := true, apart := false }
def FnExactEqualStmtsSaid : Prop := fnExactEqualStmtsRow.holds Try.pinned (OpenSpec.ofChange fnExactEqualStmtsSpec)

/-- ITS FALSE NEIGHBOUR: 'it returns false'. Refute it at one input. -/
def fnExactEqualStmtsWrong : ChangeSpec := { name := "fnExactEqualStmts", fn := fun _ => fun
  | [d1, d2] => { results := [.lit (.bool false)], args := [d1, d2] }
  | _ => none }
def FnExactEqualStmtsWrongFalsely : Prop := fnExactEqualStmtsRow.holds Try.pinned (OpenSpec.ofChange fnExactEqualStmtsWrong)

/-- 'laws.FnExactExpandedGateCount': WHATEVER THE INPUT: true; the input reads as it did. -/
def fnExactExpandedGateCountSpec : ChangeSpec := { name := "fnExactExpandedGateCount", fn := fun _ => fun
  | [d] => { results := [.lit (.bool true)], args := [d] }
  | _ => none }
def fnExactExpandedGateCountRow : OpenClaim := { program := "ytcggnpfjiaimdaa", sum := "ca891f481119802d74ab1880febf61ee8d9d7f3064487aca7b2592d70a5e3d0e", func := "loop.example/g00506/laws.FnExactExpandedGateCount", spec := "fnExactExpandedGateCount", recurses := true, loops := true, apart := false }
def FnExactExpandedGateCountSaid : Prop := fnExactExpandedGateCountRow.holds Try.pinned (OpenSpec.ofChange fnExactExpandedGateCountSpec)

/-- ITS FALSE NEIGHBOUR: 'it returns false'. Refute it at one input. -/
def fnExactExpandedGateCountWrong : ChangeSpec := { name := "fnExactExpandedGateCount", fn := fun _ => fun
  | [d] => { results := [.lit (.bool false)], args := [d] }
  | _ => none }
def FnExactExpandedGateCountWrongFalsely : Prop := fnExactExpandedGateCountRow.holds Try.pinned (OpenSpec.ofChange fnExactExpandedGateCountWrong)

/-- 'laws.FnExactNestingDepth': WHATEVER THE INPUT: true; the input reads as it did. -/
def fnExactNestingDepthSpec : ChangeSpec := { name := "fnExactNestingDepth", fn := fun _ => fun
  | [d] => { results := [.lit (.bool true)], args := [d] }
  | _ => none }
def fnExactNestingDepthRow : OpenClaim := { program := "ytcggnpfjiaimdaa", sum := "ca891f481119802d74ab1880febf61ee8d9d7f3064487aca7b2592d70a5e3d0e", func := "loop.example/g00506/laws.FnExactNestingDepth", spec := "fnExactNestingDepth", recurses := true, loops := true, apart := false }
def FnExactNestingDepthSaid : Prop := fnExactNestingDepthRow.holds Try.pinned (OpenSpec.ofChange fnExactNestingDepthSpec)

/-- ITS FALSE NEIGHBOUR: 'it returns false'. Refute it at one input. -/
def fnExactNestingDepthWrong : ChangeSpec := { name := "fnExactNestingDepth", fn := fun _ => fun
  | [d] => { results := [.lit (.bool false)], args := [d] }
  | _ => none }
def FnExactNestingDepthWrongFalsely : Prop := fnExactNestingDepthRow.holds Try.pinned (OpenSpec.ofChange fnExactNestingDepthWrong)

/-- 'laws.FnExactStmtTokenCount': WHATEVER THE INPUT: true; the input reads as it did. -/
def fnExactStmtTokenCountSpec : ChangeSpec := { name := "fnExactStmtTokenCount", fn := fun _ => fun
  | [d] => { results := [.lit (.bool true)], args := [d] }
  | _ => none }
def fnExactStmtTokenCountRow : OpenClaim := { program := "ytcggnpfjiaimdaa", sum := "ca891f481119802d74ab1880febf61ee8d9d7f3064487aca7b2592d70a5e3d0e", func := "loop.example/g00506/laws.FnExactStmtTokenCount", spec := "fnExactStmtTokenCount", recurses := true, loops := true, apart := false }
def FnExactStmtTokenCountSaid : Prop := fnExactStmtTokenCountRow.holds Try.pinned (OpenSpec.ofChange fnExactStmtTokenCountSpec)

/-- ITS FALSE NEIGHBOUR: 'it returns false'. Refute it at one input. -/
def fnExactStmtTokenCountWrong : ChangeSpec := { name := "fnExactStmtTokenCount", fn := fun _ => fun
  | [d] => { results := [.lit (.bool false)], args := [d] }
  | _ => none }
def FnExactStmtTokenCountWrongFalsely : Prop := fnExactStmtTokenCountRow.holds Try.pinned (OpenSpec.ofChange fnExactStmtTokenCountWrong)

/-- 'laws.FnExactEqualProgram': WHATEVER THE INPUT: true; the input reads as it did. -/
def fnExactEqualProgramSpec : ChangeSpec := { name := "fnExactEqualProgram", fn := fun _ => fun
  | [d1, d2] => { results := [.lit (.bool true)], args := [d1, d2] }
  | _ => none }
def fnExactEqualProgramRow : OpenClaim := { program := "ytcggnpfjiaimdaa", sum := "ca891f481119802d74ab1880febf61ee8d9d7f3064487aca7b2592d70a5e3d0e", func := "loop.example/g00506/laws.FnExactEqualProgram", spec := "fnExactEqualProgram", recurses := true, loops := true, apart := false }
def FnExactEqualProgramSaid : Prop := fnExactEqualProgramRow.holds Try.pinned (OpenSpec.ofChange fnExactEqualProgramSpec)

/-- ITS FALSE NEIGHBOUR: 'it returns false'. Refute it at one input. -/
def fnExactEqualProgramWrong : ChangeSpec := { name := "fnExactEqualProgram", fn := fun _ => fun
  | [d1, d2] => { results := [.lit (.bool false)], args := [d1, d2] }
  | _ => none }
def FnExactEqualProgramWrongFalsely : Prop := fnExactEqualProgramRow.holds Try.pinned (OpenSpec.ofChange fnExactEqualProgramWrong)

/-- 'laws.FnExactMeasuredBits': WHATEVER THE INPUT: true; the input reads as it did. -/
def fnExactMeasuredBitsSpec : ChangeSpec := { name := "fnExactMeasuredBits", fn := fun _ => fun
  | [d] => { results := [.lit (.bool true)], args := [d] }
  | _ => none }
def fnExactMeasuredBitsRow : OpenClaim := { program := "ytcggnpfjiaimdaa", sum := "ca891f481119802d74ab1880febf61ee8d9d7f3064487aca7b2592d70a5e3d0e", func := "loop.example/g00506/laws.FnExactMeasuredBits", spec := "fnExactMeasuredBits", unfollowed := true, recurses := true, loops := true, apart := false }
def FnExactMeasuredBitsSaid : Prop := fnExactMeasuredBitsRow.holds Try.pinned (OpenSpec.ofChange fnExactMeasuredBitsSpec)

/-- ITS FALSE NEIGHBOUR: 'it returns false'. Refute it at one input. -/
def fnExactMeasuredBitsWrong : ChangeSpec := { name := "fnExactMeasuredBits", fn := fun _ => fun
  | [d] => { results := [.lit (.bool false)], args := [d] }
  | _ => none }
def FnExactMeasuredBitsWrongFalsely : Prop := fnExactMeasuredBitsRow.holds Try.pinned (OpenSpec.ofChange fnExactMeasuredBitsWrong)

/- THE SECOND FORM. 'bulk': how many values and letters a reading holds, each counted each time it is reached (what is shared counts as often as it is met; a slice's spare places count too). A statement '..UptoSaid' is the law's where the arguments, and the package variables that the reading takes, are together of bulk at most 1048576: NARROWER than '..Said'. Prove '..Said' where nothing that the law and all that it calls make is longer than what came in: it says more and counts as full. Else prove '..UptoSaid'. A law counts once. -/
mutual
def uptoBulk {H : Type} : DataW H → Nat
  | .lit (.string bytes) => bytes.length + 1
  | .lit _ => 1
  | .nil => 1
  | .ptr d => uptoBulk d + 1
  | .slice elems spare => uptoBulkAll elems + uptoBulkAll spare + 1
  | .agg parts => uptoBulkAll parts + 1
  | .iface _ d => uptoBulk d + 1
  | .map entries => uptoBulkEntries entries + 1
  | .held _ => 1
def uptoBulkAll {H : Type} : List (DataW H) → Nat
  | [] => 0
  | d :: r => uptoBulk d + uptoBulkAll r
def uptoBulkEntries {H : Type} : List (Lit × DataW H) → Nat
  | [] => 0
  | x :: r => uptoBulkEntry x + uptoBulkEntries r
def uptoBulkEntry {H : Type} : Lit × DataW H → Nat
  | (.string bytes, d) => bytes.length + uptoBulk d + 1
  | (_, d) => uptoBulk d + 1
 end
def uptoSmall : (H : Type) → List (DataW H) → Bool := fun _ ds => decide (uptoBulkAll ds ≤ 1048576)
def OpenSpec.upto (s : _root_.Go.ChangeSpec) : _root_.Go.OpenSpec := { _root_.Go.OpenSpec.ofChange s with cond := some uptoSmall }

/-- 'laws.FnExactEqualStmts', WHERE WHAT IT READS IS OF BULK AT MOST 1048576: true; the input reads as it did. -/
def fnExactEqualStmtsUptoRow : OpenClaim := { program := "ytcggnpfjiaimdaa", sum := "ca891f481119802d74ab1880febf61ee8d9d7f3064487aca7b2592d70a5e3d0e", func := "loop.example/g00506/laws.FnExactEqualStmts", spec := "fnExactEqualStmts", recurses := true, loops := true, apart := false, narrowed := true }
def FnExactEqualStmtsUptoSaid : Prop := fnExactEqualStmtsUptoRow.holds Try.pinned (OpenSpec.upto fnExactEqualStmtsSpec)

/-- 'laws.FnExactExpandedGateCount', WHERE WHAT IT READS IS OF BULK AT MOST 1048576: true; the input reads as it did. -/
def fnExactExpandedGateCountUptoRow : OpenClaim := { program := "ytcggnpfjiaimdaa", sum := "ca891f481119802d74ab1880febf61ee8d9d7f3064487aca7b2592d70a5e3d0e", func := "loop.example/g00506/laws.FnExactExpandedGateCount", spec := "fnExactExpandedGateCount", recurses := true, loops := true, apart := false, narrowed := true }
def FnExactExpandedGateCountUptoSaid : Prop := fnExactExpandedGateCountUptoRow.holds Try.pinned (OpenSpec.upto fnExactExpandedGateCountSpec)

/-- 'laws.FnExactNestingDepth', WHERE WHAT IT READS IS OF BULK AT MOST 1048576: true; the input reads as it did. -/
def fnExactNestingDepthUptoRow : OpenClaim := { program := "ytcggnpfjiaimdaa", sum := "ca891f481119802d74ab1880febf61ee8d9d7f3064487aca7b2592d70a5e3d0e", func := "loop.example/g00506/laws.FnExactNestingDepth", spec := "fnExactNestingDepth", recurses := true, loops := true, apart := false, narrowed := true }
def FnExactNestingDepthUptoSaid : Prop := fnExactNestingDepthUptoRow.holds Try.pinned (OpenSpec.upto fnExactNestingDepthSpec)

/-- 'laws.FnExactStmtTokenCount', WHERE WHAT IT READS IS OF BULK AT MOST 1048576: true; the input reads as it did. -/
def fnExactStmtTokenCountUptoRow : OpenClaim := { program := "ytcggnpfjiaimdaa", sum := "ca891f481119802d74ab1880febf61ee8d9d7f3064487aca7b2592d70a5e3d0e", func := "loop.example/g00506/laws.FnExactStmtTokenCount", spec := "fnExactStmtTokenCount", recurses := true, loops := true, apart := false, narrowed := true }
def FnExactStmtTokenCountUptoSaid : Prop := fnExactStmtTokenCountUptoRow.holds Try.pinned (OpenSpec.upto fnExactStmtTokenCountSpec)

/-- 'laws.FnExactEqualProgram', WHERE WHAT IT READS IS OF BULK AT MOST 1048576: true; the input reads as it did. -/
def fnExactEqualProgramUptoRow : OpenClaim := { program := "ytcggnpfjiaimdaa", sum := "ca891f481119802d74ab1880febf61ee8d9d7f3064487aca7b2592d70a5e3d0e", func := "loop.example/g00506/laws.FnExactEqualProgram", spec := "fnExactEqualProgram", recurses := true, loops := true, apart := false, narrowed := true }
def FnExactEqualProgramUptoSaid : Prop := fnExactEqualProgramUptoRow.holds Try.pinned (OpenSpec.upto fnExactEqualProgramSpec)

/-- 'laws.FnExactMeasuredBits', WHERE WHAT IT READS IS OF BULK AT MOST 1048576: true; the input reads as it did. -/
def fnExactMeasuredBitsUptoRow : OpenClaim := { program := "ytcggnpfjiaimdaa", sum := "ca891f481119802d74ab1880febf61ee8d9d7f3064487aca7b2592d70a5e3d0e", func := "loop.example/g00506/laws.FnExactMeasuredBits", spec := "fnExactMeasuredBits", unfollowed := true, recurses := true, loops := true, apart := false, narrowed := true }
def FnExactMeasuredBitsUptoSaid : Prop := fnExactMeasuredBitsUptoRow.holds Try.pinned (OpenSpec.upto fnExactMeasuredBitsSpec)

end Rows
end Go.Proofs.Ytcggnpfjiaimdaa
