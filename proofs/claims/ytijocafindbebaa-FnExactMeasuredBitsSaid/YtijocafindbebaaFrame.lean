/- Closed facts on the program's tables that every row's proof asks. -/
import Derived.Test.YtijocafindbebaaRows
import Derived.Test.YtijocafindbebaaKit
namespace Go.Proofs.Ytijocafindbebaa
theorem own : ownKnob Try.prog.godebug = none := by kernel_rfl
theorem laidOut : laidOutB Try.prog = true := by kernel_rfl
end Go.Proofs.Ytijocafindbebaa
