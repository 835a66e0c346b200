/- Closed facts on the program's tables that every row's proof asks. -/
import Derived.Test.YtgmaokpebaebkaaRows
import Derived.Test.YtgmaokpebaebkaaKit
namespace Go.Proofs.Ytgmaokpebaebkaa
theorem own : ownKnob Try.prog.godebug = none := by kernel_rfl
theorem laidOut : laidOutB Try.prog = true := by kernel_rfl
end Go.Proofs.Ytgmaokpebaebkaa
