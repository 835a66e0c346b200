/- Closed facts on the program's tables that every row's proof asks. -/
import Derived.Test.YtjphclkpdgcciaaRows
import Derived.Test.YtjphclkpdgcciaaKit
namespace Go.Proofs.Ytjphclkpdgcciaa
theorem own : ownKnob Try.prog.godebug = none := by kernel_rfl
theorem laidOut : laidOutB Try.prog = true := by kernel_rfl
end Go.Proofs.Ytjphclkpdgcciaa
