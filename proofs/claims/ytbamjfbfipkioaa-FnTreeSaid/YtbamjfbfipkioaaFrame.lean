/- Closed facts on the program's tables that every row's proof asks. -/
import Derived.Test.YtbamjfbfipkioaaRows
import Derived.Test.YtbamjfbfipkioaaKit
namespace Go.Proofs.Ytbamjfbfipkioaa
theorem own : ownKnob Try.prog.godebug = none := by kernel_rfl
theorem laidOut : laidOutB Try.prog = true := by kernel_rfl
end Go.Proofs.Ytbamjfbfipkioaa
