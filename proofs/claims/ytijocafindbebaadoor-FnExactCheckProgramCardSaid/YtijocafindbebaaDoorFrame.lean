/- Closed facts on the program's tables that every row's proof asks. -/
import Derived.Test.YtijocafindbebaaDoorRows
import Derived.Test.YtijocafindbebaaDoorKit
namespace Go.Proofs.YtijocafindbebaaDoor
theorem own : ownKnob Tryd.prog.godebug = none := by kernel_rfl
theorem laidOut : laidOutB Tryd.prog = true := by kernel_rfl
end Go.Proofs.YtijocafindbebaaDoor
