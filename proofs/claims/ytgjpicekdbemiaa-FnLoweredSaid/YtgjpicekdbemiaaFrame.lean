/- Closed facts on the program's tables that every row's proof asks. -/
import Derived.Test.YtgjpicekdbemiaaRows
import Derived.Test.YtgjpicekdbemiaaKit
namespace Go.Proofs.Ytgjpicekdbemiaa
theorem own : ownKnob Try.prog.godebug = none := by kernel_rfl
theorem laidOut : laidOutB Try.prog = true := by kernel_rfl
end Go.Proofs.Ytgjpicekdbemiaa
