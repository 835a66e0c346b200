/- Single branches: comparing equal ones, marking, reading the marks back. -/
import Derived.Test.YtgjpicekdbemiaaInit
namespace Go.Proofs.Ytgjpicekdbemiaa
open Go.RowKit
set_option linter.unusedVariables false
end Go.Proofs.Ytgjpicekdbemiaa
