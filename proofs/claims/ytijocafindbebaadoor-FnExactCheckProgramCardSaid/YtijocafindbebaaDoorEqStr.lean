/- Comparing two slices of strings: the program's function and the reference's answer whether the lists are equal. -/
import Derived.Test.YtijocafindbebaaDoorEqBy
import Derived.Test.YtijocafindbebaaDoorQuiet
import Derived.Test.YtijocafindbebaaDoorStrS
namespace Go.Proofs.YtijocafindbebaaDoor
open Go.RowKit
set_option linter.unusedVariables false
end Go.Proofs.YtijocafindbebaaDoor
