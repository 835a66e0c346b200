/- Contracts of the small functions on single gates: copying, comparing equal gates, and the two constructors. -/
import Derived.Test.YtgmaokpebaebkaaIn
import Derived.Test.YtgmaokpebaebkaaKit
namespace Go.Proofs.Ytgmaokpebaebkaa
open Go.RowKit

end Go.Proofs.Ytgmaokpebaebkaa
