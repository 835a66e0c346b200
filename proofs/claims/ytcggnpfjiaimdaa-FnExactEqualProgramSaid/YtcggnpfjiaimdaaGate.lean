/- Contracts of the small functions on single gates: copying, comparing equal gates, and the two constructors. -/
import Derived.Test.YtcggnpfjiaimdaaIn
import Derived.Test.YtcggnpfjiaimdaaKit
namespace Go.Proofs.Ytcggnpfjiaimdaa
open Go.RowKit

end Go.Proofs.Ytcggnpfjiaimdaa
