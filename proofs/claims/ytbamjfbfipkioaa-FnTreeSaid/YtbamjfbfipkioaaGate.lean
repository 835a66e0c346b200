/- Contracts of the small functions on single gates: copying, comparing equal gates, and the two constructors. -/
import Derived.Test.YtbamjfbfipkioaaIn
import Derived.Test.YtbamjfbfipkioaaKit
namespace Go.Proofs.Ytbamjfbfipkioaa
open Go.RowKit

end Go.Proofs.Ytbamjfbfipkioaa
