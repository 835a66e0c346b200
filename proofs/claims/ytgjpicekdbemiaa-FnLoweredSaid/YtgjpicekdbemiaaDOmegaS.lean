/- Contracts of the loops over slices (DOmegaS) that the laws use: comparing equal slices, marking, reading the marks back, copying, and the size. -/
import Derived.Test.YtgjpicekdbemiaaDm
import Derived.Test.YtgjpicekdbemiaaOpen
namespace Go.Proofs.Ytgjpicekdbemiaa
open Go.RowKit

theorem dcells_len (x : Dm) : (dcells x).length = 5 := rfl
theorem info_DOmegaE : (Try.prog.info? 67).map (fun i => (i.zero, i.size, i.bytes)) = some (some (.agg #[.int .i64 0, .int .i64 0, .int .i64 0, .int .i64 0, .int .i64 0]), 5, 40) := by kernel_rfl
end Go.Proofs.Ytgjpicekdbemiaa
