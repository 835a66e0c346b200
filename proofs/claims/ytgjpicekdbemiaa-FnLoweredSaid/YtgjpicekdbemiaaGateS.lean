/- Contracts of the loops over slices (GateS) that the laws use: comparing equal slices, marking, reading the marks back, copying, and the size. -/
import Derived.Test.YtgjpicekdbemiaaGate
import Derived.Test.YtgjpicekdbemiaaOpen
namespace Go.Proofs.Ytgjpicekdbemiaa
open Go.RowKit

theorem gcells_len (x : Gt) : (gcells x).length = 4 := rfl
theorem info_GateE : (Try.prog.info? 30).map (fun i => (i.zero, i.size, i.bytes)) = some (some (.agg #[.int .i64 0, .int .i64 0, .int .i64 0, .int .i64 0]), 4, 32) := by kernel_rfl
end Go.Proofs.Ytgjpicekdbemiaa
