/- Amplitudes as plain data: copying one and comparing equal ones. -/
import Derived.Test.YtgjpicekdbemiaaKit
import Derived.Test.YtgjpicekdbemiaaProg
namespace Go.Proofs.Ytgjpicekdbemiaa
open Go.RowKit
/-- An amplitude as plain data. -/
structure Dm where
  a : Int
  b : Int
  c : Int
  d : Int
  e : Int
def dcells (x : Dm) : List Value := [.int .i64 x.a, .int .i64 x.b, .int .i64 x.c, .int .i64 x.d, .int .i64 x.e]
theorem dcells_one (x : Dm) : ((dcells x).all Value.oneCell') = true := rfl
end Go.Proofs.Ytgjpicekdbemiaa
