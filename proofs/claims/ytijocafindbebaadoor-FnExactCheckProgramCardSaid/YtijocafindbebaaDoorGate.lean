/- Contracts of the small functions on single gates: copying, comparing equal gates, and the two constructors. -/
import Derived.Test.YtijocafindbebaaDoorIn
import Derived.Test.YtijocafindbebaaDoorKit
namespace Go.Proofs.YtijocafindbebaaDoor
open Go.RowKit

set_option maxRecDepth 100000 in
theorem toGate_any (k a b c : Int) (w : World) : Calls Tryd.prog 85 #[.agg #[.int .i64 k, .int .i64 a, .int .i64 b, .int .i64 c]] w fun e w' =>
    e = .returned (.agg #[.int .i64 k, .int .i64 a, .int .i64 b, .int .i64 c]) ∧ Below w.heap.size w w' ∧ w.heap.size ≤ w'.heap.size := by
  go_enter Tryd.func85, Tryd.ntmps85
  go_wp2
  exact bodyPost_ret (v := .agg #[.int .i64 k, .int .i64 a, .int .i64 b, .int .i64 c]) (by simp [results, Tryd.results85, go_sem]) rfl ⟨rfl, (by repeat (first | exact Below.refl _ _ | assumption | (refine Below.trans ?_ (Below.mono (by assumption) (by first | omega | (simp; done) | (simp; omega)))) | (with_reducible refine Below.drew ?_) | (with_reducible refine Below.alloc ?_ (by first | omega | (simp; done) | (simp; omega)) _) | (with_reducible refine Below.setCell ?_ (by first | omega | (simp; done) | (simp; omega)) _))), (by first | omega | (simp; done) | (simp; omega))⟩
end Go.Proofs.YtijocafindbebaaDoor
