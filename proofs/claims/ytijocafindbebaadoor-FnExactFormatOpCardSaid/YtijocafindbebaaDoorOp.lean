/- Contracts of the small functions on single operations: copying and comparing equal operations. -/
import Derived.Test.YtijocafindbebaaDoorGate
namespace Go.Proofs.YtijocafindbebaaDoor
open Go.RowKit
set_option maxRecDepth 100000 in
theorem toGate_exact (k a b c : Int) (w : World) : Calls Tryd.prog 85 #[.agg #[.int .i64 k, .int .i64 a, .int .i64 b, .int .i64 c]] w fun e w' =>
    e = .returned (.agg #[.int .i64 k, .int .i64 a, .int .i64 b, .int .i64 c]) ∧ ((w.alloc (.cells #[.int .i64 k, .int .i64 a, .int .i64 b, .int .i64 c] 60)).alloc (.cells #[.int .i64 k, .int .i64 a, .int .i64 b, .int .i64 c] 64)).alloc (.cells #[.int .i64 k, .int .i64 a, .int .i64 b, .int .i64 c] 64) = w' := by
  go_enter Tryd.func85, Tryd.ntmps85
  go_wp2
  exact bodyPost_ret (v := .agg #[.int .i64 k, .int .i64 a, .int .i64 b, .int .i64 c]) (by simp [results, Tryd.results85, go_sem]) rfl ⟨rfl, rfl⟩
set_option maxRecDepth 100000 in
set_option maxHeartbeats 1000000 in
theorem toOp_any (k gk ga gb gc q b c : Int) (w : World) : Calls Tryd.prog 43 #[.agg #[.int .i64 k, .int .i64 gk, .int .i64 ga, .int .i64 gb, .int .i64 gc, .int .i64 q, .int .i64 b, .int .i64 c]] w fun e w' =>
    e = .returned (.agg #[.int .i64 k, .int .i64 gk, .int .i64 ga, .int .i64 gb, .int .i64 gc, .int .i64 q, .int .i64 b, .int .i64 c]) ∧ Below w.heap.size w w' ∧ w.heap.size ≤ w'.heap.size := by
  go_enter Tryd.func43, Tryd.ntmps43
  go_wp2_with (go_at_call 85; refine (toGate_exact _ _ _ _ _).mono ?_; rintro e w' ⟨rfl, rfl⟩)
  exact bodyPost_ret (v := .agg #[.int .i64 k, .int .i64 gk, .int .i64 ga, .int .i64 gb, .int .i64 gc, .int .i64 q, .int .i64 b, .int .i64 c]) (by simp [results, Tryd.results43, go_sem]) rfl ⟨rfl, (by repeat (first | exact Below.refl _ _ | assumption | (refine Below.trans ?_ (Below.mono (by assumption) (by first | omega | (simp; done) | (simp; omega)))) | (with_reducible refine Below.drew ?_) | (with_reducible refine Below.alloc ?_ (by first | omega | (simp; done) | (simp; omega)) _) | (with_reducible refine Below.setCell ?_ (by first | omega | (simp; done) | (simp; omega)) _))), (by first | omega | (simp; done) | (simp; omega))⟩
end Go.Proofs.YtijocafindbebaaDoor
