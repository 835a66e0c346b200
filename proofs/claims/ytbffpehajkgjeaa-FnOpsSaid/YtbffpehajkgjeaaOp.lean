/- Contracts of the small functions on single operations: copying and comparing equal operations. -/
import Derived.Test.YtbffpehajkgjeaaGate
namespace Go.Proofs.Ytbffpehajkgjeaa
open Go.RowKit
set_option maxRecDepth 100000 in
theorem toGate_exact (k a b c : Int) (w : World) : Calls Try.prog 105 #[.agg #[.int .i64 k, .int .i64 a, .int .i64 b, .int .i64 c]] w fun e w' =>
    e = .returned (.agg #[.int .i64 k, .int .i64 a, .int .i64 b, .int .i64 c]) ∧ ((w.alloc (.cells #[.int .i64 k, .int .i64 a, .int .i64 b, .int .i64 c] 92)).alloc (.cells #[.int .i64 k, .int .i64 a, .int .i64 b, .int .i64 c] 46)).alloc (.cells #[.int .i64 k, .int .i64 a, .int .i64 b, .int .i64 c] 46) = w' := by
  go_enter Try.func105, Try.ntmps105
  go_wp2
  exact bodyPost_ret (v := .agg #[.int .i64 k, .int .i64 a, .int .i64 b, .int .i64 c]) (by simp [results, Try.results105, go_sem]) rfl ⟨rfl, rfl⟩
set_option maxRecDepth 100000 in
set_option maxHeartbeats 1000000 in
theorem toOp_any (k gk ga gb gc q b c : Int) (w : World) : Calls Try.prog 70 #[.agg #[.int .i64 k, .int .i64 gk, .int .i64 ga, .int .i64 gb, .int .i64 gc, .int .i64 q, .int .i64 b, .int .i64 c]] w fun e w' =>
    e = .returned (.agg #[.int .i64 k, .int .i64 gk, .int .i64 ga, .int .i64 gb, .int .i64 gc, .int .i64 q, .int .i64 b, .int .i64 c]) ∧ Below w.heap.size w w' ∧ w.heap.size ≤ w'.heap.size := by
  go_enter Try.func70, Try.ntmps70
  go_wp2_with (go_at_call 105; refine (toGate_exact _ _ _ _ _).mono ?_; rintro e w' ⟨rfl, rfl⟩)
  exact bodyPost_ret (v := .agg #[.int .i64 k, .int .i64 gk, .int .i64 ga, .int .i64 gb, .int .i64 gc, .int .i64 q, .int .i64 b, .int .i64 c]) (by simp [results, Try.results70, go_sem]) rfl ⟨rfl, (by repeat (first | exact Below.refl _ _ | assumption | (refine Below.trans ?_ (Below.mono (by assumption) (by first | omega | (simp; done) | (simp; omega)))) | (with_reducible refine Below.drew ?_) | (with_reducible refine Below.alloc ?_ (by first | omega | (simp; done) | (simp; omega)) _) | (with_reducible refine Below.setCell ?_ (by first | omega | (simp; done) | (simp; omega)) _))), (by first | omega | (simp; done) | (simp; omega))⟩
set_option maxRecDepth 100000 in
set_option maxHeartbeats 1000000 in
theorem eqOp_same (k gk ga gb gc q b c : Int) (w : World) : Calls Try.prog 73 #[.agg #[.int .i64 k, .int .i64 gk, .int .i64 ga, .int .i64 gb, .int .i64 gc, .int .i64 q, .int .i64 b, .int .i64 c], .agg #[.int .i64 k, .int .i64 gk, .int .i64 ga, .int .i64 gb, .int .i64 gc, .int .i64 q, .int .i64 b, .int .i64 c]] w fun e w' =>
    e = .returned (.bool true) ∧ Below w.heap.size w w' ∧ w.heap.size ≤ w'.heap.size := by
  go_enter Try.func73, Try.ntmps73
  go_wp2
  go_ret
  exact ⟨rfl, (by repeat (first | exact Below.refl _ _ | assumption | (refine Below.trans ?_ (Below.mono (by assumption) (by first | omega | (simp; done) | (simp; omega)))) | (with_reducible refine Below.drew ?_) | (with_reducible refine Below.alloc ?_ (by first | omega | (simp; done) | (simp; omega)) _) | (with_reducible refine Below.setCell ?_ (by first | omega | (simp; done) | (simp; omega)) _))), (by first | omega | (simp; done) | (simp; omega))⟩
end Go.Proofs.Ytbffpehajkgjeaa
