/- Whether a code is too long for the laws. -/
import Derived.Test.YtbamjfbfipkioaaProg
import Derived.Test.YtbamjfbfipkioaaKit
namespace Go.Proofs.Ytbamjfbfipkioaa
open Go.RowKit
set_option maxRecDepth 100000 in
theorem big_law (A : Option Addr) (n c : Nat) (w : World) (hn : n ≤ 9223372036854775807) : Calls Try.prog 4 #[.slice A n c] w fun e w' => e = .returned (.bool (decide (1048576 < n))) ∧ w = w' := by
  by_cases h : 1048576 < n
  · go_enter Try.func4, Try.ntmps4
    go_wp2_with fail
    go_ret
    exact ⟨by simp [h]; omega, rfl⟩
  · go_enter Try.func4, Try.ntmps4
    go_wp2_with fail
    go_ret
    exact ⟨by simp [h]; omega, rfl⟩
end Go.Proofs.Ytbamjfbfipkioaa
