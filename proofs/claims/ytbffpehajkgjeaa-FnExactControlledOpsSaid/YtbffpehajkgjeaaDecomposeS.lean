/- The decomposition of a list of gates: the program's function and the reference's return the same list. -/
import Derived.Test.YtbffpehajkgjeaaDecompose
import Derived.Test.YtbffpehajkgjeaaGateS
import Derived.Test.YtbffpehajkgjeaaAppend
namespace Go.Proofs.Ytbffpehajkgjeaa
open Go.RowKit
theorem gcells_one (g : Gt) : ((gcells g).all Value.oneCell') = true := rfl
theorem dgate_le (g : Gt) : (dgate g).length ≤ 15 := by
  unfold dgate
  split
  · simp
  · split
    · simp
    · split <;> simp
theorem dgates_le : ∀ l : List Gt, (l.flatMap dgate).length ≤ l.length * 15 := by
  intro l
  induction l with
  | nil => simp
  | cons g l ih => simp only [List.flatMap_cons, List.length_append, List.length_cons]; have := dgate_le g; omega
theorem dtake (l : List Gt) (t : Nat) (g : Gt) (h : l[t]? = some g) : (l.take (t + 1)).flatMap dgate = (l.take t).flatMap dgate ++ dgate g := by
  rw [List.take_add_one, h, List.flatMap_append]
  simp
end Go.Proofs.Ytbffpehajkgjeaa
