/- A region that draws its order, by an invariant: guarded operations. -/
import Derived.Test.YtbamjfbfipkioaaInv
namespace Go.Proofs.Ytbamjfbfipkioaa
open Go.RowKit
set_option linter.unusedVariables false
section
variable {P : Program} {ops : Array Oper} {Q : Exit → Act → World → Prop} {md : Region.Mode}
/-- A guarded operation that is wanted. -/
theorem wpOp_yes {i : Nat} {o : Oper} {a : Act} {w : World} {K : Act → World → Prop} (ho : ops[i]? = some o) (hw : Region.wanted o (yielded ops a.tmps) = true) (h : ∀ K' : Act → World → Prop, (∀ a w, K a w → K' a w) → wpList P #[] (Exit.then K' Q) [{ o with guard := none }] a w) : wpOp P ops Q i K a w := by
  have h1 := h K (fun _ _ h => h)
  have h2 : Region.wanted { o with guard := none } (yielded #[] a.tmps) = true := rfl
  unfold wpOp
  simp only [ho, hw, if_true]
  unfold wpList at h1
  simp only [h2, if_true] at h1
  cases o
  rcases h1 with h1 | ⟨h1, h2⟩
  · exact .inl (upon_then h1)
  · exact .inr ⟨h1, h2⟩
/-- A guarded operation that is not wanted. -/
theorem wpOp_off {i : Nat} {o : Oper} {a : Act} {w : World} {K : Act → World → Prop} (d : Nat) (ho : ops[i]? = some o) (hd : o.dst = some d) (hw : Region.wanted o (yielded ops a.tmps) = false) (h : K ⟨a.tmps.setIfInBounds d undef, a.defers⟩ w) : wpOp P ops Q i K a w := by
  unfold wpOp
  simp only [ho, hw, hd]
  exact h
end
end Go.Proofs.Ytbamjfbfipkioaa
