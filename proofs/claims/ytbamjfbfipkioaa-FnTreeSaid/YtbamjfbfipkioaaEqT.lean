/- Comparing two slices of statements: the program's function and the reference's answer whether the trees are equal. -/
import Derived.Test.YtbamjfbfipkioaaEqStr
import Derived.Test.YtbamjfbfipkioaaTreeEq
namespace Go.Proofs.Ytbamjfbfipkioaa
open Go.RowKit
set_option linter.unusedVariables false
theorem below_undrew2 {w w' : World} (h : Below w.drew.heap.size w.drew w') : Below w.heap.size w w' := ⟨h.os, h.tape, h.output, h.size, h.block⟩
/-- Whether two lists of statements are equal. -/
def eqTs : (d : Nat) → List (Tr d) → List (Tr d) → Bool
  | 0, _, _ => true
  | d + 1, l, l' => eqBy (fun (s s' : Tr (d + 1)) => (hdT s).k == (hdT s').k && (eqSt (hdT s).word (hdT s').word && (eqBy eqSt (hdT s).args (hdT s').args && ((hdT s).count == (hdT s').count && eqTs d (bdT s) (bdT s'))))) l l'
def eqE {d : Nat} (s s' : Tr (d + 1)) : Bool := (hdT s).k == (hdT s').k && (eqSt (hdT s).word (hdT s').word && (eqBy eqSt (hdT s).args (hdT s').args && ((hdT s).count == (hdT s').count && eqTs d (bdT s) (bdT s'))))
theorem eqTs_succ {d : Nat} (l l' : List (Tr (d + 1))) : eqTs (d + 1) l l' = eqBy eqE l l' := rfl
section
variable {d : Nat} {s s' : Tr (d + 1)}
theorem eqE_k (h : ¬ (hdT s).k = (hdT s').k) : eqE s s' = false := by simp [eqE, h]
theorem eqE_w (h : eqSt (hdT s).word (hdT s').word = false) : eqE s s' = false := by simp [eqE, h]
theorem eqE_a (h : eqBy eqSt (hdT s).args (hdT s').args = false) : eqE s s' = false := by simp [eqE, h]
theorem eqE_c (h : ¬ (hdT s).count = (hdT s').count) : eqE s s' = false := by simp [eqE, h]
theorem eqE_b (h : eqTs d (bdT s) (bdT s') = false) : eqE s s' = false := by simp [eqE, h]
theorem eqE_t (h0 : (hdT s).k = (hdT s').k) (h1 : eqSt (hdT s).word (hdT s').word = true) (h2 : eqBy eqSt (hdT s).args (hdT s').args = true) (h3 : (hdT s).count = (hdT s').count) (h4 : eqTs d (bdT s) (bdT s') = true) : eqE s s' = true := by
  simp [eqE, h0, h1, h2, h3, h4]
end
end Go.Proofs.Ytbamjfbfipkioaa
