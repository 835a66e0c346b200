/- The basis states: the program's function and the reference's return the same. -/
import Derived.Test.YtgmaokpebaebkaaMatS
import Derived.Test.YtgmaokpebaebkaaIn
namespace Go.Proofs.Ytgmaokpebaebkaa
open Go.RowKit
set_option linter.unusedVariables false
def bst (m i : Nat) : List Dm := (List.replicate m (⟨0, 0, 0, 0, 0⟩ : Dm)).set i ⟨1, 0, 0, 0, 0⟩
theorem bst_len (m i : Nat) : (bst m i).length = m := by simp [bst]
theorem flat_set5 : ∀ (L : List Dm) (i : Nat) (a b c d e : Int), (((((L.flatMap dcells).set (i * 5) (.int .i64 a)).set (i * 5 + 1) (.int .i64 b)).set (i * 5 + 1 + 1) (.int .i64 c)).set (i * 5 + 1 + 1 + 1) (.int .i64 d)).set (i * 5 + 1 + 1 + 1 + 1) (.int .i64 e) = (L.set i ⟨a, b, c, d, e⟩).flatMap dcells
  | [], i, a, b, c, d, e => by simp
  | x :: L, 0, a, b, c, d, e => by simp [dcells]
  | x :: L, i + 1, a, b, c, d, e => by
    have ih := flat_set5 L i a b c d e
    simp only [List.flatMap_cons, List.set_cons_succ, ← ih]
    rw [show (i + 1) * 5 = i * 5 + 1 + 1 + 1 + 1 + 1 from by omega]
    simp [dcells]
end Go.Proofs.Ytgmaokpebaebkaa
