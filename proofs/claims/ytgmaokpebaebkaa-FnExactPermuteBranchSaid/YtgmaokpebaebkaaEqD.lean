/- Comparing slices of amplitudes, lists of states and lists of branches: the program's functions and the reference's answer whether they are equal. -/
import Derived.Test.YtgmaokpebaebkaaBrs
import Derived.Test.YtgmaokpebaebkaaEqBy
import Derived.Test.YtgmaokpebaebkaaQuiet
namespace Go.Proofs.Ytgmaokpebaebkaa
open Go.RowKit
set_option linter.unusedVariables false
def eqD (a b : Dm) : Bool := a.a == b.a && (a.b == b.b && (a.c == b.c && (a.d == b.d && (a.e == b.e))))
theorem eqD_eq {a b : Dm} (h : eqD a b = true) : a = b := by
  simp [eqD] at h
  obtain ⟨a1, a2, a3, a4, a5⟩ := a
  obtain ⟨b1, b2, b3, b4, b5⟩ := b
  simp_all
theorem eqD_refl (a : Dm) : eqD a a = true := by simp [eqD]
theorem neq_D (w : World) (a b : Dm) : (binOp .neq 67 (.agg #[.int .i64 a.a, .int .i64 a.b, .int .i64 a.c, .int .i64 a.d, .int .i64 a.e]) (.agg #[.int .i64 b.a, .int .i64 b.b, .int .i64 b.c, .int .i64 b.d, .int .i64 b.e])).run Try.prog w = .ok (.bool (!eqD a b)) w := by
  simp [go_sem, eqD]
  repeat' split
  all_goals simp_all
def eqBr (x y : Br) : Bool := x.b == y.b && eqBy (eqBy eqD) x.M y.M
theorem eqBr_b {b b' : Int} {M M' : List (List Dm)} (h : b ≠ b') : eqBr ⟨b, M⟩ ⟨b', M'⟩ = false := by simp [eqBr, h]
theorem eqBr_M {b b' : Int} {M M' : List (List Dm)} (h : eqBy (eqBy eqD) M M' = false) : eqBr ⟨b, M⟩ ⟨b', M'⟩ = false := by simp [eqBr, h]
theorem eqBr_t {b : Int} {M M' : List (List Dm)} (h : eqBy (eqBy eqD) M M' = true) : eqBr ⟨b, M⟩ ⟨b, M'⟩ = true := by simp [eqBr, h]
end Go.Proofs.Ytgmaokpebaebkaa
