/- The size of a list of statements, as the laws count it. -/
import Derived.Test.YtbamjfbfipkioaaStrS
namespace Go.Proofs.Ytbamjfbfipkioaa
open Go.RowKit
set_option linter.unusedVariables false
/-- What a list of statements counts in a law's size. -/
def szT : (d : Nat) → List (Tr d) → Nat
  | 0, _ => 0
  | d + 1, l => l.length + (l.map fun (s : Tr (d + 1)) => (hdT s).word.size + ((hdT s).args.length + szS (hdT s).args + szT d (bdT s))).sum
/-- All strings and lists are of a size that a machine can count. -/
def OkT : (d : Nat) → List (Tr d) → Prop
  | 0, _ => True
  | d + 1, l => l.length ≤ 9223372036854775807 ∧ ∀ s ∈ l, (hdT s).word.size ≤ 9223372036854775807 ∧ (hdT s).args.length ≤ 9223372036854775807 ∧ (∀ a ∈ (hdT s).args, a.size ≤ 9223372036854775807) ∧ OkT d (bdT s)
def szE {d : Nat} (s : Tr (d + 1)) : Nat := (hdT s).word.size + ((hdT s).args.length + szS (hdT s).args + szT d (bdT s))
def sumE {d : Nat} (l : List (Tr (d + 1))) : Nat := (l.map szE).sum
theorem szT_succ {d : Nat} (l : List (Tr (d + 1))) : szT (d + 1) l = l.length + sumE l := rfl
theorem sumE_nil {d : Nat} : sumE ([] : List (Tr (d + 1))) = 0 := rfl
theorem sumE_take {d : Nat} (l : List (Tr (d + 1))) (t : Nat) (s : Tr (d + 1)) (h : l[t]? = some s) : sumE (l.take (t + 1)) = sumE (l.take t) + szE s := by
  rw [List.take_add_one, h]
  simp [sumE]
theorem sumE_take_le {d : Nat} (l : List (Tr (d + 1))) (t : Nat) : sumE (l.take t) ≤ sumE l := by
  have h : sumE l = sumE (l.take t) + sumE (l.drop t) := by
    unfold sumE
    rw [← List.sum_append, ← List.map_append, List.take_append_drop]
  omega
theorem szT_zero_len {w : World} {lo : Nat} {A : Option Addr} {n : Nat} {l : List (Tr 0)} (h : RdT w lo 0 A n l) : n = 0 := h.2
end Go.Proofs.Ytbamjfbfipkioaa
