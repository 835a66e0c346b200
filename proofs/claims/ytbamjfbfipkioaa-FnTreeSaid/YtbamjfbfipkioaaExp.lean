/- How many gates a list of statements expands to: the program's function and the reference's compute the same. -/
import Derived.Test.YtbamjfbfipkioaaNest
namespace Go.Proofs.Ytbamjfbfipkioaa
open Go.RowKit
set_option linter.unusedVariables false
def imin (a b : Int) : Int := if a < b then a else b
set_option maxRecDepth 100000 in
theorem l1Min_any (a b : Int) (w : World) : Calls Try.prog 32 #[.int .i64 a, .int .i64 b] w fun e w' => e = .returned (.int .i64 (imin a b)) ∧ w = w' := by
  by_cases h : a < b
  · rw [show imin a b = a from if_pos h]
    go_enter Try.func32, Try.ntmps32
    go_wp2
    go_ret
    exact ⟨rfl, rfl⟩
  · rw [show imin a b = b from if_neg h]
    go_enter Try.func32, Try.ntmps32
    go_wp2
    go_ret
    exact ⟨rfl, rfl⟩
theorem imin_min {n : Nat} {x : Int} (h : x = n) : imin 1000000 x = ((min 1000000 n : Nat) : Int) := by
  subst h
  unfold imin
  split <;> omega
theorem below_undrew {w w' : World} (h : Below w.drew.heap.size w.drew w') : Below w.heap.size w w' := ⟨h.os, h.tape, h.output, h.size, h.block⟩
/-- What one statement adds, its body counting M. -/
def expE (k count : Int) (M : Nat) : Nat := if k = 1 then 1 else if k = 6 then 0 else if k = 2 then M * (min (max count 0) 1000000).toNat else if k = 4 then 7 * M else M
theorem expE_1 {k c : Int} {M : Nat} (h : k = 1) : expE k c M = 1 := by subst h; rfl
theorem expE_6 {k c : Int} {M : Nat} (h : k = 6) : expE k c M = 0 := by subst h; rfl
theorem expE_4 {k c : Int} {M : Nat} (h : k = 4) : expE k c M = 7 * M := by subst h; rfl
theorem expE_2n {k c : Int} {M : Nat} (h : k = 2) (hc : c < 0) : expE k c M = 0 := by
  subst h
  have : (min (max c 0) 1000000).toNat = 0 := by omega
  simp [expE, this]
theorem expE_2m {k c : Int} {M C : Nat} (h : k = 2) (hc : c = C) (hC : C ≤ 1000000) : expE k c M = M * C := by
  subst h
  have : (min (max c 0) 1000000).toNat = C := by omega
  simp [expE, this]
theorem expE_2b {k c : Int} {M : Nat} (h : k = 2) (hc : 1000000 < c) : expE k c M = M * 1000000 := by
  subst h
  have : (min (max c 0) 1000000).toNat = 1000000 := by omega
  simp [expE, this]
theorem expE_x {k c : Int} {M : Nat} (h1 : k ≠ 1) (h6 : k ≠ 6) (h2 : k ≠ 2) (h4 : k ≠ 4) : expE k c M = M := by simp [expE, h1, h6, h2, h4]
theorem mul_small {M C : Nat} (h : M ≤ 1000000) (h' : C ≤ 1000000) : (M : Int) * (C : Int) ≤ 1000000000000 := by
  have h1 : M * C ≤ 1000000 * C := Nat.mul_le_mul_right C h
  rw [← Int.natCast_mul]
  omega
theorem mul_zero_le (M C : Nat) : 0 ≤ (M : Int) * (C : Int) := by
  rw [← Int.natCast_mul]
  omega
def expT : (d : Nat) → List (Tr d) → Nat
  | 0, _ => 0
  | d + 1, l => l.foldl (fun (n : Nat) (s : Tr (d + 1)) => min 1000000 (n + expE (hdT s).k (hdT s).count (expT d (bdT s)))) 0
theorem exp_take {d : Nat} (l : List (Tr (d + 1))) (t : Nat) (s : Tr (d + 1)) (h : l[t]? = some s) : expT (d + 1) (l.take (t + 1)) = min 1000000 (expT (d + 1) (l.take t) + expE (hdT s).k (hdT s).count (expT d (bdT s))) := by
  rw [List.take_add_one, h]
  simp [expT, List.foldl_append]
theorem expT_le : ∀ (d : Nat) (l : List (Tr d)), expT d l ≤ 1000000 := by
  intro d l
  cases d with
  | zero => exact Nat.zero_le _
  | succ d =>
    rcases List.eq_nil_or_concat l with rfl | ⟨l', s, rfl⟩
    · exact Nat.zero_le _
    · simp only [expT, List.concat_eq_append, List.foldl_append, List.foldl_cons, List.foldl_nil]
      exact Nat.min_le_left _ _
end Go.Proofs.Ytbamjfbfipkioaa
