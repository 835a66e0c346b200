/- The ring of amplitudes, plain: what the reference's arithmetic computes, with its checks. -/
import Derived.Test.YtgjpicekdbemiaaDm
import Derived.Test.YtgjpicekdbemiaaIn
namespace Go.Proofs.Ytgjpicekdbemiaa
open Go.RowKit
set_option linter.unusedVariables false
/-- A number of Z[omega] as plain data. -/
structure Zw where
  a : Int
  b : Int
  c : Int
  d : Int
theorem Zw.ext' {x y : Zw} (h1 : x.a = y.a) (h2 : x.b = y.b) (h3 : x.c = y.c) (h4 : x.d = y.d) : x = y := by
  obtain ⟨_, _, _, _⟩ := x
  obtain ⟨_, _, _, _⟩ := y
  simp only at h1 h2 h3 h4
  subst h1 h2 h3 h4
  rfl
def zval (x : Zw) : Value := .agg #[.int .i64 x.a, .int .i64 x.b, .int .i64 x.c, .int .i64 x.d]
def zz : Zw := ⟨0, 0, 0, 0⟩
def zIn (x : Int) : Bool := inB x (-1073741824) 1073741824
def zOk (x : Zw) : Bool := zIn x.a && (zIn x.b && (zIn x.c && zIn x.d))
theorem zOk_iff {x : Zw} : zOk x = true ↔ (-1073741824 ≤ x.a ∧ x.a ≤ 1073741824) ∧ (-1073741824 ≤ x.b ∧ x.b ≤ 1073741824) ∧ (-1073741824 ≤ x.c ∧ x.c ≤ 1073741824) ∧ (-1073741824 ≤ x.d ∧ x.d ≤ 1073741824) := by
  simp only [zOk, zIn, Bool.and_eq_true, inB_iff]
def zif (x : Zw) : Option Zw := if zOk x = true then some x else none
theorem zif_t {x : Zw} (h : zOk x = true) : zif x = some x := by rw [zif, if_pos h]
theorem zif_f {x : Zw} (h : zOk x = false) : zif x = none := by rw [zif, if_neg (by rw [h]; decide)]
/-- Two results, a number and whether there is one. -/
def zres (r : Option Zw) : Value := match r with
  | some x => .tuple #[.agg #[.int .i64 x.a, .int .i64 x.b, .int .i64 x.c, .int .i64 x.d], .bool true]
  | none => .tuple #[.agg #[.int .i64 0, .int .i64 0, .int .i64 0, .int .i64 0], .bool false]
def zsum (x y : Zw) : Zw := ⟨x.a + y.a, x.b + y.b, x.c + y.c, x.d + y.d⟩
def zprod (x y : Zw) : Zw := ⟨x.a * y.a - x.b * y.d - x.c * y.c - x.d * y.b, x.a * y.b + x.b * y.a - x.c * y.d - x.d * y.c, x.a * y.c + x.b * y.b + x.c * y.a - x.d * y.d, x.a * y.d + x.b * y.c + x.c * y.b + x.d * y.a⟩
def sq (x : Zw) : Zw := ⟨x.b - x.d, x.a + x.c, x.b + x.d, x.c - x.a⟩
def zadd (x y : Zw) : Option Zw := if (zOk x && zOk y) = true then zif (zsum x y) else none
def zmul (x y : Zw) : Option Zw := if (zOk x && zOk y) = true then zif (zprod x y) else none
def ev (x : Int) : Bool := x.tmod 2 == 0
def evs (x : Zw) : Bool := ev x.a && (ev x.b && (ev x.c && ev x.d))
def half (x : Zw) : Zw := ⟨x.a.tdiv 2, x.b.tdiv 2, x.c.tdiv 2, x.d.tdiv 2⟩
def zdiv (x : Zw) : Option Zw := if (zOk x && evs (sq x)) = true then some (half (sq x)) else none
def red : Nat → Zw → Zw × Nat
  | 0, n => (n, 0)
  | k + 1, n => match zdiv n with
    | none => (n, k + 1)
    | some m => red k m
def up : Nat → Zw → Option Zw
  | 0, n => some n
  | t + 1, n => match zmul n ⟨0, 1, 0, -1⟩ with
    | none => none
    | some m => up t m
/-- The number of an amplitude, and an amplitude of a number. -/
def Dm.n (x : Dm) : Zw := ⟨x.a, x.b, x.c, x.d⟩
def dmk (n : Zw) (e : Int) : Dm := ⟨n.a, n.b, n.c, n.d, e⟩
def dval (x : Dm) : Value := .agg #[.int .i64 x.a, .int .i64 x.b, .int .i64 x.c, .int .i64 x.d, .int .i64 x.e]
def d0 : Dm := ⟨0, 0, 0, 0, 0⟩
def dres (r : Option Dm) : Value := match r with
  | some x => .tuple #[.agg #[.int .i64 x.a, .int .i64 x.b, .int .i64 x.c, .int .i64 x.d, .int .i64 x.e], .bool true]
  | none => .tuple #[.agg #[.int .i64 0, .int .i64 0, .int .i64 0, .int .i64 0, .int .i64 0], .bool false]
def dOk (x : Dm) : Bool := zOk x.n && (inB x.e 0 60 && ((zdiv x.n).isNone || x.e == 0))
def newD (n : Zw) (k : Int) : Option Dm := if (zOk n && inB k 0 120) = true then (if (red k.toNat n).2 ≤ 60 then some (dmk (red k.toNat n).1 (red k.toNat n).2) else none) else none
def addD (x y : Dm) : Option Dm := if (dOk x && dOk y) = true then
    (match up (max x.e y.e - x.e).toNat x.n, up (max x.e y.e - y.e).toNat y.n with
      | some a, some b => match zadd a b with
        | some n => newD n (max x.e y.e)
        | none => none
      | _, _ => none) else none
def mulD (x y : Dm) : Option Dm := if (dOk x && dOk y) = true then
    (match zmul x.n y.n with
      | some n => newD n (x.e + y.e)
      | none => none) else none
def negD (x : Dm) : Dm := if dOk x = true then ⟨-x.a, -x.b, -x.c, -x.d, x.e⟩ else d0
theorem red_le : ∀ (k : Nat) (n : Zw), (red k n).2 ≤ k
  | 0, n => Nat.le_refl _
  | k + 1, n => by
    rw [red]
    cases zdiv n with
    | none => exact Nat.le_refl _
    | some m => exact Nat.le_succ_of_le (red_le k m)
end Go.Proofs.Ytgjpicekdbemiaa
