/- Gates on amplitudes, plain: where each amplitude goes, and what the reference's application of a gate computes. -/
import Derived.Test.YtgjpicekdbemiaaZw
import Derived.Test.YtgjpicekdbemiaaValid
namespace Go.Proofs.Ytgjpicekdbemiaa
open Go.RowKit
set_option linter.unusedVariables false
def bt (i q : Nat) : Bool := (i / 2 ^ q) % 2 == 1
def fl (i q : Nat) : Nat := if bt i q = true then i - 2 ^ q else i + 2 ^ q
def zph : Nat → Zw
  | 0 => ⟨1, 0, 0, 0⟩
  | 1 => ⟨0, 1, 0, 0⟩
  | 2 => ⟨0, 0, 1, 0⟩
  | 3 => ⟨0, 0, 0, 1⟩
  | 4 => ⟨-1, 0, 0, 0⟩
  | 5 => ⟨0, -1, 0, 0⟩
  | 6 => ⟨0, 0, -1, 0⟩
  | _ => ⟨0, 0, 0, -1⟩
/-- Where an amplitude at i goes: places, each with a factor y / sqrt(2)^e. -/
structure Snt where
  j : Nat
  y : Zw
  e : Nat
def goes (g : Gt) (i : Nat) : List Snt :=
  if g.k = 1 then [⟨fl i g.a.toNat, zph 0, 0⟩]
  else if g.k = 2 then [⟨fl i g.a.toNat, zph (if bt i g.a.toNat = true then 6 else 2), 0⟩]
  else if g.k = 3 then [⟨i, zph (if bt i g.a.toNat = true then 4 else 0), 0⟩]
  else if g.k = 5 then [⟨i, zph (if bt i g.a.toNat = true then 2 else 0), 0⟩]
  else if g.k = 6 then [⟨i, zph (if bt i g.a.toNat = true then 6 else 0), 0⟩]
  else if g.k = 7 then [⟨i, zph (if bt i g.a.toNat = true then 1 else 0), 0⟩]
  else if g.k = 8 then [⟨i, zph (if bt i g.a.toNat = true then 7 else 0), 0⟩]
  else if g.k = 9 then [⟨if bt i g.a.toNat = true then fl i g.b.toNat else i, zph 0, 0⟩]
  else if g.k = 10 then [⟨i, zph (if (bt i g.a.toNat && bt i g.b.toNat) = true then 4 else 0), 0⟩]
  else if g.k = 12 then [⟨if (bt i g.a.toNat && bt i g.b.toNat) = true then fl i g.c.toNat else i, zph 0, 0⟩]
  else if g.k = 11 then [⟨if bt i g.a.toNat != bt i g.b.toNat then fl (fl i g.a.toNat) g.b.toNat else i, zph 0, 0⟩]
  else [⟨if bt i g.a.toNat = true then fl i g.a.toNat else i, zph 0, 1⟩, ⟨if bt i g.a.toNat = true then i else fl i g.a.toNat, zph (if bt i g.a.toNat = true then 4 else 0), 1⟩]
def sby (s : Snt) : Dm := dmk s.y s.e
/-- Adding to one place. -/
def put1 (x : Dm) (o : List Dm) (s : Snt) : Option (List Dm) := match mulD x (sby s) with
  | none => none
  | some p => match addD (o.getD s.j d0) p with
    | none => none
    | some y => some (o.set s.j y)
def puts (x : Dm) : List Dm → List Snt → Option (List Dm)
  | o, [] => some o
  | o, s :: r => match put1 x o s with
    | none => none
    | some o' => puts x o' r
def isZ (x : Dm) : Bool := x.a == 0 && (x.b == 0 && (x.c == 0 && (x.d == 0 && x.e == 0)))
theorem isZ_iff {x : Dm} : isZ x = true ↔ x = d0 := by
  obtain ⟨a, b, c, d, e⟩ := x
  simp only [isZ, Bool.and_eq_true, beq_iff_eq, d0, Dm.mk.injEq]
def apS (g : Gt) (v : List Dm) : Nat → Option (List Dm)
  | 0 => some (List.replicate v.length d0)
  | i + 1 => match apS g v i with
    | none => none
    | some o => if isZ (v.getD i d0) = true then some o else puts (v.getD i d0) o (goes g i)
/-- How many qubits a state has, by its length. -/
def qc (n : Nat) : Nat := if n = 2 then 1 else if n = 4 then 2 else if n = 8 then 3 else if n = 16 then 4 else 0
def stOk (v : List Dm) : Bool := v.all dOk && decide (0 < qc v.length)
def apG (g : Gt) (v : List Dm) : Option (List Dm) := if (stOk v && validG g (qc v.length)) = true then apS g v v.length else none
theorem put1_len {x : Dm} {o o' : List Dm} {s : Snt} (h : put1 x o s = some o') : o'.length = o.length := by
  unfold put1 at h
  cases h1 : mulD x (sby s) with
  | none => rw [h1] at h; cases h
  | some p =>
    rw [h1] at h
    cases h2 : addD (o.getD s.j d0) p with
    | none => simp only [h2] at h; cases h
    | some y =>
      simp only [h2] at h
      injection h with h
      subst h
      simp
theorem puts_len {x : Dm} : ∀ {L : List Snt} {o o' : List Dm}, puts x o L = some o' → o'.length = o.length
  | [], o, o', h => by
    rw [puts] at h
    injection h with h
    rw [h]
  | s :: r, o, o', h => by
    rw [puts] at h
    cases h1 : put1 x o s with
    | none => rw [h1] at h; cases h
    | some o1 =>
      rw [h1] at h
      exact (puts_len h).trans (put1_len h1)
theorem apS_len {g : Gt} {v : List Dm} : ∀ {i : Nat} {o : List Dm}, apS g v i = some o → o.length = v.length
  | 0, o, h => by
    rw [apS] at h
    injection h with h
    rw [← h]; simp
  | i + 1, o, h => by
    rw [apS] at h
    cases h1 : apS g v i with
    | none => rw [h1] at h; cases h
    | some o1 =>
      rw [h1] at h
      simp only at h
      split at h
      · injection h with h
        rw [← h]
        exact apS_len h1
      · exact (puts_len h).trans (apS_len h1)
theorem apG_len {g : Gt} {v o : List Dm} (h : apG g v = some o) : o.length = v.length := by
  unfold apG at h
  split at h
  · exact apS_len h
  · cases h
theorem apS_none {g : Gt} {v : List Dm} {i : Nat} (h : apS g v i = none) : ∀ k, apS g v (i + k) = none
  | 0 => h
  | k + 1 => by
    rw [← Nat.add_assoc, apS, apS_none h k]
theorem qc_iff {m : Nat} : 0 < qc m ↔ m = 2 ∨ m = 4 ∨ m = 8 ∨ m = 16 := by
  unfold qc
  repeat' split
  all_goals omega
def apGs : List Gt → List Dm → Option (List Dm)
  | [], v => some v
  | g :: r, v => match apG g v with
    | none => none
    | some u => apGs r u
theorem apGs_app : ∀ (l r : List Gt) (v : List Dm), apGs (l ++ r) v = match apGs l v with
    | none => none
    | some u => apGs r u
  | [], r, v => rfl
  | g :: l, r, v => by
    rw [List.cons_append, apGs, apGs]
    cases apG g v with
    | none => rfl
    | some u => exact apGs_app l r u
end Go.Proofs.Ytgjpicekdbemiaa
