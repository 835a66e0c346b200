/- When an operation is valid: the program's function and the reference's compute the same. -/
import Derived.Test.YtijocafindbebaaDoorValid
namespace Go.Proofs.YtijocafindbebaaDoor
open Go.RowKit

/-- An operation as plain data. -/
structure Opt where
  k : Int
  g : Gt
  q : Int
  bit : Int
  cond : Int
def ocells (o : Opt) : List Value := [.int .i64 o.k, .int .i64 o.g.k, .int .i64 o.g.a, .int .i64 o.g.b, .int .i64 o.g.c, .int .i64 o.q, .int .i64 o.bit, .int .i64 o.cond]
def zeroG (g : Gt) : Bool := g.k == 0 && (g.a == 0 && (g.b == 0 && g.c == 0))
def validOp (o : Opt) (n bits : Int) : Bool :=
  inB n 1 4 && (inB bits 0 3 &&
    (if o.k = 1 then o.q == 0 && (o.bit == 0 && (validG o.g n && inB o.cond 0 bits))
     else if o.k = 2 then zeroG o.g && (o.cond == 0 && (inB o.q 0 (n - 1) && inB o.bit 0 (bits - 1)))
     else if o.k = 3 then zeroG o.g && (o.bit == 0 && (o.cond == 0 && inB o.q 0 (n - 1)))
     else false))
set_option maxRecDepth 100000 in
set_option maxHeartbeats 4000000 in
theorem IsValidOp_impl (k gk ga gb gc q bit cond n bits : Int) (w : World) : Calls Tryd.prog 86 #[.agg #[.int .i64 k, .int .i64 gk, .int .i64 ga, .int .i64 gb, .int .i64 gc, .int .i64 q, .int .i64 bit, .int .i64 cond], .int .i64 n, .int .i64 bits] w fun e w' =>
    e = .returned (.bool (validOp ⟨k, ⟨gk, ga, gb, gc⟩, q, bit, cond⟩ n bits)) ∧ Below w.heap.size w w' ∧ w.heap.size ≤ w'.heap.size := by
  cases hn : inB n 1 4
  · rw [show validOp ⟨k, ⟨gk, ga, gb, gc⟩, q, bit, cond⟩ n bits = false by simp [validOp, hn]]
    go_enter Tryd.func86, Tryd.ntmps86
    go_wp2_with (first | (go_at_call 56; refine (in_any _ _ _ _).mono ?_; rintro e w' ⟨rfl, rfl⟩) | (go_at_call 106; refine (IsValidGate_impl _ _ _ _ _ _).mono ?_; rintro e w' ⟨rfl, hb, hs⟩; simp at hs; obtain ⟨p0, p1, p2, p3, p4, p5, p6, p7⟩ := boxcells8 (lay := hb) (boxed1_0 _ _)))
    go_ret
    exact ⟨rfl, (by repeat (first | exact Below.refl _ _ | assumption | (refine Below.trans ?_ (Below.mono (by assumption) (by first | omega | (simp; done) | (simp; omega)))) | (with_reducible refine Below.drew ?_) | (with_reducible refine Below.alloc ?_ (by first | omega | (simp; done) | (simp; omega)) _) | (with_reducible refine Below.setCell ?_ (by first | omega | (simp; done) | (simp; omega)) _))), (by first | omega | (simp; done) | (simp; omega))⟩
  have hnn := inB_iff.1 hn
  cases hbt : inB bits 0 3
  · rw [show validOp ⟨k, ⟨gk, ga, gb, gc⟩, q, bit, cond⟩ n bits = false by simp [validOp, hn, hbt]]
    go_enter Tryd.func86, Tryd.ntmps86
    go_wp2_with (first | (go_at_call 56; refine (in_any _ _ _ _).mono ?_; rintro e w' ⟨rfl, rfl⟩) | (go_at_call 106; refine (IsValidGate_impl _ _ _ _ _ _).mono ?_; rintro e w' ⟨rfl, hb, hs⟩; simp at hs; obtain ⟨p0, p1, p2, p3, p4, p5, p6, p7⟩ := boxcells8 (lay := hb) (boxed1_0 _ _)))
    go_ret
    exact ⟨rfl, (by repeat (first | exact Below.refl _ _ | assumption | (refine Below.trans ?_ (Below.mono (by assumption) (by first | omega | (simp; done) | (simp; omega)))) | (with_reducible refine Below.drew ?_) | (with_reducible refine Below.alloc ?_ (by first | omega | (simp; done) | (simp; omega)) _) | (with_reducible refine Below.setCell ?_ (by first | omega | (simp; done) | (simp; omega)) _))), (by first | omega | (simp; done) | (simp; omega))⟩
  have hbb := inB_iff.1 hbt
  by_cases h1 : k = 1
  · subst h1
    by_cases hq : q = 0
    · subst hq
      by_cases hb : bit = 0
      · subst hb
        cases hv : validG ⟨gk, ga, gb, gc⟩ n
        · rw [show validOp ⟨1, ⟨gk, ga, gb, gc⟩, 0, 0, cond⟩ n bits = false by simp [validOp, hv]]
          go_enter Tryd.func86, Tryd.ntmps86
          go_wp2_with (first | (go_at_call 56; refine (in_any _ _ _ _).mono ?_; rintro e w' ⟨rfl, rfl⟩) | (go_at_call 106; refine (IsValidGate_impl _ _ _ _ _ _).mono ?_; rintro e w' ⟨rfl, hb, hs⟩; simp at hs; obtain ⟨p0, p1, p2, p3, p4, p5, p6, p7⟩ := boxcells8 (lay := hb) (boxed1_0 _ _)))
          go_ret
          exact ⟨rfl, (by repeat (first | exact Below.refl _ _ | assumption | (refine Below.trans ?_ (Below.mono (by assumption) (by first | omega | (simp; done) | (simp; omega)))) | (with_reducible refine Below.drew ?_) | (with_reducible refine Below.alloc ?_ (by first | omega | (simp; done) | (simp; omega)) _) | (with_reducible refine Below.setCell ?_ (by first | omega | (simp; done) | (simp; omega)) _))), (by first | omega | (simp; done) | (simp; omega))⟩
        · cases hc : inB cond 0 bits
          · rw [show validOp ⟨1, ⟨gk, ga, gb, gc⟩, 0, 0, cond⟩ n bits = false by simp [validOp, hc]]
            go_enter Tryd.func86, Tryd.ntmps86
            go_wp2_with (first | (go_at_call 56; refine (in_any _ _ _ _).mono ?_; rintro e w' ⟨rfl, rfl⟩) | (go_at_call 106; refine (IsValidGate_impl _ _ _ _ _ _).mono ?_; rintro e w' ⟨rfl, hb, hs⟩; simp at hs; obtain ⟨p0, p1, p2, p3, p4, p5, p6, p7⟩ := boxcells8 (lay := hb) (boxed1_0 _ _)))
            go_ret
            exact ⟨rfl, (by repeat (first | exact Below.refl _ _ | assumption | (refine Below.trans ?_ (Below.mono (by assumption) (by first | omega | (simp; done) | (simp; omega)))) | (with_reducible refine Below.drew ?_) | (with_reducible refine Below.alloc ?_ (by first | omega | (simp; done) | (simp; omega)) _) | (with_reducible refine Below.setCell ?_ (by first | omega | (simp; done) | (simp; omega)) _))), (by first | omega | (simp; done) | (simp; omega))⟩
          · rw [show validOp ⟨1, ⟨gk, ga, gb, gc⟩, 0, 0, cond⟩ n bits = true by simp [validOp, hn, hbt, hv, hc]]
            go_enter Tryd.func86, Tryd.ntmps86
            go_wp2_with (first | (go_at_call 56; refine (in_any _ _ _ _).mono ?_; rintro e w' ⟨rfl, rfl⟩) | (go_at_call 106; refine (IsValidGate_impl _ _ _ _ _ _).mono ?_; rintro e w' ⟨rfl, hb, hs⟩; simp at hs; obtain ⟨p0, p1, p2, p3, p4, p5, p6, p7⟩ := boxcells8 (lay := hb) (boxed1_0 _ _)))
            go_ret
            exact ⟨rfl, (by repeat (first | exact Below.refl _ _ | assumption | (refine Below.trans ?_ (Below.mono (by assumption) (by first | omega | (simp; done) | (simp; omega)))) | (with_reducible refine Below.drew ?_) | (with_reducible refine Below.alloc ?_ (by first | omega | (simp; done) | (simp; omega)) _) | (with_reducible refine Below.setCell ?_ (by first | omega | (simp; done) | (simp; omega)) _))), (by first | omega | (simp; done) | (simp; omega))⟩
      · rw [show validOp ⟨1, ⟨gk, ga, gb, gc⟩, 0, bit, cond⟩ n bits = false by simp [validOp, hb]]
        go_enter Tryd.func86, Tryd.ntmps86
        go_wp2_with (first | (go_at_call 56; refine (in_any _ _ _ _).mono ?_; rintro e w' ⟨rfl, rfl⟩) | (go_at_call 106; refine (IsValidGate_impl _ _ _ _ _ _).mono ?_; rintro e w' ⟨rfl, hb, hs⟩; simp at hs; obtain ⟨p0, p1, p2, p3, p4, p5, p6, p7⟩ := boxcells8 (lay := hb) (boxed1_0 _ _)))
        go_ret
        exact ⟨rfl, (by repeat (first | exact Below.refl _ _ | assumption | (refine Below.trans ?_ (Below.mono (by assumption) (by first | omega | (simp; done) | (simp; omega)))) | (with_reducible refine Below.drew ?_) | (with_reducible refine Below.alloc ?_ (by first | omega | (simp; done) | (simp; omega)) _) | (with_reducible refine Below.setCell ?_ (by first | omega | (simp; done) | (simp; omega)) _))), (by first | omega | (simp; done) | (simp; omega))⟩
    · rw [show validOp ⟨1, ⟨gk, ga, gb, gc⟩, q, bit, cond⟩ n bits = false by simp [validOp, hq]]
      go_enter Tryd.func86, Tryd.ntmps86
      go_wp2_with (first | (go_at_call 56; refine (in_any _ _ _ _).mono ?_; rintro e w' ⟨rfl, rfl⟩) | (go_at_call 106; refine (IsValidGate_impl _ _ _ _ _ _).mono ?_; rintro e w' ⟨rfl, hb, hs⟩; simp at hs; obtain ⟨p0, p1, p2, p3, p4, p5, p6, p7⟩ := boxcells8 (lay := hb) (boxed1_0 _ _)))
      go_ret
      exact ⟨rfl, (by repeat (first | exact Below.refl _ _ | assumption | (refine Below.trans ?_ (Below.mono (by assumption) (by first | omega | (simp; done) | (simp; omega)))) | (with_reducible refine Below.drew ?_) | (with_reducible refine Below.alloc ?_ (by first | omega | (simp; done) | (simp; omega)) _) | (with_reducible refine Below.setCell ?_ (by first | omega | (simp; done) | (simp; omega)) _))), (by first | omega | (simp; done) | (simp; omega))⟩
  have h1' : (k == 1) = false := beq_eq_false_iff_ne.2 h1
  by_cases h2 : k = 2
  · subst h2
    have hz : ((((gk ≠ 0 ∨ gk = 0 ∧ ga ≠ 0) ∨ gk = 0 ∧ ga = 0 ∧ gb ≠ 0) ∨ gk = 0 ∧ ga = 0 ∧ gb = 0 ∧ gc ≠ 0) ∨ gk = 0 ∧ ga = 0 ∧ gb = 0 ∧ gc = 0 ∧ cond ≠ 0) ∨ gk = 0 ∧ ga = 0 ∧ gb = 0 ∧ gc = 0 ∧ cond = 0 := by omega
    rcases hz with ((((h | ⟨rfl, h⟩) | ⟨rfl, rfl, h⟩) | ⟨rfl, rfl, rfl, h⟩) | ⟨rfl, rfl, rfl, rfl, h⟩) | ⟨rfl, rfl, rfl, rfl, rfl⟩
    · rw [show validOp ⟨2, ⟨gk, ga, gb, gc⟩, q, bit, cond⟩ n bits = false by simp [validOp, zeroG, h]]
      go_enter Tryd.func86, Tryd.ntmps86
      go_wp2_with (first | (go_at_call 56; refine (in_any _ _ _ _).mono ?_; rintro e w' ⟨rfl, rfl⟩) | (go_at_call 106; refine (IsValidGate_impl _ _ _ _ _ _).mono ?_; rintro e w' ⟨rfl, hb, hs⟩; simp at hs; obtain ⟨p0, p1, p2, p3, p4, p5, p6, p7⟩ := boxcells8 (lay := hb) (boxed1_0 _ _)))
      go_ret
      exact ⟨rfl, (by repeat (first | exact Below.refl _ _ | assumption | (refine Below.trans ?_ (Below.mono (by assumption) (by first | omega | (simp; done) | (simp; omega)))) | (with_reducible refine Below.drew ?_) | (with_reducible refine Below.alloc ?_ (by first | omega | (simp; done) | (simp; omega)) _) | (with_reducible refine Below.setCell ?_ (by first | omega | (simp; done) | (simp; omega)) _))), (by first | omega | (simp; done) | (simp; omega))⟩
    · rw [show validOp ⟨2, ⟨0, ga, gb, gc⟩, q, bit, cond⟩ n bits = false by simp [validOp, zeroG, h]]
      go_enter Tryd.func86, Tryd.ntmps86
      go_wp2_with (first | (go_at_call 56; refine (in_any _ _ _ _).mono ?_; rintro e w' ⟨rfl, rfl⟩) | (go_at_call 106; refine (IsValidGate_impl _ _ _ _ _ _).mono ?_; rintro e w' ⟨rfl, hb, hs⟩; simp at hs; obtain ⟨p0, p1, p2, p3, p4, p5, p6, p7⟩ := boxcells8 (lay := hb) (boxed1_0 _ _)))
      go_ret
      exact ⟨rfl, (by repeat (first | exact Below.refl _ _ | assumption | (refine Below.trans ?_ (Below.mono (by assumption) (by first | omega | (simp; done) | (simp; omega)))) | (with_reducible refine Below.drew ?_) | (with_reducible refine Below.alloc ?_ (by first | omega | (simp; done) | (simp; omega)) _) | (with_reducible refine Below.setCell ?_ (by first | omega | (simp; done) | (simp; omega)) _))), (by first | omega | (simp; done) | (simp; omega))⟩
    · rw [show validOp ⟨2, ⟨0, 0, gb, gc⟩, q, bit, cond⟩ n bits = false by simp [validOp, zeroG, h]]
      go_enter Tryd.func86, Tryd.ntmps86
      go_wp2_with (first | (go_at_call 56; refine (in_any _ _ _ _).mono ?_; rintro e w' ⟨rfl, rfl⟩) | (go_at_call 106; refine (IsValidGate_impl _ _ _ _ _ _).mono ?_; rintro e w' ⟨rfl, hb, hs⟩; simp at hs; obtain ⟨p0, p1, p2, p3, p4, p5, p6, p7⟩ := boxcells8 (lay := hb) (boxed1_0 _ _)))
      go_ret
      exact ⟨rfl, (by repeat (first | exact Below.refl _ _ | assumption | (refine Below.trans ?_ (Below.mono (by assumption) (by first | omega | (simp; done) | (simp; omega)))) | (with_reducible refine Below.drew ?_) | (with_reducible refine Below.alloc ?_ (by first | omega | (simp; done) | (simp; omega)) _) | (with_reducible refine Below.setCell ?_ (by first | omega | (simp; done) | (simp; omega)) _))), (by first | omega | (simp; done) | (simp; omega))⟩
    · rw [show validOp ⟨2, ⟨0, 0, 0, gc⟩, q, bit, cond⟩ n bits = false by simp [validOp, zeroG, h]]
      go_enter Tryd.func86, Tryd.ntmps86
      go_wp2_with (first | (go_at_call 56; refine (in_any _ _ _ _).mono ?_; rintro e w' ⟨rfl, rfl⟩) | (go_at_call 106; refine (IsValidGate_impl _ _ _ _ _ _).mono ?_; rintro e w' ⟨rfl, hb, hs⟩; simp at hs; obtain ⟨p0, p1, p2, p3, p4, p5, p6, p7⟩ := boxcells8 (lay := hb) (boxed1_0 _ _)))
      go_ret
      exact ⟨rfl, (by repeat (first | exact Below.refl _ _ | assumption | (refine Below.trans ?_ (Below.mono (by assumption) (by first | omega | (simp; done) | (simp; omega)))) | (with_reducible refine Below.drew ?_) | (with_reducible refine Below.alloc ?_ (by first | omega | (simp; done) | (simp; omega)) _) | (with_reducible refine Below.setCell ?_ (by first | omega | (simp; done) | (simp; omega)) _))), (by first | omega | (simp; done) | (simp; omega))⟩
    · rw [show validOp ⟨2, ⟨0, 0, 0, 0⟩, q, bit, cond⟩ n bits = false by simp [validOp, zeroG, h]]
      go_enter Tryd.func86, Tryd.ntmps86
      go_wp2_with (first | (go_at_call 56; refine (in_any _ _ _ _).mono ?_; rintro e w' ⟨rfl, rfl⟩) | (go_at_call 106; refine (IsValidGate_impl _ _ _ _ _ _).mono ?_; rintro e w' ⟨rfl, hb, hs⟩; simp at hs; obtain ⟨p0, p1, p2, p3, p4, p5, p6, p7⟩ := boxcells8 (lay := hb) (boxed1_0 _ _)))
      go_ret
      exact ⟨rfl, (by repeat (first | exact Below.refl _ _ | assumption | (refine Below.trans ?_ (Below.mono (by assumption) (by first | omega | (simp; done) | (simp; omega)))) | (with_reducible refine Below.drew ?_) | (with_reducible refine Below.alloc ?_ (by first | omega | (simp; done) | (simp; omega)) _) | (with_reducible refine Below.setCell ?_ (by first | omega | (simp; done) | (simp; omega)) _))), (by first | omega | (simp; done) | (simp; omega))⟩
    · cases hq : inB q 0 (n - 1)
      · rw [show validOp ⟨2, ⟨0, 0, 0, 0⟩, q, bit, 0⟩ n bits = false by simp [validOp, zeroG, hq]]
        go_enter Tryd.func86, Tryd.ntmps86
        go_wp2_with (first | (go_at_call 56; refine (in_any _ _ _ _).mono ?_; rintro e w' ⟨rfl, rfl⟩) | (go_at_call 106; refine (IsValidGate_impl _ _ _ _ _ _).mono ?_; rintro e w' ⟨rfl, hb, hs⟩; simp at hs; obtain ⟨p0, p1, p2, p3, p4, p5, p6, p7⟩ := boxcells8 (lay := hb) (boxed1_0 _ _)))
        go_ret
        exact ⟨rfl, (by repeat (first | exact Below.refl _ _ | assumption | (refine Below.trans ?_ (Below.mono (by assumption) (by first | omega | (simp; done) | (simp; omega)))) | (with_reducible refine Below.drew ?_) | (with_reducible refine Below.alloc ?_ (by first | omega | (simp; done) | (simp; omega)) _) | (with_reducible refine Below.setCell ?_ (by first | omega | (simp; done) | (simp; omega)) _))), (by first | omega | (simp; done) | (simp; omega))⟩
      · cases hc : inB bit 0 (bits - 1)
        · rw [show validOp ⟨2, ⟨0, 0, 0, 0⟩, q, bit, 0⟩ n bits = false by simp [validOp, zeroG, hc]]
          go_enter Tryd.func86, Tryd.ntmps86
          go_wp2_with (first | (go_at_call 56; refine (in_any _ _ _ _).mono ?_; rintro e w' ⟨rfl, rfl⟩) | (go_at_call 106; refine (IsValidGate_impl _ _ _ _ _ _).mono ?_; rintro e w' ⟨rfl, hb, hs⟩; simp at hs; obtain ⟨p0, p1, p2, p3, p4, p5, p6, p7⟩ := boxcells8 (lay := hb) (boxed1_0 _ _)))
          go_ret
          exact ⟨rfl, (by repeat (first | exact Below.refl _ _ | assumption | (refine Below.trans ?_ (Below.mono (by assumption) (by first | omega | (simp; done) | (simp; omega)))) | (with_reducible refine Below.drew ?_) | (with_reducible refine Below.alloc ?_ (by first | omega | (simp; done) | (simp; omega)) _) | (with_reducible refine Below.setCell ?_ (by first | omega | (simp; done) | (simp; omega)) _))), (by first | omega | (simp; done) | (simp; omega))⟩
        · rw [show validOp ⟨2, ⟨0, 0, 0, 0⟩, q, bit, 0⟩ n bits = true by simp [validOp, zeroG, hn, hbt, hq, hc]]
          go_enter Tryd.func86, Tryd.ntmps86
          go_wp2_with (first | (go_at_call 56; refine (in_any _ _ _ _).mono ?_; rintro e w' ⟨rfl, rfl⟩) | (go_at_call 106; refine (IsValidGate_impl _ _ _ _ _ _).mono ?_; rintro e w' ⟨rfl, hb, hs⟩; simp at hs; obtain ⟨p0, p1, p2, p3, p4, p5, p6, p7⟩ := boxcells8 (lay := hb) (boxed1_0 _ _)))
          go_ret
          exact ⟨rfl, (by repeat (first | exact Below.refl _ _ | assumption | (refine Below.trans ?_ (Below.mono (by assumption) (by first | omega | (simp; done) | (simp; omega)))) | (with_reducible refine Below.drew ?_) | (with_reducible refine Below.alloc ?_ (by first | omega | (simp; done) | (simp; omega)) _) | (with_reducible refine Below.setCell ?_ (by first | omega | (simp; done) | (simp; omega)) _))), (by first | omega | (simp; done) | (simp; omega))⟩
  have h2' : (k == 2) = false := beq_eq_false_iff_ne.2 h2
  by_cases h3 : k = 3
  · subst h3
    have hz : (((((gk ≠ 0 ∨ gk = 0 ∧ ga ≠ 0) ∨ gk = 0 ∧ ga = 0 ∧ gb ≠ 0) ∨ gk = 0 ∧ ga = 0 ∧ gb = 0 ∧ gc ≠ 0) ∨ gk = 0 ∧ ga = 0 ∧ gb = 0 ∧ gc = 0 ∧ bit ≠ 0) ∨ gk = 0 ∧ ga = 0 ∧ gb = 0 ∧ gc = 0 ∧ bit = 0 ∧ cond ≠ 0) ∨ gk = 0 ∧ ga = 0 ∧ gb = 0 ∧ gc = 0 ∧ bit = 0 ∧ cond = 0 := by omega
    rcases hz with (((((h | ⟨rfl, h⟩) | ⟨rfl, rfl, h⟩) | ⟨rfl, rfl, rfl, h⟩) | ⟨rfl, rfl, rfl, rfl, h⟩) | ⟨rfl, rfl, rfl, rfl, rfl, h⟩) | ⟨rfl, rfl, rfl, rfl, rfl, rfl⟩
    · rw [show validOp ⟨3, ⟨gk, ga, gb, gc⟩, q, bit, cond⟩ n bits = false by simp [validOp, zeroG, h]]
      go_enter Tryd.func86, Tryd.ntmps86
      go_wp2_with (first | (go_at_call 56; refine (in_any _ _ _ _).mono ?_; rintro e w' ⟨rfl, rfl⟩) | (go_at_call 106; refine (IsValidGate_impl _ _ _ _ _ _).mono ?_; rintro e w' ⟨rfl, hb, hs⟩; simp at hs; obtain ⟨p0, p1, p2, p3, p4, p5, p6, p7⟩ := boxcells8 (lay := hb) (boxed1_0 _ _)))
      go_ret
      exact ⟨rfl, (by repeat (first | exact Below.refl _ _ | assumption | (refine Below.trans ?_ (Below.mono (by assumption) (by first | omega | (simp; done) | (simp; omega)))) | (with_reducible refine Below.drew ?_) | (with_reducible refine Below.alloc ?_ (by first | omega | (simp; done) | (simp; omega)) _) | (with_reducible refine Below.setCell ?_ (by first | omega | (simp; done) | (simp; omega)) _))), (by first | omega | (simp; done) | (simp; omega))⟩
    · rw [show validOp ⟨3, ⟨0, ga, gb, gc⟩, q, bit, cond⟩ n bits = false by simp [validOp, zeroG, h]]
      go_enter Tryd.func86, Tryd.ntmps86
      go_wp2_with (first | (go_at_call 56; refine (in_any _ _ _ _).mono ?_; rintro e w' ⟨rfl, rfl⟩) | (go_at_call 106; refine (IsValidGate_impl _ _ _ _ _ _).mono ?_; rintro e w' ⟨rfl, hb, hs⟩; simp at hs; obtain ⟨p0, p1, p2, p3, p4, p5, p6, p7⟩ := boxcells8 (lay := hb) (boxed1_0 _ _)))
      go_ret
      exact ⟨rfl, (by repeat (first | exact Below.refl _ _ | assumption | (refine Below.trans ?_ (Below.mono (by assumption) (by first | omega | (simp; done) | (simp; omega)))) | (with_reducible refine Below.drew ?_) | (with_reducible refine Below.alloc ?_ (by first | omega | (simp; done) | (simp; omega)) _) | (with_reducible refine Below.setCell ?_ (by first | omega | (simp; done) | (simp; omega)) _))), (by first | omega | (simp; done) | (simp; omega))⟩
    · rw [show validOp ⟨3, ⟨0, 0, gb, gc⟩, q, bit, cond⟩ n bits = false by simp [validOp, zeroG, h]]
      go_enter Tryd.func86, Tryd.ntmps86
      go_wp2_with (first | (go_at_call 56; refine (in_any _ _ _ _).mono ?_; rintro e w' ⟨rfl, rfl⟩) | (go_at_call 106; refine (IsValidGate_impl _ _ _ _ _ _).mono ?_; rintro e w' ⟨rfl, hb, hs⟩; simp at hs; obtain ⟨p0, p1, p2, p3, p4, p5, p6, p7⟩ := boxcells8 (lay := hb) (boxed1_0 _ _)))
      go_ret
      exact ⟨rfl, (by repeat (first | exact Below.refl _ _ | assumption | (refine Below.trans ?_ (Below.mono (by assumption) (by first | omega | (simp; done) | (simp; omega)))) | (with_reducible refine Below.drew ?_) | (with_reducible refine Below.alloc ?_ (by first | omega | (simp; done) | (simp; omega)) _) | (with_reducible refine Below.setCell ?_ (by first | omega | (simp; done) | (simp; omega)) _))), (by first | omega | (simp; done) | (simp; omega))⟩
    · rw [show validOp ⟨3, ⟨0, 0, 0, gc⟩, q, bit, cond⟩ n bits = false by simp [validOp, zeroG, h]]
      go_enter Tryd.func86, Tryd.ntmps86
      go_wp2_with (first | (go_at_call 56; refine (in_any _ _ _ _).mono ?_; rintro e w' ⟨rfl, rfl⟩) | (go_at_call 106; refine (IsValidGate_impl _ _ _ _ _ _).mono ?_; rintro e w' ⟨rfl, hb, hs⟩; simp at hs; obtain ⟨p0, p1, p2, p3, p4, p5, p6, p7⟩ := boxcells8 (lay := hb) (boxed1_0 _ _)))
      go_ret
      exact ⟨rfl, (by repeat (first | exact Below.refl _ _ | assumption | (refine Below.trans ?_ (Below.mono (by assumption) (by first | omega | (simp; done) | (simp; omega)))) | (with_reducible refine Below.drew ?_) | (with_reducible refine Below.alloc ?_ (by first | omega | (simp; done) | (simp; omega)) _) | (with_reducible refine Below.setCell ?_ (by first | omega | (simp; done) | (simp; omega)) _))), (by first | omega | (simp; done) | (simp; omega))⟩
    · rw [show validOp ⟨3, ⟨0, 0, 0, 0⟩, q, bit, cond⟩ n bits = false by simp [validOp, zeroG, h]]
      go_enter Tryd.func86, Tryd.ntmps86
      go_wp2_with (first | (go_at_call 56; refine (in_any _ _ _ _).mono ?_; rintro e w' ⟨rfl, rfl⟩) | (go_at_call 106; refine (IsValidGate_impl _ _ _ _ _ _).mono ?_; rintro e w' ⟨rfl, hb, hs⟩; simp at hs; obtain ⟨p0, p1, p2, p3, p4, p5, p6, p7⟩ := boxcells8 (lay := hb) (boxed1_0 _ _)))
      go_ret
      exact ⟨rfl, (by repeat (first | exact Below.refl _ _ | assumption | (refine Below.trans ?_ (Below.mono (by assumption) (by first | omega | (simp; done) | (simp; omega)))) | (with_reducible refine Below.drew ?_) | (with_reducible refine Below.alloc ?_ (by first | omega | (simp; done) | (simp; omega)) _) | (with_reducible refine Below.setCell ?_ (by first | omega | (simp; done) | (simp; omega)) _))), (by first | omega | (simp; done) | (simp; omega))⟩
    · rw [show validOp ⟨3, ⟨0, 0, 0, 0⟩, q, 0, cond⟩ n bits = false by simp [validOp, zeroG, h]]
      go_enter Tryd.func86, Tryd.ntmps86
      go_wp2_with (first | (go_at_call 56; refine (in_any _ _ _ _).mono ?_; rintro e w' ⟨rfl, rfl⟩) | (go_at_call 106; refine (IsValidGate_impl _ _ _ _ _ _).mono ?_; rintro e w' ⟨rfl, hb, hs⟩; simp at hs; obtain ⟨p0, p1, p2, p3, p4, p5, p6, p7⟩ := boxcells8 (lay := hb) (boxed1_0 _ _)))
      go_ret
      exact ⟨rfl, (by repeat (first | exact Below.refl _ _ | assumption | (refine Below.trans ?_ (Below.mono (by assumption) (by first | omega | (simp; done) | (simp; omega)))) | (with_reducible refine Below.drew ?_) | (with_reducible refine Below.alloc ?_ (by first | omega | (simp; done) | (simp; omega)) _) | (with_reducible refine Below.setCell ?_ (by first | omega | (simp; done) | (simp; omega)) _))), (by first | omega | (simp; done) | (simp; omega))⟩
    · cases hq : inB q 0 (n - 1)
      · rw [show validOp ⟨3, ⟨0, 0, 0, 0⟩, q, 0, 0⟩ n bits = false by simp [validOp, zeroG, hq]]
        go_enter Tryd.func86, Tryd.ntmps86
        go_wp2_with (first | (go_at_call 56; refine (in_any _ _ _ _).mono ?_; rintro e w' ⟨rfl, rfl⟩) | (go_at_call 106; refine (IsValidGate_impl _ _ _ _ _ _).mono ?_; rintro e w' ⟨rfl, hb, hs⟩; simp at hs; obtain ⟨p0, p1, p2, p3, p4, p5, p6, p7⟩ := boxcells8 (lay := hb) (boxed1_0 _ _)))
        go_ret
        exact ⟨rfl, (by repeat (first | exact Below.refl _ _ | assumption | (refine Below.trans ?_ (Below.mono (by assumption) (by first | omega | (simp; done) | (simp; omega)))) | (with_reducible refine Below.drew ?_) | (with_reducible refine Below.alloc ?_ (by first | omega | (simp; done) | (simp; omega)) _) | (with_reducible refine Below.setCell ?_ (by first | omega | (simp; done) | (simp; omega)) _))), (by first | omega | (simp; done) | (simp; omega))⟩
      · rw [show validOp ⟨3, ⟨0, 0, 0, 0⟩, q, 0, 0⟩ n bits = true by simp [validOp, zeroG, hn, hbt, hq]]
        go_enter Tryd.func86, Tryd.ntmps86
        go_wp2_with (first | (go_at_call 56; refine (in_any _ _ _ _).mono ?_; rintro e w' ⟨rfl, rfl⟩) | (go_at_call 106; refine (IsValidGate_impl _ _ _ _ _ _).mono ?_; rintro e w' ⟨rfl, hb, hs⟩; simp at hs; obtain ⟨p0, p1, p2, p3, p4, p5, p6, p7⟩ := boxcells8 (lay := hb) (boxed1_0 _ _)))
        go_ret
        exact ⟨rfl, (by repeat (first | exact Below.refl _ _ | assumption | (refine Below.trans ?_ (Below.mono (by assumption) (by first | omega | (simp; done) | (simp; omega)))) | (with_reducible refine Below.drew ?_) | (with_reducible refine Below.alloc ?_ (by first | omega | (simp; done) | (simp; omega)) _) | (with_reducible refine Below.setCell ?_ (by first | omega | (simp; done) | (simp; omega)) _))), (by first | omega | (simp; done) | (simp; omega))⟩
  have h3' : (k == 3) = false := beq_eq_false_iff_ne.2 h3
  rw [show validOp ⟨k, ⟨gk, ga, gb, gc⟩, q, bit, cond⟩ n bits = false by simp [validOp, h1, h2, h3]]
  clear h1 h2 h3
  go_enter Tryd.func86, Tryd.ntmps86
  go_wp2_with (first | (go_at_call 56; refine (in_any _ _ _ _).mono ?_; rintro e w' ⟨rfl, rfl⟩) | (go_at_call 106; refine (IsValidGate_impl _ _ _ _ _ _).mono ?_; rintro e w' ⟨rfl, hb, hs⟩; simp at hs; obtain ⟨p0, p1, p2, p3, p4, p5, p6, p7⟩ := boxcells8 (lay := hb) (boxed1_0 _ _)))
  go_ret
  exact ⟨rfl, (by repeat (first | exact Below.refl _ _ | assumption | (refine Below.trans ?_ (Below.mono (by assumption) (by first | omega | (simp; done) | (simp; omega)))) | (with_reducible refine Below.drew ?_) | (with_reducible refine Below.alloc ?_ (by first | omega | (simp; done) | (simp; omega)) _) | (with_reducible refine Below.setCell ?_ (by first | omega | (simp; done) | (simp; omega)) _))), (by first | omega | (simp; done) | (simp; omega))⟩
set_option maxRecDepth 100000 in
set_option maxHeartbeats 4000000 in
theorem IsValidOp_spec (k gk ga gb gc q bit cond n bits : Int) (w : World) : Calls Tryd.prog 83 #[.agg #[.int .i64 k, .int .i64 gk, .int .i64 ga, .int .i64 gb, .int .i64 gc, .int .i64 q, .int .i64 bit, .int .i64 cond], .int .i64 n, .int .i64 bits] w fun e w' =>
    e = .returned (.bool (validOp ⟨k, ⟨gk, ga, gb, gc⟩, q, bit, cond⟩ n bits)) ∧ Below w.heap.size w w' ∧ w.heap.size ≤ w'.heap.size := by
  cases hn : inB n 1 4
  · rw [show validOp ⟨k, ⟨gk, ga, gb, gc⟩, q, bit, cond⟩ n bits = false by simp [validOp, hn]]
    go_enter Tryd.func83, Tryd.ntmps83
    go_wp2_with (first | (go_at_call 48; refine (l1In_any _ _ _ _).mono ?_; rintro e w' ⟨rfl, rfl⟩) | (go_at_call 103; refine (IsValidGate_spec _ _ _ _ _ _).mono ?_; rintro e w' ⟨rfl, hb, hs⟩; simp at hs; obtain ⟨p0, p1, p2, p3, p4, p5, p6, p7⟩ := boxcells8 (lay := hb) (boxed1_0 _ _)))
    go_ret
    exact ⟨rfl, (by repeat (first | exact Below.refl _ _ | assumption | (refine Below.trans ?_ (Below.mono (by assumption) (by first | omega | (simp; done) | (simp; omega)))) | (with_reducible refine Below.drew ?_) | (with_reducible refine Below.alloc ?_ (by first | omega | (simp; done) | (simp; omega)) _) | (with_reducible refine Below.setCell ?_ (by first | omega | (simp; done) | (simp; omega)) _))), (by first | omega | (simp; done) | (simp; omega))⟩
  have hnn := inB_iff.1 hn
  cases hbt : inB bits 0 3
  · rw [show validOp ⟨k, ⟨gk, ga, gb, gc⟩, q, bit, cond⟩ n bits = false by simp [validOp, hn, hbt]]
    go_enter Tryd.func83, Tryd.ntmps83
    go_wp2_with (first | (go_at_call 48; refine (l1In_any _ _ _ _).mono ?_; rintro e w' ⟨rfl, rfl⟩) | (go_at_call 103; refine (IsValidGate_spec _ _ _ _ _ _).mono ?_; rintro e w' ⟨rfl, hb, hs⟩; simp at hs; obtain ⟨p0, p1, p2, p3, p4, p5, p6, p7⟩ := boxcells8 (lay := hb) (boxed1_0 _ _)))
    go_ret
    exact ⟨rfl, (by repeat (first | exact Below.refl _ _ | assumption | (refine Below.trans ?_ (Below.mono (by assumption) (by first | omega | (simp; done) | (simp; omega)))) | (with_reducible refine Below.drew ?_) | (with_reducible refine Below.alloc ?_ (by first | omega | (simp; done) | (simp; omega)) _) | (with_reducible refine Below.setCell ?_ (by first | omega | (simp; done) | (simp; omega)) _))), (by first | omega | (simp; done) | (simp; omega))⟩
  have hbb := inB_iff.1 hbt
  by_cases h1 : k = 1
  · subst h1
    by_cases hq : q = 0
    · subst hq
      by_cases hb : bit = 0
      · subst hb
        cases hv : validG ⟨gk, ga, gb, gc⟩ n
        · rw [show validOp ⟨1, ⟨gk, ga, gb, gc⟩, 0, 0, cond⟩ n bits = false by simp [validOp, hv]]
          go_enter Tryd.func83, Tryd.ntmps83
          go_wp2_with (first | (go_at_call 48; refine (l1In_any _ _ _ _).mono ?_; rintro e w' ⟨rfl, rfl⟩) | (go_at_call 103; refine (IsValidGate_spec _ _ _ _ _ _).mono ?_; rintro e w' ⟨rfl, hb, hs⟩; simp at hs; obtain ⟨p0, p1, p2, p3, p4, p5, p6, p7⟩ := boxcells8 (lay := hb) (boxed1_0 _ _)))
          go_ret
          exact ⟨rfl, (by repeat (first | exact Below.refl _ _ | assumption | (refine Below.trans ?_ (Below.mono (by assumption) (by first | omega | (simp; done) | (simp; omega)))) | (with_reducible refine Below.drew ?_) | (with_reducible refine Below.alloc ?_ (by first | omega | (simp; done) | (simp; omega)) _) | (with_reducible refine Below.setCell ?_ (by first | omega | (simp; done) | (simp; omega)) _))), (by first | omega | (simp; done) | (simp; omega))⟩
        · cases hc : inB cond 0 bits
          · rw [show validOp ⟨1, ⟨gk, ga, gb, gc⟩, 0, 0, cond⟩ n bits = false by simp [validOp, hc]]
            go_enter Tryd.func83, Tryd.ntmps83
            go_wp2_with (first | (go_at_call 48; refine (l1In_any _ _ _ _).mono ?_; rintro e w' ⟨rfl, rfl⟩) | (go_at_call 103; refine (IsValidGate_spec _ _ _ _ _ _).mono ?_; rintro e w' ⟨rfl, hb, hs⟩; simp at hs; obtain ⟨p0, p1, p2, p3, p4, p5, p6, p7⟩ := boxcells8 (lay := hb) (boxed1_0 _ _)))
            go_ret
            exact ⟨rfl, (by repeat (first | exact Below.refl _ _ | assumption | (refine Below.trans ?_ (Below.mono (by assumption) (by first | omega | (simp; done) | (simp; omega)))) | (with_reducible refine Below.drew ?_) | (with_reducible refine Below.alloc ?_ (by first | omega | (simp; done) | (simp; omega)) _) | (with_reducible refine Below.setCell ?_ (by first | omega | (simp; done) | (simp; omega)) _))), (by first | omega | (simp; done) | (simp; omega))⟩
          · rw [show validOp ⟨1, ⟨gk, ga, gb, gc⟩, 0, 0, cond⟩ n bits = true by simp [validOp, hn, hbt, hv, hc]]
            go_enter Tryd.func83, Tryd.ntmps83
            go_wp2_with (first | (go_at_call 48; refine (l1In_any _ _ _ _).mono ?_; rintro e w' ⟨rfl, rfl⟩) | (go_at_call 103; refine (IsValidGate_spec _ _ _ _ _ _).mono ?_; rintro e w' ⟨rfl, hb, hs⟩; simp at hs; obtain ⟨p0, p1, p2, p3, p4, p5, p6, p7⟩ := boxcells8 (lay := hb) (boxed1_0 _ _)))
            go_ret
            exact ⟨rfl, (by repeat (first | exact Below.refl _ _ | assumption | (refine Below.trans ?_ (Below.mono (by assumption) (by first | omega | (simp; done) | (simp; omega)))) | (with_reducible refine Below.drew ?_) | (with_reducible refine Below.alloc ?_ (by first | omega | (simp; done) | (simp; omega)) _) | (with_reducible refine Below.setCell ?_ (by first | omega | (simp; done) | (simp; omega)) _))), (by first | omega | (simp; done) | (simp; omega))⟩
      · rw [show validOp ⟨1, ⟨gk, ga, gb, gc⟩, 0, bit, cond⟩ n bits = false by simp [validOp, hb]]
        go_enter Tryd.func83, Tryd.ntmps83
        go_wp2_with (first | (go_at_call 48; refine (l1In_any _ _ _ _).mono ?_; rintro e w' ⟨rfl, rfl⟩) | (go_at_call 103; refine (IsValidGate_spec _ _ _ _ _ _).mono ?_; rintro e w' ⟨rfl, hb, hs⟩; simp at hs; obtain ⟨p0, p1, p2, p3, p4, p5, p6, p7⟩ := boxcells8 (lay := hb) (boxed1_0 _ _)))
        go_ret
        exact ⟨rfl, (by repeat (first | exact Below.refl _ _ | assumption | (refine Below.trans ?_ (Below.mono (by assumption) (by first | omega | (simp; done) | (simp; omega)))) | (with_reducible refine Below.drew ?_) | (with_reducible refine Below.alloc ?_ (by first | omega | (simp; done) | (simp; omega)) _) | (with_reducible refine Below.setCell ?_ (by first | omega | (simp; done) | (simp; omega)) _))), (by first | omega | (simp; done) | (simp; omega))⟩
    · rw [show validOp ⟨1, ⟨gk, ga, gb, gc⟩, q, bit, cond⟩ n bits = false by simp [validOp, hq]]
      go_enter Tryd.func83, Tryd.ntmps83
      go_wp2_with (first | (go_at_call 48; refine (l1In_any _ _ _ _).mono ?_; rintro e w' ⟨rfl, rfl⟩) | (go_at_call 103; refine (IsValidGate_spec _ _ _ _ _ _).mono ?_; rintro e w' ⟨rfl, hb, hs⟩; simp at hs; obtain ⟨p0, p1, p2, p3, p4, p5, p6, p7⟩ := boxcells8 (lay := hb) (boxed1_0 _ _)))
      go_ret
      exact ⟨rfl, (by repeat (first | exact Below.refl _ _ | assumption | (refine Below.trans ?_ (Below.mono (by assumption) (by first | omega | (simp; done) | (simp; omega)))) | (with_reducible refine Below.drew ?_) | (with_reducible refine Below.alloc ?_ (by first | omega | (simp; done) | (simp; omega)) _) | (with_reducible refine Below.setCell ?_ (by first | omega | (simp; done) | (simp; omega)) _))), (by first | omega | (simp; done) | (simp; omega))⟩
  have h1' : (k == 1) = false := beq_eq_false_iff_ne.2 h1
  by_cases h2 : k = 2
  · subst h2
    have hz : ((((gk ≠ 0 ∨ gk = 0 ∧ ga ≠ 0) ∨ gk = 0 ∧ ga = 0 ∧ gb ≠ 0) ∨ gk = 0 ∧ ga = 0 ∧ gb = 0 ∧ gc ≠ 0) ∨ gk = 0 ∧ ga = 0 ∧ gb = 0 ∧ gc = 0 ∧ cond ≠ 0) ∨ gk = 0 ∧ ga = 0 ∧ gb = 0 ∧ gc = 0 ∧ cond = 0 := by omega
    rcases hz with ((((h | ⟨rfl, h⟩) | ⟨rfl, rfl, h⟩) | ⟨rfl, rfl, rfl, h⟩) | ⟨rfl, rfl, rfl, rfl, h⟩) | ⟨rfl, rfl, rfl, rfl, rfl⟩
    · rw [show validOp ⟨2, ⟨gk, ga, gb, gc⟩, q, bit, cond⟩ n bits = false by simp [validOp, zeroG, h]]
      go_enter Tryd.func83, Tryd.ntmps83
      go_wp2_with (first | (go_at_call 48; refine (l1In_any _ _ _ _).mono ?_; rintro e w' ⟨rfl, rfl⟩) | (go_at_call 103; refine (IsValidGate_spec _ _ _ _ _ _).mono ?_; rintro e w' ⟨rfl, hb, hs⟩; simp at hs; obtain ⟨p0, p1, p2, p3, p4, p5, p6, p7⟩ := boxcells8 (lay := hb) (boxed1_0 _ _)))
      go_ret
      exact ⟨rfl, (by repeat (first | exact Below.refl _ _ | assumption | (refine Below.trans ?_ (Below.mono (by assumption) (by first | omega | (simp; done) | (simp; omega)))) | (with_reducible refine Below.drew ?_) | (with_reducible refine Below.alloc ?_ (by first | omega | (simp; done) | (simp; omega)) _) | (with_reducible refine Below.setCell ?_ (by first | omega | (simp; done) | (simp; omega)) _))), (by first | omega | (simp; done) | (simp; omega))⟩
    · rw [show validOp ⟨2, ⟨0, ga, gb, gc⟩, q, bit, cond⟩ n bits = false by simp [validOp, zeroG, h]]
      go_enter Tryd.func83, Tryd.ntmps83
      go_wp2_with (first | (go_at_call 48; refine (l1In_any _ _ _ _).mono ?_; rintro e w' ⟨rfl, rfl⟩) | (go_at_call 103; refine (IsValidGate_spec _ _ _ _ _ _).mono ?_; rintro e w' ⟨rfl, hb, hs⟩; simp at hs; obtain ⟨p0, p1, p2, p3, p4, p5, p6, p7⟩ := boxcells8 (lay := hb) (boxed1_0 _ _)))
      go_ret
      exact ⟨rfl, (by repeat (first | exact Below.refl _ _ | assumption | (refine Below.trans ?_ (Below.mono (by assumption) (by first | omega | (simp; done) | (simp; omega)))) | (with_reducible refine Below.drew ?_) | (with_reducible refine Below.alloc ?_ (by first | omega | (simp; done) | (simp; omega)) _) | (with_reducible refine Below.setCell ?_ (by first | omega | (simp; done) | (simp; omega)) _))), (by first | omega | (simp; done) | (simp; omega))⟩
    · rw [show validOp ⟨2, ⟨0, 0, gb, gc⟩, q, bit, cond⟩ n bits = false by simp [validOp, zeroG, h]]
      go_enter Tryd.func83, Tryd.ntmps83
      go_wp2_with (first | (go_at_call 48; refine (l1In_any _ _ _ _).mono ?_; rintro e w' ⟨rfl, rfl⟩) | (go_at_call 103; refine (IsValidGate_spec _ _ _ _ _ _).mono ?_; rintro e w' ⟨rfl, hb, hs⟩; simp at hs; obtain ⟨p0, p1, p2, p3, p4, p5, p6, p7⟩ := boxcells8 (lay := hb) (boxed1_0 _ _)))
      go_ret
      exact ⟨rfl, (by repeat (first | exact Below.refl _ _ | assumption | (refine Below.trans ?_ (Below.mono (by assumption) (by first | omega | (simp; done) | (simp; omega)))) | (with_reducible refine Below.drew ?_) | (with_reducible refine Below.alloc ?_ (by first | omega | (simp; done) | (simp; omega)) _) | (with_reducible refine Below.setCell ?_ (by first | omega | (simp; done) | (simp; omega)) _))), (by first | omega | (simp; done) | (simp; omega))⟩
    · rw [show validOp ⟨2, ⟨0, 0, 0, gc⟩, q, bit, cond⟩ n bits = false by simp [validOp, zeroG, h]]
      go_enter Tryd.func83, Tryd.ntmps83
      go_wp2_with (first | (go_at_call 48; refine (l1In_any _ _ _ _).mono ?_; rintro e w' ⟨rfl, rfl⟩) | (go_at_call 103; refine (IsValidGate_spec _ _ _ _ _ _).mono ?_; rintro e w' ⟨rfl, hb, hs⟩; simp at hs; obtain ⟨p0, p1, p2, p3, p4, p5, p6, p7⟩ := boxcells8 (lay := hb) (boxed1_0 _ _)))
      go_ret
      exact ⟨rfl, (by repeat (first | exact Below.refl _ _ | assumption | (refine Below.trans ?_ (Below.mono (by assumption) (by first | omega | (simp; done) | (simp; omega)))) | (with_reducible refine Below.drew ?_) | (with_reducible refine Below.alloc ?_ (by first | omega | (simp; done) | (simp; omega)) _) | (with_reducible refine Below.setCell ?_ (by first | omega | (simp; done) | (simp; omega)) _))), (by first | omega | (simp; done) | (simp; omega))⟩
    · rw [show validOp ⟨2, ⟨0, 0, 0, 0⟩, q, bit, cond⟩ n bits = false by simp [validOp, zeroG, h]]
      go_enter Tryd.func83, Tryd.ntmps83
      go_wp2_with (first | (go_at_call 48; refine (l1In_any _ _ _ _).mono ?_; rintro e w' ⟨rfl, rfl⟩) | (go_at_call 103; refine (IsValidGate_spec _ _ _ _ _ _).mono ?_; rintro e w' ⟨rfl, hb, hs⟩; simp at hs; obtain ⟨p0, p1, p2, p3, p4, p5, p6, p7⟩ := boxcells8 (lay := hb) (boxed1_0 _ _)))
      go_ret
      exact ⟨rfl, (by repeat (first | exact Below.refl _ _ | assumption | (refine Below.trans ?_ (Below.mono (by assumption) (by first | omega | (simp; done) | (simp; omega)))) | (with_reducible refine Below.drew ?_) | (with_reducible refine Below.alloc ?_ (by first | omega | (simp; done) | (simp; omega)) _) | (with_reducible refine Below.setCell ?_ (by first | omega | (simp; done) | (simp; omega)) _))), (by first | omega | (simp; done) | (simp; omega))⟩
    · cases hq : inB q 0 (n - 1)
      · rw [show validOp ⟨2, ⟨0, 0, 0, 0⟩, q, bit, 0⟩ n bits = false by simp [validOp, zeroG, hq]]
        go_enter Tryd.func83, Tryd.ntmps83
        go_wp2_with (first | (go_at_call 48; refine (l1In_any _ _ _ _).mono ?_; rintro e w' ⟨rfl, rfl⟩) | (go_at_call 103; refine (IsValidGate_spec _ _ _ _ _ _).mono ?_; rintro e w' ⟨rfl, hb, hs⟩; simp at hs; obtain ⟨p0, p1, p2, p3, p4, p5, p6, p7⟩ := boxcells8 (lay := hb) (boxed1_0 _ _)))
        go_ret
        exact ⟨rfl, (by repeat (first | exact Below.refl _ _ | assumption | (refine Below.trans ?_ (Below.mono (by assumption) (by first | omega | (simp; done) | (simp; omega)))) | (with_reducible refine Below.drew ?_) | (with_reducible refine Below.alloc ?_ (by first | omega | (simp; done) | (simp; omega)) _) | (with_reducible refine Below.setCell ?_ (by first | omega | (simp; done) | (simp; omega)) _))), (by first | omega | (simp; done) | (simp; omega))⟩
      · cases hc : inB bit 0 (bits - 1)
        · rw [show validOp ⟨2, ⟨0, 0, 0, 0⟩, q, bit, 0⟩ n bits = false by simp [validOp, zeroG, hc]]
          go_enter Tryd.func83, Tryd.ntmps83
          go_wp2_with (first | (go_at_call 48; refine (l1In_any _ _ _ _).mono ?_; rintro e w' ⟨rfl, rfl⟩) | (go_at_call 103; refine (IsValidGate_spec _ _ _ _ _ _).mono ?_; rintro e w' ⟨rfl, hb, hs⟩; simp at hs; obtain ⟨p0, p1, p2, p3, p4, p5, p6, p7⟩ := boxcells8 (lay := hb) (boxed1_0 _ _)))
          go_ret
          exact ⟨rfl, (by repeat (first | exact Below.refl _ _ | assumption | (refine Below.trans ?_ (Below.mono (by assumption) (by first | omega | (simp; done) | (simp; omega)))) | (with_reducible refine Below.drew ?_) | (with_reducible refine Below.alloc ?_ (by first | omega | (simp; done) | (simp; omega)) _) | (with_reducible refine Below.setCell ?_ (by first | omega | (simp; done) | (simp; omega)) _))), (by first | omega | (simp; done) | (simp; omega))⟩
        · rw [show validOp ⟨2, ⟨0, 0, 0, 0⟩, q, bit, 0⟩ n bits = true by simp [validOp, zeroG, hn, hbt, hq, hc]]
          go_enter Tryd.func83, Tryd.ntmps83
          go_wp2_with (first | (go_at_call 48; refine (l1In_any _ _ _ _).mono ?_; rintro e w' ⟨rfl, rfl⟩) | (go_at_call 103; refine (IsValidGate_spec _ _ _ _ _ _).mono ?_; rintro e w' ⟨rfl, hb, hs⟩; simp at hs; obtain ⟨p0, p1, p2, p3, p4, p5, p6, p7⟩ := boxcells8 (lay := hb) (boxed1_0 _ _)))
          go_ret
          exact ⟨rfl, (by repeat (first | exact Below.refl _ _ | assumption | (refine Below.trans ?_ (Below.mono (by assumption) (by first | omega | (simp; done) | (simp; omega)))) | (with_reducible refine Below.drew ?_) | (with_reducible refine Below.alloc ?_ (by first | omega | (simp; done) | (simp; omega)) _) | (with_reducible refine Below.setCell ?_ (by first | omega | (simp; done) | (simp; omega)) _))), (by first | omega | (simp; done) | (simp; omega))⟩
  have h2' : (k == 2) = false := beq_eq_false_iff_ne.2 h2
  by_cases h3 : k = 3
  · subst h3
    have hz : (((((gk ≠ 0 ∨ gk = 0 ∧ ga ≠ 0) ∨ gk = 0 ∧ ga = 0 ∧ gb ≠ 0) ∨ gk = 0 ∧ ga = 0 ∧ gb = 0 ∧ gc ≠ 0) ∨ gk = 0 ∧ ga = 0 ∧ gb = 0 ∧ gc = 0 ∧ bit ≠ 0) ∨ gk = 0 ∧ ga = 0 ∧ gb = 0 ∧ gc = 0 ∧ bit = 0 ∧ cond ≠ 0) ∨ gk = 0 ∧ ga = 0 ∧ gb = 0 ∧ gc = 0 ∧ bit = 0 ∧ cond = 0 := by omega
    rcases hz with (((((h | ⟨rfl, h⟩) | ⟨rfl, rfl, h⟩) | ⟨rfl, rfl, rfl, h⟩) | ⟨rfl, rfl, rfl, rfl, h⟩) | ⟨rfl, rfl, rfl, rfl, rfl, h⟩) | ⟨rfl, rfl, rfl, rfl, rfl, rfl⟩
    · rw [show validOp ⟨3, ⟨gk, ga, gb, gc⟩, q, bit, cond⟩ n bits = false by simp [validOp, zeroG, h]]
      go_enter Tryd.func83, Tryd.ntmps83
      go_wp2_with (first | (go_at_call 48; refine (l1In_any _ _ _ _).mono ?_; rintro e w' ⟨rfl, rfl⟩) | (go_at_call 103; refine (IsValidGate_spec _ _ _ _ _ _).mono ?_; rintro e w' ⟨rfl, hb, hs⟩; simp at hs; obtain ⟨p0, p1, p2, p3, p4, p5, p6, p7⟩ := boxcells8 (lay := hb) (boxed1_0 _ _)))
      go_ret
      exact ⟨rfl, (by repeat (first | exact Below.refl _ _ | assumption | (refine Below.trans ?_ (Below.mono (by assumption) (by first | omega | (simp; done) | (simp; omega)))) | (with_reducible refine Below.drew ?_) | (with_reducible refine Below.alloc ?_ (by first | omega | (simp; done) | (simp; omega)) _) | (with_reducible refine Below.setCell ?_ (by first | omega | (simp; done) | (simp; omega)) _))), (by first | omega | (simp; done) | (simp; omega))⟩
    · rw [show validOp ⟨3, ⟨0, ga, gb, gc⟩, q, bit, cond⟩ n bits = false by simp [validOp, zeroG, h]]
      go_enter Tryd.func83, Tryd.ntmps83
      go_wp2_with (first | (go_at_call 48; refine (l1In_any _ _ _ _).mono ?_; rintro e w' ⟨rfl, rfl⟩) | (go_at_call 103; refine (IsValidGate_spec _ _ _ _ _ _).mono ?_; rintro e w' ⟨rfl, hb, hs⟩; simp at hs; obtain ⟨p0, p1, p2, p3, p4, p5, p6, p7⟩ := boxcells8 (lay := hb) (boxed1_0 _ _)))
      go_ret
      exact ⟨rfl, (by repeat (first | exact Below.refl _ _ | assumption | (refine Below.trans ?_ (Below.mono (by assumption) (by first | omega | (simp; done) | (simp; omega)))) | (with_reducible refine Below.drew ?_) | (with_reducible refine Below.alloc ?_ (by first | omega | (simp; done) | (simp; omega)) _) | (with_reducible refine Below.setCell ?_ (by first | omega | (simp; done) | (simp; omega)) _))), (by first | omega | (simp; done) | (simp; omega))⟩
    · rw [show validOp ⟨3, ⟨0, 0, gb, gc⟩, q, bit, cond⟩ n bits = false by simp [validOp, zeroG, h]]
      go_enter Tryd.func83, Tryd.ntmps83
      go_wp2_with (first | (go_at_call 48; refine (l1In_any _ _ _ _).mono ?_; rintro e w' ⟨rfl, rfl⟩) | (go_at_call 103; refine (IsValidGate_spec _ _ _ _ _ _).mono ?_; rintro e w' ⟨rfl, hb, hs⟩; simp at hs; obtain ⟨p0, p1, p2, p3, p4, p5, p6, p7⟩ := boxcells8 (lay := hb) (boxed1_0 _ _)))
      go_ret
      exact ⟨rfl, (by repeat (first | exact Below.refl _ _ | assumption | (refine Below.trans ?_ (Below.mono (by assumption) (by first | omega | (simp; done) | (simp; omega)))) | (with_reducible refine Below.drew ?_) | (with_reducible refine Below.alloc ?_ (by first | omega | (simp; done) | (simp; omega)) _) | (with_reducible refine Below.setCell ?_ (by first | omega | (simp; done) | (simp; omega)) _))), (by first | omega | (simp; done) | (simp; omega))⟩
    · rw [show validOp ⟨3, ⟨0, 0, 0, gc⟩, q, bit, cond⟩ n bits = false by simp [validOp, zeroG, h]]
      go_enter Tryd.func83, Tryd.ntmps83
      go_wp2_with (first | (go_at_call 48; refine (l1In_any _ _ _ _).mono ?_; rintro e w' ⟨rfl, rfl⟩) | (go_at_call 103; refine (IsValidGate_spec _ _ _ _ _ _).mono ?_; rintro e w' ⟨rfl, hb, hs⟩; simp at hs; obtain ⟨p0, p1, p2, p3, p4, p5, p6, p7⟩ := boxcells8 (lay := hb) (boxed1_0 _ _)))
      go_ret
      exact ⟨rfl, (by repeat (first | exact Below.refl _ _ | assumption | (refine Below.trans ?_ (Below.mono (by assumption) (by first | omega | (simp; done) | (simp; omega)))) | (with_reducible refine Below.drew ?_) | (with_reducible refine Below.alloc ?_ (by first | omega | (simp; done) | (simp; omega)) _) | (with_reducible refine Below.setCell ?_ (by first | omega | (simp; done) | (simp; omega)) _))), (by first | omega | (simp; done) | (simp; omega))⟩
    · rw [show validOp ⟨3, ⟨0, 0, 0, 0⟩, q, bit, cond⟩ n bits = false by simp [validOp, zeroG, h]]
      go_enter Tryd.func83, Tryd.ntmps83
      go_wp2_with (first | (go_at_call 48; refine (l1In_any _ _ _ _).mono ?_; rintro e w' ⟨rfl, rfl⟩) | (go_at_call 103; refine (IsValidGate_spec _ _ _ _ _ _).mono ?_; rintro e w' ⟨rfl, hb, hs⟩; simp at hs; obtain ⟨p0, p1, p2, p3, p4, p5, p6, p7⟩ := boxcells8 (lay := hb) (boxed1_0 _ _)))
      go_ret
      exact ⟨rfl, (by repeat (first | exact Below.refl _ _ | assumption | (refine Below.trans ?_ (Below.mono (by assumption) (by first | omega | (simp; done) | (simp; omega)))) | (with_reducible refine Below.drew ?_) | (with_reducible refine Below.alloc ?_ (by first | omega | (simp; done) | (simp; omega)) _) | (with_reducible refine Below.setCell ?_ (by first | omega | (simp; done) | (simp; omega)) _))), (by first | omega | (simp; done) | (simp; omega))⟩
    · rw [show validOp ⟨3, ⟨0, 0, 0, 0⟩, q, 0, cond⟩ n bits = false by simp [validOp, zeroG, h]]
      go_enter Tryd.func83, Tryd.ntmps83
      go_wp2_with (first | (go_at_call 48; refine (l1In_any _ _ _ _).mono ?_; rintro e w' ⟨rfl, rfl⟩) | (go_at_call 103; refine (IsValidGate_spec _ _ _ _ _ _).mono ?_; rintro e w' ⟨rfl, hb, hs⟩; simp at hs; obtain ⟨p0, p1, p2, p3, p4, p5, p6, p7⟩ := boxcells8 (lay := hb) (boxed1_0 _ _)))
      go_ret
      exact ⟨rfl, (by repeat (first | exact Below.refl _ _ | assumption | (refine Below.trans ?_ (Below.mono (by assumption) (by first | omega | (simp; done) | (simp; omega)))) | (with_reducible refine Below.drew ?_) | (with_reducible refine Below.alloc ?_ (by first | omega | (simp; done) | (simp; omega)) _) | (with_reducible refine Below.setCell ?_ (by first | omega | (simp; done) | (simp; omega)) _))), (by first | omega | (simp; done) | (simp; omega))⟩
    · cases hq : inB q 0 (n - 1)
      · rw [show validOp ⟨3, ⟨0, 0, 0, 0⟩, q, 0, 0⟩ n bits = false by simp [validOp, zeroG, hq]]
        go_enter Tryd.func83, Tryd.ntmps83
        go_wp2_with (first | (go_at_call 48; refine (l1In_any _ _ _ _).mono ?_; rintro e w' ⟨rfl, rfl⟩) | (go_at_call 103; refine (IsValidGate_spec _ _ _ _ _ _).mono ?_; rintro e w' ⟨rfl, hb, hs⟩; simp at hs; obtain ⟨p0, p1, p2, p3, p4, p5, p6, p7⟩ := boxcells8 (lay := hb) (boxed1_0 _ _)))
        go_ret
        exact ⟨rfl, (by repeat (first | exact Below.refl _ _ | assumption | (refine Below.trans ?_ (Below.mono (by assumption) (by first | omega | (simp; done) | (simp; omega)))) | (with_reducible refine Below.drew ?_) | (with_reducible refine Below.alloc ?_ (by first | omega | (simp; done) | (simp; omega)) _) | (with_reducible refine Below.setCell ?_ (by first | omega | (simp; done) | (simp; omega)) _))), (by first | omega | (simp; done) | (simp; omega))⟩
      · rw [show validOp ⟨3, ⟨0, 0, 0, 0⟩, q, 0, 0⟩ n bits = true by simp [validOp, zeroG, hn, hbt, hq]]
        go_enter Tryd.func83, Tryd.ntmps83
        go_wp2_with (first | (go_at_call 48; refine (l1In_any _ _ _ _).mono ?_; rintro e w' ⟨rfl, rfl⟩) | (go_at_call 103; refine (IsValidGate_spec _ _ _ _ _ _).mono ?_; rintro e w' ⟨rfl, hb, hs⟩; simp at hs; obtain ⟨p0, p1, p2, p3, p4, p5, p6, p7⟩ := boxcells8 (lay := hb) (boxed1_0 _ _)))
        go_ret
        exact ⟨rfl, (by repeat (first | exact Below.refl _ _ | assumption | (refine Below.trans ?_ (Below.mono (by assumption) (by first | omega | (simp; done) | (simp; omega)))) | (with_reducible refine Below.drew ?_) | (with_reducible refine Below.alloc ?_ (by first | omega | (simp; done) | (simp; omega)) _) | (with_reducible refine Below.setCell ?_ (by first | omega | (simp; done) | (simp; omega)) _))), (by first | omega | (simp; done) | (simp; omega))⟩
  have h3' : (k == 3) = false := beq_eq_false_iff_ne.2 h3
  rw [show validOp ⟨k, ⟨gk, ga, gb, gc⟩, q, bit, cond⟩ n bits = false by simp [validOp, h1, h2, h3]]
  clear h1 h2 h3
  go_enter Tryd.func83, Tryd.ntmps83
  go_wp2_with (first | (go_at_call 48; refine (l1In_any _ _ _ _).mono ?_; rintro e w' ⟨rfl, rfl⟩) | (go_at_call 103; refine (IsValidGate_spec _ _ _ _ _ _).mono ?_; rintro e w' ⟨rfl, hb, hs⟩; simp at hs; obtain ⟨p0, p1, p2, p3, p4, p5, p6, p7⟩ := boxcells8 (lay := hb) (boxed1_0 _ _)))
  go_ret
  exact ⟨rfl, (by repeat (first | exact Below.refl _ _ | assumption | (refine Below.trans ?_ (Below.mono (by assumption) (by first | omega | (simp; done) | (simp; omega)))) | (with_reducible refine Below.drew ?_) | (with_reducible refine Below.alloc ?_ (by first | omega | (simp; done) | (simp; omega)) _) | (with_reducible refine Below.setCell ?_ (by first | omega | (simp; done) | (simp; omega)) _))), (by first | omega | (simp; done) | (simp; omega))⟩
end Go.Proofs.YtijocafindbebaaDoor
