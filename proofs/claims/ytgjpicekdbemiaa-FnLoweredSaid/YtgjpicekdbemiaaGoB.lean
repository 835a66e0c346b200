/- The reference's phases and flips of an index: what each call returns. -/
import Derived.Test.YtgjpicekdbemiaaGoA
namespace Go.Proofs.Ytgjpicekdbemiaa
open Go.RowKit
set_option linter.unusedVariables false
def icells (i : Int) (y : Zw) : List Value := [.int .i64 i, .int .i64 y.a, .int .i64 y.b, .int .i64 y.c, .int .i64 y.d, .int .i64 0]
def xfl (i : Int) (q : Nat) : Int := bits BinOp.xor IntKind.i64 i (wrap64 (2 ^ q))
def bti (i q : Nat) : Bool := bits BinOp.and IntKind.i64 ((i : Int) / 2 ^ q) 1 == 1
theorem xfl_all : ((List.range 16).all fun i => (List.range 4).all fun q => decide (xfl (i : Nat) q = (fl i q : Nat)) && decide (bti i q = bt i q)) = true := by decide +kernel
theorem xfl_nat {i q : Nat} (hi : i < 16) (hq : q < 4) : xfl (i : Nat) q = (fl i q : Nat) := by
  have h := List.all_eq_true.1 (List.all_eq_true.1 xfl_all i (List.mem_range.2 hi)) q (List.mem_range.2 hq)
  simp only [Bool.and_eq_true, decide_eq_true_eq] at h
  exact h.1
theorem bti_nat {i q : Nat} (hi : i < 16) (hq : q < 4) : bti i q = bt i q := by
  have h := List.all_eq_true.1 (List.all_eq_true.1 xfl_all i (List.mem_range.2 hi)) q (List.mem_range.2 hq)
  simp only [Bool.and_eq_true, decide_eq_true_eq] at h
  exact h.2
theorem own_lowS {w : World} {B B' e size n : Nat} {v : Value} {xs : List Value} (h : w.ownsRow B e size v n xs) (hB : B' ≤ B) : w.ownsRow B' e size v n xs := by
  refine ⟨h.1, ?_⟩
  rcases h.2 with h2 | ⟨g, cap, cur, h1, h2, h3⟩
  · exact .inl h2
  · exact .inr ⟨g, cap, cur, h1, Nat.le_trans hB h2, h3⟩
set_option maxRecDepth 100000 in
set_option maxHeartbeats 2000000 in
theorem l10Phase_any (i : Int) (turn : Bool) (p : Nat) (hp : p < 8) (w : World) : Calls Try.prog 54 #[.int .i64 i, .bool turn, .int .i64 p] w (RetRow 81 6 w 1 (icells i (zph (if turn = true then p else 0)))) := by
  cases turn
  · rw [if_neg (by decide)]
    go_enter Try.func54, Try.ntmps54
    go_wp2_with fail
    refine (PhaseFactor_any 0 (by decide) _).mono ?_
    rintro e w1 ⟨rfl, hb, hs⟩
    go_wp2_with fail
    go_ret
    refine retRow_lit ?_ ?_ ?_ ?_ ?_ ?_
    · exact (by first | omega | (simp; done) | (simp; omega))
    · exact (by repeat (first | exact Below.refl _ _ | assumption | (refine Below.trans ?_ (Below.mono (by assumption) (by first | omega | (simp; done) | (simp; omega)))) | (with_reducible refine Below.drew ?_) | (with_reducible refine Below.alloc ?_ (by first | omega | (simp; done) | (simp; omega)) _) | (with_reducible refine Below.setCell ?_ (by first | omega | (simp; done) | (simp; omega)) _)))
    · rfl
    · decide
    · rfl
    · first | rfl | simp
  · rw [if_pos rfl]
    go_enter Try.func54, Try.ntmps54
    go_wp2_with fail
    refine (PhaseFactor_any p hp _).mono ?_
    rintro e w1 ⟨rfl, hb, hs⟩
    go_wp2_with fail
    go_ret
    refine retRow_lit ?_ ?_ ?_ ?_ ?_ ?_
    · exact (by first | omega | (simp; done) | (simp; omega))
    · exact (by repeat (first | exact Below.refl _ _ | assumption | (refine Below.trans ?_ (Below.mono (by assumption) (by first | omega | (simp; done) | (simp; omega)))) | (with_reducible refine Below.drew ?_) | (with_reducible refine Below.alloc ?_ (by first | omega | (simp; done) | (simp; omega)) _) | (with_reducible refine Below.setCell ?_ (by first | omega | (simp; done) | (simp; omega)) _)))
    · rfl
    · decide
    · rfl
    · first | rfl | simp
set_option maxRecDepth 100000 in
set_option maxHeartbeats 2000000 in
theorem l10Flip_any (i : Int) (turn : Bool) (q : Nat) (hq : q < 4) (w : World) : Calls Try.prog 53 #[.int .i64 i, .int .i64 q, .bool turn] w (RetRow 81 6 w 1 (icells (if turn = true then xfl i q else i) (zph 0))) := by
  cases turn
  · rw [if_neg (by decide)]
    go_enter Try.func53, Try.ntmps53
    go_wp2_with fail
    refine (PhaseFactor_any 0 (by decide) _).mono ?_
    rintro e w1 ⟨rfl, hb, hs⟩
    go_wp2_with fail
    go_ret
    refine retRow_lit ?_ ?_ ?_ ?_ ?_ ?_
    · exact (by first | omega | (simp; done) | (simp; omega))
    · exact (by repeat (first | exact Below.refl _ _ | assumption | (refine Below.trans ?_ (Below.mono (by assumption) (by first | omega | (simp; done) | (simp; omega)))) | (with_reducible refine Below.drew ?_) | (with_reducible refine Below.alloc ?_ (by first | omega | (simp; done) | (simp; omega)) _) | (with_reducible refine Below.setCell ?_ (by first | omega | (simp; done) | (simp; omega)) _)))
    · rfl
    · decide
    · rfl
    · first | rfl | simp
  · rw [if_pos rfl]
    go_enter Try.func53, Try.ntmps53
    go_wp2_with fail
    refine (PhaseFactor_any 0 (by decide) _).mono ?_
    rintro e w1 ⟨rfl, hb, hs⟩
    go_wp2_with fail
    go_ret
    refine retRow_lit ?_ ?_ ?_ ?_ ?_ ?_
    · exact (by first | omega | (simp; done) | (simp; omega))
    · exact (by repeat (first | exact Below.refl _ _ | assumption | (refine Below.trans ?_ (Below.mono (by assumption) (by first | omega | (simp; done) | (simp; omega)))) | (with_reducible refine Below.drew ?_) | (with_reducible refine Below.alloc ?_ (by first | omega | (simp; done) | (simp; omega)) _) | (with_reducible refine Below.setCell ?_ (by first | omega | (simp; done) | (simp; omega)) _)))
    · rfl
    · decide
    · rfl
    · first | rfl | simp
end Go.Proofs.Ytgjpicekdbemiaa
