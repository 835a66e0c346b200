/- Single branches: comparing equal ones, marking, reading the marks back. -/
import Derived.Test.YtgmaokpebaebkaaInit
namespace Go.Proofs.Ytgmaokpebaebkaa
open Go.RowKit
set_option linter.unusedVariables false
set_option maxRecDepth 100000 in
set_option maxHeartbeats 1000000 in
theorem eqBranch_same (b : Int) (A A' : Option Addr) (n c c' : Nat) (M : List (List Dm)) (w : World) (h1 : RdM w A n M) (h2 : RdM w A' n M) (hn : n ≤ 1099511627776) (hs : szM M ≤ 1099511627776) :
    Calls Try.prog 16 #[.agg #[.int .i64 b, .slice A n c], .agg #[.int .i64 b, .slice A' n c']] w fun e w' => e = .returned (.bool true) ∧ Below w.heap.size w w' ∧ w.heap.size ≤ w'.heap.size := by
  have b0 : Below w.heap.size w ((w.alloc (.cells #[.int .i64 b, .slice A n c] 37)).alloc (.cells #[.int .i64 b, .slice A' n c'] 37)) := (by repeat (first | exact Below.refl _ _ | assumption | (refine Below.trans ?_ (Below.mono (by assumption) (by first | omega | (simp; done) | (simp; omega)))) | (with_reducible refine Below.drew ?_) | (with_reducible refine Below.alloc ?_ (by first | omega | (simp; done) | (simp; omega)) _) | (with_reducible refine Below.setCell ?_ (by first | omega | (simp; done) | (simp; omega)) _)))
  have H1 := Lib.hid (h1.below b0)
  have H2 := Lib.hid (h2.below b0)
  clear h1 h2 b0
  go_enter Try.func16, Try.ntmps16
  go_wp2_with fail
  refine (eqDOmegaSS_same _ _ _ _ _ M _ H1.out H2.out hn hs).mono ?_
  rintro e w1 ⟨rfl, b1, s1⟩
  simp at s1
  go_wp2_with fail
  go_ret
  exact ⟨rfl, (by repeat (first | exact Below.refl _ _ | assumption | (refine Below.trans ?_ (Below.mono (by assumption) (by first | omega | (simp; done) | (simp; omega)))) | (with_reducible refine Below.drew ?_) | (with_reducible refine Below.alloc ?_ (by first | omega | (simp; done) | (simp; omega)) _) | (with_reducible refine Below.setCell ?_ (by first | omega | (simp; done) | (simp; omega)) _))), (by first | omega | (simp; done) | (simp; omega))⟩
set_option maxRecDepth 100000 in
set_option maxHeartbeats 1000000 in
theorem markBranch_any (b : Int) (A : Option Addr) (n c base : Nat) (M : List (List Dm)) (F : List Nat) (k : Int) (w : World) (hown : OwnM w base (.slice A n c) n M F) (hn : n ≤ 1099511627776) (hs : szM M ≤ 68719476736) (hk0 : 0 ≤ k) (hk1 : k ≤ 549755813888) :
    Calls Try.prog 18 #[.agg #[.int .i64 b, .slice A n c], .int .i64 k] w fun e w' => e = .returned (.int .i64 (k + 5 * szM M)) ∧ OwnM w' base (.slice A n c) n (markM k M) F ∧ Kin F w w' := by
  have b0 : Below w.heap.size w (w.alloc (.cells #[.int .i64 b, .slice A n c] 37)) := (by repeat (first | exact Below.refl _ _ | assumption | (refine Below.trans ?_ (Below.mono (by assumption) (by first | omega | (simp; done) | (simp; omega)))) | (with_reducible refine Below.drew ?_) | (with_reducible refine Below.alloc ?_ (by first | omega | (simp; done) | (simp; omega)) _) | (with_reducible refine Below.setCell ?_ (by first | omega | (simp; done) | (simp; omega)) _)))
  have K0 := Lib.hid (kin_of_below F b0)
  have H1 := Lib.hid (hown.below b0)
  clear hown b0
  go_enter Try.func18, Try.ntmps18
  go_wp2_with fail
  refine (markDOmegaSS_any _ _ base M F _ _ H1.out hn hs hk0 hk1).mono ?_
  rintro e w1 ⟨rfl, o1, k1⟩
  have HO := Lib.hid o1
  have HK := Lib.hid k1
  clear o1 k1
  go_wp2_with fail
  go_ret
  exact ⟨rfl, HO.out, K0.out.trans HK.out⟩
set_option maxRecDepth 100000 in
set_option maxHeartbeats 1000000 in
theorem heldBranch_any (b : Int) (A : Option Addr) (n c : Nat) (M : List (List Dm)) (k : Int) (w : World) (h : RdM w A n (markM k M)) (hn : n ≤ 1099511627776) (hs : szM M ≤ 68719476736) (hk0 : 0 ≤ k) (hk1 : k ≤ 549755813888) :
    Calls Try.prog 20 #[.agg #[.int .i64 b, .slice A n c], .int .i64 k] w fun e w' => e = .returned (.int .i64 (k + 5 * szM M)) ∧ Below w.heap.size w w' ∧ w.heap.size ≤ w'.heap.size := by
  have b0 : Below w.heap.size w (w.alloc (.cells #[.int .i64 b, .slice A n c] 37)) := (by repeat (first | exact Below.refl _ _ | assumption | (refine Below.trans ?_ (Below.mono (by assumption) (by first | omega | (simp; done) | (simp; omega)))) | (with_reducible refine Below.drew ?_) | (with_reducible refine Below.alloc ?_ (by first | omega | (simp; done) | (simp; omega)) _) | (with_reducible refine Below.setCell ?_ (by first | omega | (simp; done) | (simp; omega)) _)))
  have H1 := Lib.hid (h.below b0)
  clear h b0
  go_enter Try.func20, Try.ntmps20
  go_wp2_with fail
  refine (heldDOmegaSS_any _ _ _ M _ _ H1.out hn hs hk0 hk1).mono ?_
  rintro e w1 ⟨rfl, rfl⟩
  go_wp2_with fail
  go_ret
  exact ⟨rfl, (by repeat (first | exact Below.refl _ _ | assumption | (refine Below.trans ?_ (Below.mono (by assumption) (by first | omega | (simp; done) | (simp; omega)))) | (with_reducible refine Below.drew ?_) | (with_reducible refine Below.alloc ?_ (by first | omega | (simp; done) | (simp; omega)) _) | (with_reducible refine Below.setCell ?_ (by first | omega | (simp; done) | (simp; omega)) _))), (by first | omega | (simp; done) | (simp; omega))⟩
end Go.Proofs.Ytgmaokpebaebkaa
