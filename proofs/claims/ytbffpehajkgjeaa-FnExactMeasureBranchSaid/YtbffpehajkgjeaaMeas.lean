/- Measuring a qubit of a branch: the program's function and the reference's return the same branches, for all numbers. -/
import Derived.Test.YtbffpehajkgjeaaMeasI
namespace Go.Proofs.Ytbffpehajkgjeaa
open Go.RowKit
set_option linter.unusedVariables false
def okM (q bit : Int) : Bool := inB bit 0 2 && inB q 0 3
def measL (b : Int) (M : List (List Dm)) (q bit : Int) : List Br := if okM q bit = true then measTo b M q bit 2 else []
theorem measL_t {b : Int} {M : List (List Dm)} {q bit : Int} (h : okM q bit = true) : measL b M q bit = measTo b M q bit 2 := by rw [measL, if_pos h]
theorem measL_f {b : Int} {M : List (List Dm)} {q bit : Int} (h : okM q bit = false) : measL b M q bit = [] := by rw [measL, if_neg (by rw [h]; decide)]
theorem retB_len {w w' : World} {m : Nat} {L : List Br} {e : Ending} (h : RetB w m L e w') : RetB w L.length L e w' := by
  obtain ⟨v, F, h1, h2, h3⟩ := h
  obtain ⟨S, F', h4, h5⟩ := h2
  subst h4
  exact ⟨v, F, h1, ⟨S, F', rfl, h5⟩, h3⟩
theorem szB_measTo (b : Int) (M : List (List Dm)) (q bit : Int) : ∀ t, szB (measTo b M q bit t) ≤ t * (M.length + szM M)
  | 0 => by simp [measTo, szB]
  | t + 1 => by
    have h := szB_measTo b M q bit t
    have h1 : szB (measOne b M q bit t) ≤ M.length + szM M := by
      unfold measOne
      split
      · simp [szB, szM_side]
      · simp [szB]
    have h2 : szB (measTo b M q bit (t + 1)) = szB (measTo b M q bit t) + szB (measOne b M q bit t) := by simp [measTo, szB]
    rw [h2, Nat.add_mul]
    omega
theorem measL_sz (b : Int) (M : List (List Dm)) (q bit : Int) : szB (measL b M q bit) ≤ 2 * (M.length + szM M) ∧ (measL b M q bit).length ≤ 2 := by
  cases h : okM q bit
  · rw [measL_f h]; simp [szB]
  · rw [measL_t h]
    exact ⟨szB_measTo b M q bit 2, measTo_len b M q bit 2⟩
set_option maxRecDepth 100000 in
set_option maxHeartbeats 2000000 in
theorem MeasureBranch_spec (b : Int) (A : Option Addr) (n c : Nat) (M : List (List Dm)) (q bit : Int) (w : World) (h : RdM w A n M) (hn : n ≤ 68719476736) (hs : szM M ≤ 1099511627776) :
    Calls Try.prog 51 #[.agg #[.int .i64 b, .slice A n c], .int .i64 q, .int .i64 bit] w (RetB w (measL b M q bit).length (measL b M q bit)) := by
  cases hk : okM q bit
  · rw [measL_f hk]
    clear h
    have hO : OwnB ((w.alloc (.cells #[.int .i64 b, .slice A n c] 59)).alloc (.cells #[] 59)) (w.heap.size + 1) (.slice (some ⟨w.heap.size + 1, 0, none⟩) 0 0) 0 [] [w.heap.size + 1] := by
      have := ownB_empty (w.alloc (.cells #[.int .i64 b, .slice A n c] 59))
      simpa using this
    have HO := Lib.hid hO
    clear hO
    cases h1 : inB bit 0 2
    · clear hk
      go_enter Try.func51, Try.ntmps51
      go_wp2_with (go_at_call 64; refine (l1In_any _ _ _ _).mono ?_; rintro e w' ⟨rfl, rfl⟩)
      go_ret
      exact ⟨_, _, rfl, HO.out.base_le (by omega), (by repeat (first | exact Below.refl _ _ | assumption | (refine Below.trans ?_ (Below.mono (by assumption) (by first | omega | (simp; done) | (simp; omega)))) | (with_reducible refine Below.drew ?_) | (with_reducible refine Below.alloc ?_ (by first | omega | (simp; done) | (simp; omega)) _) | (with_reducible refine Below.setCell ?_ (by first | omega | (simp; done) | (simp; omega)) _))), (by first | omega | (simp; done) | (simp; omega))⟩
    · have h2 : inB q 0 3 = false := by simpa [okM, h1] using hk
      clear hk
      go_enter Try.func51, Try.ntmps51
      go_wp2_with (go_at_call 64; refine (l1In_any _ _ _ _).mono ?_; rintro e w' ⟨rfl, rfl⟩)
      go_ret
      exact ⟨_, _, rfl, HO.out.base_le (by omega), (by repeat (first | exact Below.refl _ _ | assumption | (refine Below.trans ?_ (Below.mono (by assumption) (by first | omega | (simp; done) | (simp; omega)))) | (with_reducible refine Below.drew ?_) | (with_reducible refine Below.alloc ?_ (by first | omega | (simp; done) | (simp; omega)) _) | (with_reducible refine Below.setCell ?_ (by first | omega | (simp; done) | (simp; omega)) _))), (by first | omega | (simp; done) | (simp; omega))⟩
  · rw [measL_t hk]
    simp only [okM, Bool.and_eq_true] at hk
    have h1 := inB_iff.1 hk.1
    have h2 := inB_iff.1 hk.2
    exact (MeasureBranch_spec_ok b A n c M q bit w h hn hs h2.1 h2.2 h1.1 h1.2).mono fun e w' ⟨m, h⟩ => retB_len h
set_option maxRecDepth 100000 in
set_option maxHeartbeats 2000000 in
theorem MeasureBranch_impl (b : Int) (A : Option Addr) (n c : Nat) (M : List (List Dm)) (q bit : Int) (w : World) (h : RdM w A n M) (hn : n ≤ 68719476736) (hs : szM M ≤ 1099511627776) :
    Calls Try.prog 53 #[.agg #[.int .i64 b, .slice A n c], .int .i64 q, .int .i64 bit] w (RetB w (measL b M q bit).length (measL b M q bit)) := by
  cases hk : okM q bit
  · rw [measL_f hk]
    clear h
    cases h1 : inB bit 0 2
    · clear hk
      go_enter Try.func53, Try.ntmps53
      go_wp2_with (go_at_call 66; refine (in_any _ _ _ _).mono ?_; rintro e w' ⟨rfl, rfl⟩)
      go_ret
      exact ⟨_, _, rfl, ownB_nil _ _, (by repeat (first | exact Below.refl _ _ | assumption | (refine Below.trans ?_ (Below.mono (by assumption) (by first | omega | (simp; done) | (simp; omega)))) | (with_reducible refine Below.drew ?_) | (with_reducible refine Below.alloc ?_ (by first | omega | (simp; done) | (simp; omega)) _) | (with_reducible refine Below.setCell ?_ (by first | omega | (simp; done) | (simp; omega)) _))), (by first | omega | (simp; done) | (simp; omega))⟩
    · have h2 : inB q 0 3 = false := by simpa [okM, h1] using hk
      clear hk
      go_enter Try.func53, Try.ntmps53
      go_wp2_with (go_at_call 66; refine (in_any _ _ _ _).mono ?_; rintro e w' ⟨rfl, rfl⟩)
      go_ret
      exact ⟨_, _, rfl, ownB_nil _ _, (by repeat (first | exact Below.refl _ _ | assumption | (refine Below.trans ?_ (Below.mono (by assumption) (by first | omega | (simp; done) | (simp; omega)))) | (with_reducible refine Below.drew ?_) | (with_reducible refine Below.alloc ?_ (by first | omega | (simp; done) | (simp; omega)) _) | (with_reducible refine Below.setCell ?_ (by first | omega | (simp; done) | (simp; omega)) _))), (by first | omega | (simp; done) | (simp; omega))⟩
  · rw [measL_t hk]
    simp only [okM, Bool.and_eq_true] at hk
    have h1 := inB_iff.1 hk.1
    have h2 := inB_iff.1 hk.2
    exact (MeasureBranch_impl_ok b A n c M q bit w h hn hs h2.1 h2.2 h1.1 h1.2).mono fun e w' ⟨m, h⟩ => retB_len h
end Go.Proofs.Ytbffpehajkgjeaa
