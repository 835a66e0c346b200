/- Whether a gate acts on a qubit: the program's function and the reference's compute the same. -/
import Derived.Test.YtijocafindbebaaDoorValid
import Derived.Test.YtijocafindbebaaDoorAppend
namespace Go.Proofs.YtijocafindbebaaDoor
open Go.RowKit
set_option linter.unusedVariables false
theorem below_undrew {w w' : World} (h : Below w.drew.heap.size w.drew w') : Below w.heap.size w w' := ⟨h.os, h.tape, h.output, h.size, h.block⟩
theorem rd_pre {w : World} {cs : Array Value} {e b size n : Nat} {xs : List Value} (ys : List Value) (h0 : b = w.heap.size) (hx : cs.toList = xs ++ ys) (hl : xs.length = n * size) : Rd (w.alloc (.cells cs e)) size (some ⟨b, 0, none⟩) n xs := by
  subst h0
  refine ⟨hl, fun _ => ⟨_, 0, rfl, by simp, fun j u hu => ?_⟩⟩
  have := cells_row (heap_alloc_new w (.cells cs e)) ys hx j u hu
  rwa [Go.WideShapes.add_plain] at this
def actsG (g : Gt) (q : Int) : Bool := hasI ((qsOf g).take (ar g.k)) q
/-- A call that returns a slice that reads as xs. -/
def RetRd (size : Nat) (w : World) (n : Nat) (xs : List Value) (e : Ending) (w' : World) : Prop :=
  ∃ A c, e = .returned (.slice A n c) ∧ Rd w' size A n xs ∧ Below w.heap.size w w' ∧ w.heap.size ≤ w'.heap.size
set_option maxRecDepth 100000 in
set_option maxHeartbeats 1000000 in
theorem GateQubits_impl (k a b c : Int) (w : World) : Calls Tryd.prog 108 #[.agg #[.int .i64 k, .int .i64 a, .int .i64 b, .int .i64 c]] w
    (RetRd 1 w (ar k) (([a, b, c].take (ar k)).map (Value.int .i64))) := by
  have har := ar_le k
  obtain ⟨m, hm⟩ : ∃ m, m = ar k := ⟨_, rfl⟩
  have HM := Lib.hid hm
  rw [← hm] at har ⊢
  clear hm
  have hm4 : m = 0 ∨ m = 1 ∨ m = 2 ∨ m = 3 := by omega
  clear har
  rcases hm4 with rfl | rfl | rfl | rfl
  · go_enter Tryd.func108, Tryd.ntmps108
    go_wp2_with fail
    obtain ⟨w0, hw0⟩ : ∃ w0, w0 = w.alloc (.cells #[.int .i64 k, .int .i64 a, .int .i64 b, .int .i64 c] 64) := ⟨_, rfl⟩
    rw [← hw0]
    have x0 : Hid (w0.heap[w.heap.size]? = some (.cells #[.int .i64 k, .int .i64 a, .int .i64 b, .int .i64 c] 64 (0, 0))) := by rw [hw0]; exact boxed1_0 _ _
    have b0 : Below w.heap.size w w0 := by rw [hw0]; exact (by repeat (first | exact Below.refl _ _ | assumption | (refine Below.trans ?_ (Below.mono (by assumption) (by first | omega | (simp; done) | (simp; omega)))) | (with_reducible refine Below.drew ?_) | (with_reducible refine Below.alloc ?_ (by first | omega | (simp; done) | (simp; omega)) _) | (with_reducible refine Below.setCell ?_ (by first | omega | (simp; done) | (simp; omega)) _)))
    have s0 : w.heap.size < w0.heap.size := by rw [hw0]; simp
    clear hw0
    obtain ⟨p0, p1, p2, p3⟩ := boxcells4 (lay := Below.refl _ _) x0.out
    go_region_held3 (fun W => W.cell? ⟨w.heap.size, 0, none⟩ = some (.int .i64 k) ∧ W.cell? ⟨w.heap.size, 1, none⟩ = some (.int .i64 a) ∧ W.cell? ⟨w.heap.size, 2, none⟩ = some (.int .i64 b) ∧ W.cell? ⟨w.heap.size, 3, none⟩ = some (.int .i64 c))
      (first | exact ⟨p0, p1, p2, p3⟩ | (refine ⟨?_, ?_, ?_, ?_⟩ <;> (go_simp)))
      (first | (go_at_call 53; (with_reducible refine (Arity_impl _ _).mono ?_); rintro e w' ⟨rfl, rfl⟩; rw [← HM.out]))
    all_goals go_wp2_with fail
    all_goals go_ret
    all_goals exact ⟨_, _, rfl, rd_pre [.int .i64 a, .int .i64 b, .int .i64 c] rfl rfl rfl, (by repeat (first | exact Below.refl _ _ | assumption | (refine Below.trans ?_ (Below.mono (by assumption) (by first | omega | (simp; done) | (simp; omega)))) | (with_reducible refine Below.drew ?_) | (with_reducible refine Below.alloc ?_ (by first | omega | (simp; done) | (simp; omega)) _) | (with_reducible refine Below.setCell ?_ (by first | omega | (simp; done) | (simp; omega)) _))), (by first | omega | (simp; done) | (simp; omega))⟩
  · go_enter Tryd.func108, Tryd.ntmps108
    go_wp2_with fail
    obtain ⟨w0, hw0⟩ : ∃ w0, w0 = w.alloc (.cells #[.int .i64 k, .int .i64 a, .int .i64 b, .int .i64 c] 64) := ⟨_, rfl⟩
    rw [← hw0]
    have x0 : Hid (w0.heap[w.heap.size]? = some (.cells #[.int .i64 k, .int .i64 a, .int .i64 b, .int .i64 c] 64 (0, 0))) := by rw [hw0]; exact boxed1_0 _ _
    have b0 : Below w.heap.size w w0 := by rw [hw0]; exact (by repeat (first | exact Below.refl _ _ | assumption | (refine Below.trans ?_ (Below.mono (by assumption) (by first | omega | (simp; done) | (simp; omega)))) | (with_reducible refine Below.drew ?_) | (with_reducible refine Below.alloc ?_ (by first | omega | (simp; done) | (simp; omega)) _) | (with_reducible refine Below.setCell ?_ (by first | omega | (simp; done) | (simp; omega)) _)))
    have s0 : w.heap.size < w0.heap.size := by rw [hw0]; simp
    clear hw0
    obtain ⟨p0, p1, p2, p3⟩ := boxcells4 (lay := Below.refl _ _) x0.out
    go_region_held3 (fun W => W.cell? ⟨w.heap.size, 0, none⟩ = some (.int .i64 k) ∧ W.cell? ⟨w.heap.size, 1, none⟩ = some (.int .i64 a) ∧ W.cell? ⟨w.heap.size, 2, none⟩ = some (.int .i64 b) ∧ W.cell? ⟨w.heap.size, 3, none⟩ = some (.int .i64 c))
      (first | exact ⟨p0, p1, p2, p3⟩ | (refine ⟨?_, ?_, ?_, ?_⟩ <;> (go_simp)))
      (first | (go_at_call 53; (with_reducible refine (Arity_impl _ _).mono ?_); rintro e w' ⟨rfl, rfl⟩; rw [← HM.out]))
    all_goals go_wp2_with fail
    all_goals go_ret
    all_goals exact ⟨_, _, rfl, rd_pre [.int .i64 b, .int .i64 c] rfl rfl rfl, (by repeat (first | exact Below.refl _ _ | assumption | (refine Below.trans ?_ (Below.mono (by assumption) (by first | omega | (simp; done) | (simp; omega)))) | (with_reducible refine Below.drew ?_) | (with_reducible refine Below.alloc ?_ (by first | omega | (simp; done) | (simp; omega)) _) | (with_reducible refine Below.setCell ?_ (by first | omega | (simp; done) | (simp; omega)) _))), (by first | omega | (simp; done) | (simp; omega))⟩
  · go_enter Tryd.func108, Tryd.ntmps108
    go_wp2_with fail
    obtain ⟨w0, hw0⟩ : ∃ w0, w0 = w.alloc (.cells #[.int .i64 k, .int .i64 a, .int .i64 b, .int .i64 c] 64) := ⟨_, rfl⟩
    rw [← hw0]
    have x0 : Hid (w0.heap[w.heap.size]? = some (.cells #[.int .i64 k, .int .i64 a, .int .i64 b, .int .i64 c] 64 (0, 0))) := by rw [hw0]; exact boxed1_0 _ _
    have b0 : Below w.heap.size w w0 := by rw [hw0]; exact (by repeat (first | exact Below.refl _ _ | assumption | (refine Below.trans ?_ (Below.mono (by assumption) (by first | omega | (simp; done) | (simp; omega)))) | (with_reducible refine Below.drew ?_) | (with_reducible refine Below.alloc ?_ (by first | omega | (simp; done) | (simp; omega)) _) | (with_reducible refine Below.setCell ?_ (by first | omega | (simp; done) | (simp; omega)) _)))
    have s0 : w.heap.size < w0.heap.size := by rw [hw0]; simp
    clear hw0
    obtain ⟨p0, p1, p2, p3⟩ := boxcells4 (lay := Below.refl _ _) x0.out
    go_region_held3 (fun W => W.cell? ⟨w.heap.size, 0, none⟩ = some (.int .i64 k) ∧ W.cell? ⟨w.heap.size, 1, none⟩ = some (.int .i64 a) ∧ W.cell? ⟨w.heap.size, 2, none⟩ = some (.int .i64 b) ∧ W.cell? ⟨w.heap.size, 3, none⟩ = some (.int .i64 c))
      (first | exact ⟨p0, p1, p2, p3⟩ | (refine ⟨?_, ?_, ?_, ?_⟩ <;> (go_simp)))
      (first | (go_at_call 53; (with_reducible refine (Arity_impl _ _).mono ?_); rintro e w' ⟨rfl, rfl⟩; rw [← HM.out]))
    all_goals go_wp2_with fail
    all_goals go_ret
    all_goals exact ⟨_, _, rfl, rd_pre [.int .i64 c] rfl rfl rfl, (by repeat (first | exact Below.refl _ _ | assumption | (refine Below.trans ?_ (Below.mono (by assumption) (by first | omega | (simp; done) | (simp; omega)))) | (with_reducible refine Below.drew ?_) | (with_reducible refine Below.alloc ?_ (by first | omega | (simp; done) | (simp; omega)) _) | (with_reducible refine Below.setCell ?_ (by first | omega | (simp; done) | (simp; omega)) _))), (by first | omega | (simp; done) | (simp; omega))⟩
  · go_enter Tryd.func108, Tryd.ntmps108
    go_wp2_with fail
    obtain ⟨w0, hw0⟩ : ∃ w0, w0 = w.alloc (.cells #[.int .i64 k, .int .i64 a, .int .i64 b, .int .i64 c] 64) := ⟨_, rfl⟩
    rw [← hw0]
    have x0 : Hid (w0.heap[w.heap.size]? = some (.cells #[.int .i64 k, .int .i64 a, .int .i64 b, .int .i64 c] 64 (0, 0))) := by rw [hw0]; exact boxed1_0 _ _
    have b0 : Below w.heap.size w w0 := by rw [hw0]; exact (by repeat (first | exact Below.refl _ _ | assumption | (refine Below.trans ?_ (Below.mono (by assumption) (by first | omega | (simp; done) | (simp; omega)))) | (with_reducible refine Below.drew ?_) | (with_reducible refine Below.alloc ?_ (by first | omega | (simp; done) | (simp; omega)) _) | (with_reducible refine Below.setCell ?_ (by first | omega | (simp; done) | (simp; omega)) _)))
    have s0 : w.heap.size < w0.heap.size := by rw [hw0]; simp
    clear hw0
    obtain ⟨p0, p1, p2, p3⟩ := boxcells4 (lay := Below.refl _ _) x0.out
    go_region_held3 (fun W => W.cell? ⟨w.heap.size, 0, none⟩ = some (.int .i64 k) ∧ W.cell? ⟨w.heap.size, 1, none⟩ = some (.int .i64 a) ∧ W.cell? ⟨w.heap.size, 2, none⟩ = some (.int .i64 b) ∧ W.cell? ⟨w.heap.size, 3, none⟩ = some (.int .i64 c))
      (first | exact ⟨p0, p1, p2, p3⟩ | (refine ⟨?_, ?_, ?_, ?_⟩ <;> (go_simp)))
      (first | (go_at_call 53; (with_reducible refine (Arity_impl _ _).mono ?_); rintro e w' ⟨rfl, rfl⟩; rw [← HM.out]))
    all_goals go_wp2_with fail
    all_goals go_ret
    all_goals exact ⟨_, _, rfl, rd_pre [] rfl rfl rfl, (by repeat (first | exact Below.refl _ _ | assumption | (refine Below.trans ?_ (Below.mono (by assumption) (by first | omega | (simp; done) | (simp; omega)))) | (with_reducible refine Below.drew ?_) | (with_reducible refine Below.alloc ?_ (by first | omega | (simp; done) | (simp; omega)) _) | (with_reducible refine Below.setCell ?_ (by first | omega | (simp; done) | (simp; omega)) _))), (by first | omega | (simp; done) | (simp; omega))⟩
end Go.Proofs.YtijocafindbebaaDoor
