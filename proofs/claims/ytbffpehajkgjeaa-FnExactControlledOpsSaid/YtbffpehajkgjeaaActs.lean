/- Whether a gate acts on a qubit: the program's function and the reference's compute the same. -/
import Derived.Test.YtbffpehajkgjeaaValid
import Derived.Test.YtbffpehajkgjeaaAppend
namespace Go.Proofs.Ytbffpehajkgjeaa
open Go.RowKit
set_option linter.unusedVariables false
theorem below_undrew {w w' : World} (h : Below w.drew.heap.size w.drew w') : Below w.heap.size w w' := ⟨h.os, h.tape, h.output, h.size, h.block⟩
theorem rd_pre {w : World} {cs : Array Value} {e b size n : Nat} {xs : List Value} (ys : List Value) (h0 : b = w.heap.size) (hx : cs.toList = xs ++ ys) (hl : xs.length = n * size) : Rd (w.alloc (.cells cs e)) size (some ⟨b, 0, none⟩) n xs := by
  subst h0
  refine ⟨hl, fun _ => ⟨_, 0, rfl, by simp, fun j u hu => ?_⟩⟩
  have := cells_row (heap_alloc_new w (.cells cs e)) ys hx j u hu
  rwa [Go.WideShapes.add_plain] at this
def actsG (g : Gt) (q : Int) : Bool := hasI ((qsOf g).take (ar g.k)) q
set_option maxRecDepth 100000 in
theorem ActsOn_spec (k a b c q : Int) (w : World) : Calls Try.prog 104 #[.agg #[.int .i64 k, .int .i64 a, .int .i64 b, .int .i64 c], .int .i64 q] w fun e w' =>
    e = .returned (.bool (actsG ⟨k, a, b, c⟩ q)) ∧ Below w.heap.size w w' ∧ w.heap.size ≤ w'.heap.size := by
  have har := ar_le k
  have HL : Hid (([a, b, c].take (ar k)).length = ar k) := Lib.hid (by rw [List.length_take]; simp; omega)
  go_enter Try.func104, Try.ntmps104
  go_wp2_with fail
  refine (GateQubits_spec _ _ _ _ _).mono ?_
  rintro e w1 ⟨v1, rfl, own1, b1, s1⟩
  simp at s1
  obtain ⟨A1, c1, rfl, _, _, r1⟩ := rd_of_own own1
  go_wp2_with fail
  refine (l1HasInt_any _ _ _ ([a, b, c].take (ar k)) _ _ r1 HL.out (by omega)).mono ?_
  rintro e w2 ⟨rfl, rfl⟩
  go_wp2_with fail
  go_ret
  exact ⟨rfl, (by repeat (first | exact Below.refl _ _ | assumption | (refine Below.trans ?_ (Below.mono (by assumption) (by first | omega | (simp; done) | (simp; omega)))) | (with_reducible refine Below.drew ?_) | (with_reducible refine Below.alloc ?_ (by first | omega | (simp; done) | (simp; omega)) _) | (with_reducible refine Below.setCell ?_ (by first | omega | (simp; done) | (simp; omega)) _))), (by first | omega | (simp; done) | (simp; omega))⟩
/-- A call that returns a slice that reads as xs. -/
def RetRd (size : Nat) (w : World) (n : Nat) (xs : List Value) (e : Ending) (w' : World) : Prop :=
  ∃ A c, e = .returned (.slice A n c) ∧ Rd w' size A n xs ∧ Below w.heap.size w w' ∧ w.heap.size ≤ w'.heap.size
set_option maxRecDepth 100000 in
set_option maxHeartbeats 1000000 in
theorem GateQubits_impl (k a b c : Int) (w : World) : Calls Try.prog 126 #[.agg #[.int .i64 k, .int .i64 a, .int .i64 b, .int .i64 c]] w
    (RetRd 1 w (ar k) (([a, b, c].take (ar k)).map (Value.int .i64))) := by
  have har := ar_le k
  obtain ⟨m, hm⟩ : ∃ m, m = ar k := ⟨_, rfl⟩
  have HM := Lib.hid hm
  rw [← hm] at har ⊢
  clear hm
  have hm4 : m = 0 ∨ m = 1 ∨ m = 2 ∨ m = 3 := by omega
  clear har
  rcases hm4 with rfl | rfl | rfl | rfl
  · go_enter Try.func126, Try.ntmps126
    go_wp2_with fail
    obtain ⟨w0, hw0⟩ : ∃ w0, w0 = w.alloc (.cells #[.int .i64 k, .int .i64 a, .int .i64 b, .int .i64 c] 46) := ⟨_, rfl⟩
    rw [← hw0]
    have x0 : Hid (w0.heap[w.heap.size]? = some (.cells #[.int .i64 k, .int .i64 a, .int .i64 b, .int .i64 c] 46 (0, 0))) := by rw [hw0]; exact boxed1_0 _ _
    have b0 : Below w.heap.size w w0 := by rw [hw0]; exact (by repeat (first | exact Below.refl _ _ | assumption | (refine Below.trans ?_ (Below.mono (by assumption) (by first | omega | (simp; done) | (simp; omega)))) | (with_reducible refine Below.drew ?_) | (with_reducible refine Below.alloc ?_ (by first | omega | (simp; done) | (simp; omega)) _) | (with_reducible refine Below.setCell ?_ (by first | omega | (simp; done) | (simp; omega)) _)))
    have s0 : w.heap.size < w0.heap.size := by rw [hw0]; simp
    clear hw0
    obtain ⟨p0, p1, p2, p3⟩ := boxcells4 (lay := Below.refl _ _) x0.out
    go_region_held3 (fun W => W.cell? ⟨w.heap.size, 0, none⟩ = some (.int .i64 k) ∧ W.cell? ⟨w.heap.size, 1, none⟩ = some (.int .i64 a) ∧ W.cell? ⟨w.heap.size, 2, none⟩ = some (.int .i64 b) ∧ W.cell? ⟨w.heap.size, 3, none⟩ = some (.int .i64 c))
      (first | exact ⟨p0, p1, p2, p3⟩ | (refine ⟨?_, ?_, ?_, ?_⟩ <;> (go_simp)))
      (first | (go_at_call 125; (with_reducible refine (Arity_impl _ _).mono ?_); rintro e w' ⟨rfl, rfl⟩; rw [← HM.out]))
    all_goals go_wp2_with fail
    all_goals go_ret
    all_goals exact ⟨_, _, rfl, rd_pre [.int .i64 a, .int .i64 b, .int .i64 c] rfl rfl rfl, (by repeat (first | exact Below.refl _ _ | assumption | (refine Below.trans ?_ (Below.mono (by assumption) (by first | omega | (simp; done) | (simp; omega)))) | (with_reducible refine Below.drew ?_) | (with_reducible refine Below.alloc ?_ (by first | omega | (simp; done) | (simp; omega)) _) | (with_reducible refine Below.setCell ?_ (by first | omega | (simp; done) | (simp; omega)) _))), (by first | omega | (simp; done) | (simp; omega))⟩
  · go_enter Try.func126, Try.ntmps126
    go_wp2_with fail
    obtain ⟨w0, hw0⟩ : ∃ w0, w0 = w.alloc (.cells #[.int .i64 k, .int .i64 a, .int .i64 b, .int .i64 c] 46) := ⟨_, rfl⟩
    rw [← hw0]
    have x0 : Hid (w0.heap[w.heap.size]? = some (.cells #[.int .i64 k, .int .i64 a, .int .i64 b, .int .i64 c] 46 (0, 0))) := by rw [hw0]; exact boxed1_0 _ _
    have b0 : Below w.heap.size w w0 := by rw [hw0]; exact (by repeat (first | exact Below.refl _ _ | assumption | (refine Below.trans ?_ (Below.mono (by assumption) (by first | omega | (simp; done) | (simp; omega)))) | (with_reducible refine Below.drew ?_) | (with_reducible refine Below.alloc ?_ (by first | omega | (simp; done) | (simp; omega)) _) | (with_reducible refine Below.setCell ?_ (by first | omega | (simp; done) | (simp; omega)) _)))
    have s0 : w.heap.size < w0.heap.size := by rw [hw0]; simp
    clear hw0
    obtain ⟨p0, p1, p2, p3⟩ := boxcells4 (lay := Below.refl _ _) x0.out
    go_region_held3 (fun W => W.cell? ⟨w.heap.size, 0, none⟩ = some (.int .i64 k) ∧ W.cell? ⟨w.heap.size, 1, none⟩ = some (.int .i64 a) ∧ W.cell? ⟨w.heap.size, 2, none⟩ = some (.int .i64 b) ∧ W.cell? ⟨w.heap.size, 3, none⟩ = some (.int .i64 c))
      (first | exact ⟨p0, p1, p2, p3⟩ | (refine ⟨?_, ?_, ?_, ?_⟩ <;> (go_simp)))
      (first | (go_at_call 125; (with_reducible refine (Arity_impl _ _).mono ?_); rintro e w' ⟨rfl, rfl⟩; rw [← HM.out]))
    all_goals go_wp2_with fail
    all_goals go_ret
    all_goals exact ⟨_, _, rfl, rd_pre [.int .i64 b, .int .i64 c] rfl rfl rfl, (by repeat (first | exact Below.refl _ _ | assumption | (refine Below.trans ?_ (Below.mono (by assumption) (by first | omega | (simp; done) | (simp; omega)))) | (with_reducible refine Below.drew ?_) | (with_reducible refine Below.alloc ?_ (by first | omega | (simp; done) | (simp; omega)) _) | (with_reducible refine Below.setCell ?_ (by first | omega | (simp; done) | (simp; omega)) _))), (by first | omega | (simp; done) | (simp; omega))⟩
  · go_enter Try.func126, Try.ntmps126
    go_wp2_with fail
    obtain ⟨w0, hw0⟩ : ∃ w0, w0 = w.alloc (.cells #[.int .i64 k, .int .i64 a, .int .i64 b, .int .i64 c] 46) := ⟨_, rfl⟩
    rw [← hw0]
    have x0 : Hid (w0.heap[w.heap.size]? = some (.cells #[.int .i64 k, .int .i64 a, .int .i64 b, .int .i64 c] 46 (0, 0))) := by rw [hw0]; exact boxed1_0 _ _
    have b0 : Below w.heap.size w w0 := by rw [hw0]; exact (by repeat (first | exact Below.refl _ _ | assumption | (refine Below.trans ?_ (Below.mono (by assumption) (by first | omega | (simp; done) | (simp; omega)))) | (with_reducible refine Below.drew ?_) | (with_reducible refine Below.alloc ?_ (by first | omega | (simp; done) | (simp; omega)) _) | (with_reducible refine Below.setCell ?_ (by first | omega | (simp; done) | (simp; omega)) _)))
    have s0 : w.heap.size < w0.heap.size := by rw [hw0]; simp
    clear hw0
    obtain ⟨p0, p1, p2, p3⟩ := boxcells4 (lay := Below.refl _ _) x0.out
    go_region_held3 (fun W => W.cell? ⟨w.heap.size, 0, none⟩ = some (.int .i64 k) ∧ W.cell? ⟨w.heap.size, 1, none⟩ = some (.int .i64 a) ∧ W.cell? ⟨w.heap.size, 2, none⟩ = some (.int .i64 b) ∧ W.cell? ⟨w.heap.size, 3, none⟩ = some (.int .i64 c))
      (first | exact ⟨p0, p1, p2, p3⟩ | (refine ⟨?_, ?_, ?_, ?_⟩ <;> (go_simp)))
      (first | (go_at_call 125; (with_reducible refine (Arity_impl _ _).mono ?_); rintro e w' ⟨rfl, rfl⟩; rw [← HM.out]))
    all_goals go_wp2_with fail
    all_goals go_ret
    all_goals exact ⟨_, _, rfl, rd_pre [.int .i64 c] rfl rfl rfl, (by repeat (first | exact Below.refl _ _ | assumption | (refine Below.trans ?_ (Below.mono (by assumption) (by first | omega | (simp; done) | (simp; omega)))) | (with_reducible refine Below.drew ?_) | (with_reducible refine Below.alloc ?_ (by first | omega | (simp; done) | (simp; omega)) _) | (with_reducible refine Below.setCell ?_ (by first | omega | (simp; done) | (simp; omega)) _))), (by first | omega | (simp; done) | (simp; omega))⟩
  · go_enter Try.func126, Try.ntmps126
    go_wp2_with fail
    obtain ⟨w0, hw0⟩ : ∃ w0, w0 = w.alloc (.cells #[.int .i64 k, .int .i64 a, .int .i64 b, .int .i64 c] 46) := ⟨_, rfl⟩
    rw [← hw0]
    have x0 : Hid (w0.heap[w.heap.size]? = some (.cells #[.int .i64 k, .int .i64 a, .int .i64 b, .int .i64 c] 46 (0, 0))) := by rw [hw0]; exact boxed1_0 _ _
    have b0 : Below w.heap.size w w0 := by rw [hw0]; exact (by repeat (first | exact Below.refl _ _ | assumption | (refine Below.trans ?_ (Below.mono (by assumption) (by first | omega | (simp; done) | (simp; omega)))) | (with_reducible refine Below.drew ?_) | (with_reducible refine Below.alloc ?_ (by first | omega | (simp; done) | (simp; omega)) _) | (with_reducible refine Below.setCell ?_ (by first | omega | (simp; done) | (simp; omega)) _)))
    have s0 : w.heap.size < w0.heap.size := by rw [hw0]; simp
    clear hw0
    obtain ⟨p0, p1, p2, p3⟩ := boxcells4 (lay := Below.refl _ _) x0.out
    go_region_held3 (fun W => W.cell? ⟨w.heap.size, 0, none⟩ = some (.int .i64 k) ∧ W.cell? ⟨w.heap.size, 1, none⟩ = some (.int .i64 a) ∧ W.cell? ⟨w.heap.size, 2, none⟩ = some (.int .i64 b) ∧ W.cell? ⟨w.heap.size, 3, none⟩ = some (.int .i64 c))
      (first | exact ⟨p0, p1, p2, p3⟩ | (refine ⟨?_, ?_, ?_, ?_⟩ <;> (go_simp)))
      (first | (go_at_call 125; (with_reducible refine (Arity_impl _ _).mono ?_); rintro e w' ⟨rfl, rfl⟩; rw [← HM.out]))
    all_goals go_wp2_with fail
    all_goals go_ret
    all_goals exact ⟨_, _, rfl, rd_pre [] rfl rfl rfl, (by repeat (first | exact Below.refl _ _ | assumption | (refine Below.trans ?_ (Below.mono (by assumption) (by first | omega | (simp; done) | (simp; omega)))) | (with_reducible refine Below.drew ?_) | (with_reducible refine Below.alloc ?_ (by first | omega | (simp; done) | (simp; omega)) _) | (with_reducible refine Below.setCell ?_ (by first | omega | (simp; done) | (simp; omega)) _))), (by first | omega | (simp; done) | (simp; omega))⟩
set_option maxRecDepth 100000 in
set_option maxHeartbeats 1000000 in
theorem ActsOn_impl (k a b c q : Int) (w : World) : Calls Try.prog 106 #[.agg #[.int .i64 k, .int .i64 a, .int .i64 b, .int .i64 c], .int .i64 q] w fun e w' =>
    e = .returned (.bool (actsG ⟨k, a, b, c⟩ q)) ∧ Below w.heap.size w w' ∧ w.heap.size ≤ w'.heap.size := by
  have har := ar_le k
  obtain ⟨xs, hxs⟩ : ∃ xs, xs = [a, b, c].take (ar k) := ⟨_, rfl⟩
  have HL : Hid (xs.length = ar k) := Lib.hid (by rw [hxs, List.length_take]; simp; omega)
  have HA : Hid (actsG ⟨k, a, b, c⟩ q = hasI xs q) := Lib.hid (by rw [hxs]; rfl)
  have HX := Lib.hid hxs
  clear hxs
  obtain ⟨m, hm⟩ : ∃ m, m = ar k := ⟨_, rfl⟩
  have HM := Lib.hid hm
  rw [← hm] at HL har
  clear hm
  go_enter Try.func106, Try.ntmps106
  go_wp2_with fail
  refine (GateQubits_impl _ _ _ _ _).mono ?_
  rintro e w1 ⟨A1, c1, rfl, r1, b1, s1⟩
  simp at s1
  rw [← HX.out, ← HM.out] at r1
  rw [← HM.out]
  have R1 := Lib.hid r1
  clear r1
  go_wp2_with fail
  go_loop [10] (fun i => ∃ t : Nat, t ≤ m ∧ i = .int .i64 t ∧ hasI (xs.take t) q = false) (fun i => m - (intOf i).toNat)
  case atStart => exact ⟨0, Nat.zero_le _, rfl, by simp [hasI]⟩
  case round =>
    obtain ⟨t, ht, rfl, hno⟩ := hrel
    have HN := Lib.hid hno
    clear hno
    by_cases hlt : t < m
    · obtain ⟨b', off, rfl, _, hc⟩ := R1.out.2 (by omega)
      have q0 := hc t _ (ints_at xs t (by rw [HL.out]; exact hlt))
      clear hc
      obtain ⟨y, hy⟩ : ∃ y, y = xs.getD t 0 := ⟨_, rfl⟩
      rw [← hy] at q0
      have HY := Lib.hid hy
      clear hy
      cases he : (y == q)
      · go_wp2
        go_round
        case rel => exact ⟨t + 1, by omega, by go_num, contains_snoc_f (by rw [HL.out]; exact hlt) HN.out (by rw [← HY.out]; exact he)⟩
        case measure => simp [intOf]; omega
      · have HF : Hid (hasI xs q = true) := Lib.hid (contains_at (by rw [HL.out]; exact hlt) (by rw [← HY.out]; exact he))
        go_wp2
        go_ret
        exact ⟨by rw [HA.out, HF.out]; rfl, (by repeat (first | exact Below.refl _ _ | assumption | (refine Below.trans ?_ (Below.mono (by assumption) (by first | omega | (simp; done) | (simp; omega)))) | (with_reducible refine Below.drew ?_) | (with_reducible refine Below.alloc ?_ (by first | omega | (simp; done) | (simp; omega)) _) | (with_reducible refine Below.setCell ?_ (by first | omega | (simp; done) | (simp; omega)) _))), (by first | omega | (simp; done) | (simp; omega))⟩
    · obtain rfl : t = m := by omega
      have HF : Hid (hasI xs q = false) := by
        have h := HN.out
        rw [List.take_of_length_le (by rw [HL.out]; exact Nat.le_refl _)] at h
        exact h
      go_wp2
      go_ret
      exact ⟨by rw [HA.out, HF.out]; rfl, (by repeat (first | exact Below.refl _ _ | assumption | (refine Below.trans ?_ (Below.mono (by assumption) (by first | omega | (simp; done) | (simp; omega)))) | (with_reducible refine Below.drew ?_) | (with_reducible refine Below.alloc ?_ (by first | omega | (simp; done) | (simp; omega)) _) | (with_reducible refine Below.setCell ?_ (by first | omega | (simp; done) | (simp; omega)) _))), (by first | omega | (simp; done) | (simp; omega))⟩
end Go.Proofs.Ytbffpehajkgjeaa
