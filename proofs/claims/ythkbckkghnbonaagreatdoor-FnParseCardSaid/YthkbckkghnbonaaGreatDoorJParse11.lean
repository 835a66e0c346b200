/- What the calls that this law reaches answer, part 11 of 16. -/
import Derived.Test.YthkbckkghnbonaaGreatDoorJParse10
namespace Go.Proofs.YthkbckkghnbonaaGreatDoor
open Go.RowKit
set_option linter.unusedVariables false
theorem bdrew {w w' : World} (h : Below w.drew.heap.size w.drew w') : Below w.heap.size w w' := ⟨h.os, h.tape, h.output, h.size, h.block⟩
def pgR (c1 c2 c3 : Bool) (N T m : Nat) : Bool := c1 && (c2 && (c3 && (decide (N ≤ 4) && decide (T + m + 2 ≤ 160))))
def progV (d : Nat) (qs : List ByteArray) (bd : List (Tr d)) : Bool := pgR (inB qs.length 1 4) (allW qs) (validT d bd) (nestT d bd) (tokT d bd) qs.length
set_option maxRecDepth 100000 in
set_option maxHeartbeats 8000000 in
theorem pgm_spec_1 (Aq : Option Addr) (m cq : Nat) (Ab : Option Addr) (nb cb : Nat) (w : World) (c1 c2 c3 : Bool) (N T : Nat) (hm : m ≤ 1048576) (hT0 : T ≤ 8388608) (hc1 : c1 = false)
    (h1 : ∀ w', Calls Tryz.prog 47 #[.int .i64 m, .int .i64 1, .int .i64 4] w' fun e w'' => e = .returned (.bool c1) ∧ w' = w'')
    (h2 : ∀ w', Below w.heap.size w w' → Calls Tryz.prog 48 #[.slice Aq m cq] w' fun e w'' => e = .returned (.bool c2) ∧ w' = w'')
    (h3 : ∀ w', Below w.heap.size w w' → Calls Tryz.prog 49 #[.slice Ab nb cb] w' fun e w'' => e = .returned (.bool c3) ∧ Below w'.heap.size w' w'' ∧ w'.heap.size ≤ w''.heap.size)
    (h4 : ∀ w', Below w.heap.size w w' → Calls Tryz.prog 50 #[.slice Ab nb cb] w' fun e w'' => e = .returned (.int .i64 N) ∧ Below w'.heap.size w' w'' ∧ w'.heap.size ≤ w''.heap.size)
    (h5 : ∀ w', Below w.heap.size w w' → Calls Tryz.prog 51 #[.slice Ab nb cb] w' fun e w'' => e = .returned (.int .i64 T) ∧ Below w'.heap.size w' w'' ∧ w'.heap.size ≤ w''.heap.size) :
    Calls Tryz.prog 12 #[.agg #[.slice Aq m cq, .slice Ab nb cb]] w fun e w' => e = .returned (.bool (pgR c1 c2 c3 N T m)) ∧ Below w.heap.size w w' ∧ w.heap.size ≤ w'.heap.size := by
  subst hc1
  obtain ⟨w0, hw0⟩ : ∃ w0, w0 = w.alloc (.cells #[.slice Aq m cq, .slice Ab nb cb] 27) := ⟨_, rfl⟩
  have X0 := Lib.hid (show w0.heap[w.heap.size]? = some (.cells #[.slice Aq m cq, .slice Ab nb cb] 27 (0, 0)) by rw [hw0]; exact boxed1_0 _ _)
  have b0 : Below w.heap.size w w0 := by rw [hw0]; exact (by repeat (first | exact Below.refl _ _ | assumption | (refine Below.trans ?_ (Below.mono (by assumption) (by first | omega | (simp; done) | (simp; omega)))) | (with_reducible refine Below.drew ?_) | (with_reducible refine Below.alloc ?_ (by first | omega | (simp; done) | (simp; omega)) _) | (with_reducible refine Below.setCell ?_ (by first | omega | (simp; done) | (simp; omega)) _)))
  have hs0 : w.heap.size ≤ w0.heap.size := b0.size
  obtain ⟨p0, p1⟩ := boxcells2 (lay := Below.refl _ _) X0.out
  have B0 := Lib.hid b0
  have HW := Lib.hid hw0
  have H1 := Lib.hid h1
  have H2 := Lib.hid h2
  have H3 := Lib.hid h3
  have H4 := Lib.hid h4
  have H5 := Lib.hid h5
  clear b0 hw0 h1 h2 h3 h4 h5
  have HF := Lib.hid (show pgR false c2 c3 N T m = false by simp [pgR])
  go_enter Tryz.func12, Tryz.ntmps12
  go_wp2_with fail
  rw [← HW.out]
  go_quiet (first | (go_at_call 47; exact Calls.quiet_of_same ((H1.out _).mono fun _ _ h => ⟨h.1, h.2.symm⟩)))
  go_wp2_with fail
  go_ret
  exact ⟨by rw [HF.out]; rfl, below_drewN B0.out _, (below_drewN B0.out _).size⟩
set_option maxRecDepth 100000 in
set_option maxHeartbeats 8000000 in
theorem pgm_spec_2 (Aq : Option Addr) (m cq : Nat) (Ab : Option Addr) (nb cb : Nat) (w : World) (c1 c2 c3 : Bool) (N T : Nat) (hm : m ≤ 1048576) (hT0 : T ≤ 8388608) (hc1 : c1 = true) (hc2 : c2 = false)
    (h1 : ∀ w', Calls Tryz.prog 47 #[.int .i64 m, .int .i64 1, .int .i64 4] w' fun e w'' => e = .returned (.bool c1) ∧ w' = w'')
    (h2 : ∀ w', Below w.heap.size w w' → Calls Tryz.prog 48 #[.slice Aq m cq] w' fun e w'' => e = .returned (.bool c2) ∧ w' = w'')
    (h3 : ∀ w', Below w.heap.size w w' → Calls Tryz.prog 49 #[.slice Ab nb cb] w' fun e w'' => e = .returned (.bool c3) ∧ Below w'.heap.size w' w'' ∧ w'.heap.size ≤ w''.heap.size)
    (h4 : ∀ w', Below w.heap.size w w' → Calls Tryz.prog 50 #[.slice Ab nb cb] w' fun e w'' => e = .returned (.int .i64 N) ∧ Below w'.heap.size w' w'' ∧ w'.heap.size ≤ w''.heap.size)
    (h5 : ∀ w', Below w.heap.size w w' → Calls Tryz.prog 51 #[.slice Ab nb cb] w' fun e w'' => e = .returned (.int .i64 T) ∧ Below w'.heap.size w' w'' ∧ w'.heap.size ≤ w''.heap.size) :
    Calls Tryz.prog 12 #[.agg #[.slice Aq m cq, .slice Ab nb cb]] w fun e w' => e = .returned (.bool (pgR c1 c2 c3 N T m)) ∧ Below w.heap.size w w' ∧ w.heap.size ≤ w'.heap.size := by
  subst hc1
  subst hc2
  obtain ⟨w0, hw0⟩ : ∃ w0, w0 = w.alloc (.cells #[.slice Aq m cq, .slice Ab nb cb] 27) := ⟨_, rfl⟩
  have X0 := Lib.hid (show w0.heap[w.heap.size]? = some (.cells #[.slice Aq m cq, .slice Ab nb cb] 27 (0, 0)) by rw [hw0]; exact boxed1_0 _ _)
  have b0 : Below w.heap.size w w0 := by rw [hw0]; exact (by repeat (first | exact Below.refl _ _ | assumption | (refine Below.trans ?_ (Below.mono (by assumption) (by first | omega | (simp; done) | (simp; omega)))) | (with_reducible refine Below.drew ?_) | (with_reducible refine Below.alloc ?_ (by first | omega | (simp; done) | (simp; omega)) _) | (with_reducible refine Below.setCell ?_ (by first | omega | (simp; done) | (simp; omega)) _)))
  have hs0 : w.heap.size ≤ w0.heap.size := b0.size
  obtain ⟨p0, p1⟩ := boxcells2 (lay := Below.refl _ _) X0.out
  have B0 := Lib.hid b0
  have HW := Lib.hid hw0
  have H1 := Lib.hid h1
  have H2 := Lib.hid h2
  have H3 := Lib.hid h3
  have H4 := Lib.hid h4
  have H5 := Lib.hid h5
  clear b0 hw0 h1 h2 h3 h4 h5
  have HF := Lib.hid (show pgR true false c3 N T m = false by simp [pgR])
  go_enter Tryz.func12, Tryz.ntmps12
  go_wp2_with fail
  rw [← HW.out]
  go_quiet (first | (go_at_call 47; exact Calls.quiet_of_same ((H1.out _).mono fun _ _ h => ⟨h.1, h.2.symm⟩)) | (go_at_call 48; exact Calls.quiet_of_same ((H2.out _ (below_drewN B0.out _)).mono fun _ _ h => ⟨h.1, h.2.symm⟩)))
  go_wp2_with fail
  go_ret
  exact ⟨by rw [HF.out]; rfl, below_drewN B0.out _, (below_drewN B0.out _).size⟩
set_option maxRecDepth 100000 in
set_option maxHeartbeats 8000000 in
theorem pgm_spec_3 (Aq : Option Addr) (m cq : Nat) (Ab : Option Addr) (nb cb : Nat) (w : World) (c1 c2 c3 : Bool) (N T : Nat) (hm : m ≤ 1048576) (hT0 : T ≤ 8388608) (hc1 : c1 = true) (hc2 : c2 = true) (hc3 : c3 = false)
    (h1 : ∀ w', Calls Tryz.prog 47 #[.int .i64 m, .int .i64 1, .int .i64 4] w' fun e w'' => e = .returned (.bool c1) ∧ w' = w'')
    (h2 : ∀ w', Below w.heap.size w w' → Calls Tryz.prog 48 #[.slice Aq m cq] w' fun e w'' => e = .returned (.bool c2) ∧ w' = w'')
    (h3 : ∀ w', Below w.heap.size w w' → Calls Tryz.prog 49 #[.slice Ab nb cb] w' fun e w'' => e = .returned (.bool c3) ∧ Below w'.heap.size w' w'' ∧ w'.heap.size ≤ w''.heap.size)
    (h4 : ∀ w', Below w.heap.size w w' → Calls Tryz.prog 50 #[.slice Ab nb cb] w' fun e w'' => e = .returned (.int .i64 N) ∧ Below w'.heap.size w' w'' ∧ w'.heap.size ≤ w''.heap.size)
    (h5 : ∀ w', Below w.heap.size w w' → Calls Tryz.prog 51 #[.slice Ab nb cb] w' fun e w'' => e = .returned (.int .i64 T) ∧ Below w'.heap.size w' w'' ∧ w'.heap.size ≤ w''.heap.size) :
    Calls Tryz.prog 12 #[.agg #[.slice Aq m cq, .slice Ab nb cb]] w fun e w' => e = .returned (.bool (pgR c1 c2 c3 N T m)) ∧ Below w.heap.size w w' ∧ w.heap.size ≤ w'.heap.size := by
  subst hc1
  subst hc2
  subst hc3
  obtain ⟨w0, hw0⟩ : ∃ w0, w0 = w.alloc (.cells #[.slice Aq m cq, .slice Ab nb cb] 27) := ⟨_, rfl⟩
  have X0 := Lib.hid (show w0.heap[w.heap.size]? = some (.cells #[.slice Aq m cq, .slice Ab nb cb] 27 (0, 0)) by rw [hw0]; exact boxed1_0 _ _)
  have b0 : Below w.heap.size w w0 := by rw [hw0]; exact (by repeat (first | exact Below.refl _ _ | assumption | (refine Below.trans ?_ (Below.mono (by assumption) (by first | omega | (simp; done) | (simp; omega)))) | (with_reducible refine Below.drew ?_) | (with_reducible refine Below.alloc ?_ (by first | omega | (simp; done) | (simp; omega)) _) | (with_reducible refine Below.setCell ?_ (by first | omega | (simp; done) | (simp; omega)) _)))
  have hs0 : w.heap.size ≤ w0.heap.size := b0.size
  obtain ⟨p0, p1⟩ := boxcells2 (lay := Below.refl _ _) X0.out
  have B0 := Lib.hid b0
  have HW := Lib.hid hw0
  have H1 := Lib.hid h1
  have H2 := Lib.hid h2
  have H3 := Lib.hid h3
  have H4 := Lib.hid h4
  have H5 := Lib.hid h5
  clear b0 hw0 h1 h2 h3 h4 h5
  have HF := Lib.hid (show pgR true true false N T m = false by simp [pgR])
  go_enter Tryz.func12, Tryz.ntmps12
  go_wp2_with fail
  rw [← HW.out]
  first | (go_region_with (first | (go_at_call 47; (with_reducible refine (H1.out _).mono ?_); rintro e w' ⟨rfl, rfl⟩) | (go_at_call 48; (with_reducible refine (H2.out _ ?_).mono ?_); exact B0.out.drew; rintro e w' ⟨rfl, rfl⟩) | (go_at_call 49; (with_reducible refine (H3.out _ ?_).mono ?_); exact B0.out.drew; rintro e y3 ⟨rfl, d3, _⟩; have u3 := bdrew d3; obtain ⟨a0, a1⟩ := boxcells2 (lay := u3) X0.out))) | fail "no"
  all_goals (go_wp2_with fail; go_ret; exact ⟨by rw [HF.out]; first | rfl | exact congrArg (fun b => Ending.returned (Value.bool b)) HTw.out, B0.out.trans (u3.mono hs0), (B0.out.trans (u3.mono hs0)).size⟩)
set_option maxRecDepth 100000 in
set_option maxHeartbeats 8000000 in
theorem pgm_spec_4 (Aq : Option Addr) (m cq : Nat) (Ab : Option Addr) (nb cb : Nat) (w : World) (c1 c2 c3 : Bool) (N T : Nat) (hm : m ≤ 1048576) (hT0 : T ≤ 8388608) (hc1 : c1 = true) (hc2 : c2 = true) (hc3 : c3 = true) (hN : ¬ N ≤ 4)
    (h1 : ∀ w', Calls Tryz.prog 47 #[.int .i64 m, .int .i64 1, .int .i64 4] w' fun e w'' => e = .returned (.bool c1) ∧ w' = w'')
    (h2 : ∀ w', Below w.heap.size w w' → Calls Tryz.prog 48 #[.slice Aq m cq] w' fun e w'' => e = .returned (.bool c2) ∧ w' = w'')
    (h3 : ∀ w', Below w.heap.size w w' → Calls Tryz.prog 49 #[.slice Ab nb cb] w' fun e w'' => e = .returned (.bool c3) ∧ Below w'.heap.size w' w'' ∧ w'.heap.size ≤ w''.heap.size)
    (h4 : ∀ w', Below w.heap.size w w' → Calls Tryz.prog 50 #[.slice Ab nb cb] w' fun e w'' => e = .returned (.int .i64 N) ∧ Below w'.heap.size w' w'' ∧ w'.heap.size ≤ w''.heap.size)
    (h5 : ∀ w', Below w.heap.size w w' → Calls Tryz.prog 51 #[.slice Ab nb cb] w' fun e w'' => e = .returned (.int .i64 T) ∧ Below w'.heap.size w' w'' ∧ w'.heap.size ≤ w''.heap.size) :
    Calls Tryz.prog 12 #[.agg #[.slice Aq m cq, .slice Ab nb cb]] w fun e w' => e = .returned (.bool (pgR c1 c2 c3 N T m)) ∧ Below w.heap.size w w' ∧ w.heap.size ≤ w'.heap.size := by
  subst hc1
  subst hc2
  subst hc3
  have hNi : decide ((N : Int) ≤ 4) = false := by simp; omega
  have hNn : decide (N ≤ 4) = false := by simp; omega
  obtain ⟨w0, hw0⟩ : ∃ w0, w0 = w.alloc (.cells #[.slice Aq m cq, .slice Ab nb cb] 27) := ⟨_, rfl⟩
  have X0 := Lib.hid (show w0.heap[w.heap.size]? = some (.cells #[.slice Aq m cq, .slice Ab nb cb] 27 (0, 0)) by rw [hw0]; exact boxed1_0 _ _)
  have b0 : Below w.heap.size w w0 := by rw [hw0]; exact (by repeat (first | exact Below.refl _ _ | assumption | (refine Below.trans ?_ (Below.mono (by assumption) (by first | omega | (simp; done) | (simp; omega)))) | (with_reducible refine Below.drew ?_) | (with_reducible refine Below.alloc ?_ (by first | omega | (simp; done) | (simp; omega)) _) | (with_reducible refine Below.setCell ?_ (by first | omega | (simp; done) | (simp; omega)) _)))
  have hs0 : w.heap.size ≤ w0.heap.size := b0.size
  obtain ⟨p0, p1⟩ := boxcells2 (lay := Below.refl _ _) X0.out
  have B0 := Lib.hid b0
  have HW := Lib.hid hw0
  have H1 := Lib.hid h1
  have H2 := Lib.hid h2
  have H3 := Lib.hid h3
  have H4 := Lib.hid h4
  have H5 := Lib.hid h5
  clear b0 hw0 h1 h2 h3 h4 h5
  have HF := Lib.hid (show pgR true true true N T m = false by simp [pgR, hN])
  go_enter Tryz.func12, Tryz.ntmps12
  go_wp2_with fail
  rw [← HW.out]
  first | (go_region_with (first | (go_at_call 47; (with_reducible refine (H1.out _).mono ?_); rintro e w' ⟨rfl, rfl⟩) | (go_at_call 48; (with_reducible refine (H2.out _ ?_).mono ?_); exact B0.out.drew; rintro e w' ⟨rfl, rfl⟩) | (go_at_call 49; (with_reducible refine (H3.out _ ?_).mono ?_); exact B0.out.drew; rintro e y3 ⟨rfl, d3, _⟩; have u3 := bdrew d3; obtain ⟨a0, a1⟩ := boxcells2 (lay := u3) X0.out) | (go_at_call 50; (with_reducible refine (H4.out _ ?_).mono ?_); exact B0.out.trans (u3.mono hs0); rintro e y4 ⟨rfl, d4, _⟩; have u4 := u3.trans (d4.mono u3.size); obtain ⟨a2, a3⟩ := boxcells2 (lay := u4) X0.out))) | fail "no"
  all_goals (go_wp2_with fail; go_ret; exact ⟨by rw [HF.out]; first | rfl | exact congrArg (fun b => Ending.returned (Value.bool b)) HTw.out, B0.out.trans (u4.mono hs0), (B0.out.trans (u4.mono hs0)).size⟩)
set_option maxRecDepth 100000 in
set_option maxHeartbeats 8000000 in
theorem pgm_spec_5 (Aq : Option Addr) (m cq : Nat) (Ab : Option Addr) (nb cb : Nat) (w : World) (c1 c2 c3 : Bool) (N T : Nat) (hm : m ≤ 1048576) (hT0 : T ≤ 8388608) (hc1 : c1 = true) (hc2 : c2 = true) (hc3 : c3 = true) (hN : N ≤ 4) (hT : ¬ T + m + 2 ≤ 160)
    (h1 : ∀ w', Calls Tryz.prog 47 #[.int .i64 m, .int .i64 1, .int .i64 4] w' fun e w'' => e = .returned (.bool c1) ∧ w' = w'')
    (h2 : ∀ w', Below w.heap.size w w' → Calls Tryz.prog 48 #[.slice Aq m cq] w' fun e w'' => e = .returned (.bool c2) ∧ w' = w'')
    (h3 : ∀ w', Below w.heap.size w w' → Calls Tryz.prog 49 #[.slice Ab nb cb] w' fun e w'' => e = .returned (.bool c3) ∧ Below w'.heap.size w' w'' ∧ w'.heap.size ≤ w''.heap.size)
    (h4 : ∀ w', Below w.heap.size w w' → Calls Tryz.prog 50 #[.slice Ab nb cb] w' fun e w'' => e = .returned (.int .i64 N) ∧ Below w'.heap.size w' w'' ∧ w'.heap.size ≤ w''.heap.size)
    (h5 : ∀ w', Below w.heap.size w w' → Calls Tryz.prog 51 #[.slice Ab nb cb] w' fun e w'' => e = .returned (.int .i64 T) ∧ Below w'.heap.size w' w'' ∧ w'.heap.size ≤ w''.heap.size) :
    Calls Tryz.prog 12 #[.agg #[.slice Aq m cq, .slice Ab nb cb]] w fun e w' => e = .returned (.bool (pgR c1 c2 c3 N T m)) ∧ Below w.heap.size w w' ∧ w.heap.size ≤ w'.heap.size := by
  subst hc1
  subst hc2
  subst hc3
  have hNi : decide ((N : Int) ≤ 4) = true := by simp; omega
  have hNn : decide (N ≤ 4) = true := by simp; omega
  have HTw := Lib.hid (show decide (IntKind.i64.wrap (IntKind.i64.wrap ((T : Int) + (m : Int)) + 2) ≤ 160) = false by rw [IntWalk.i64_in ((T : Int) + (m : Int)) (by omega), IntWalk.i64_in _ (by omega)]; simp; omega)
  have hTi : decide ((T : Int) + (m : Int) + 2 ≤ 160) = false := by simp; omega
  have hTj : decide ((T : Int) + (m : Int) ≤ 158) = false := by simp; omega
  obtain ⟨w0, hw0⟩ : ∃ w0, w0 = w.alloc (.cells #[.slice Aq m cq, .slice Ab nb cb] 27) := ⟨_, rfl⟩
  have X0 := Lib.hid (show w0.heap[w.heap.size]? = some (.cells #[.slice Aq m cq, .slice Ab nb cb] 27 (0, 0)) by rw [hw0]; exact boxed1_0 _ _)
  have b0 : Below w.heap.size w w0 := by rw [hw0]; exact (by repeat (first | exact Below.refl _ _ | assumption | (refine Below.trans ?_ (Below.mono (by assumption) (by first | omega | (simp; done) | (simp; omega)))) | (with_reducible refine Below.drew ?_) | (with_reducible refine Below.alloc ?_ (by first | omega | (simp; done) | (simp; omega)) _) | (with_reducible refine Below.setCell ?_ (by first | omega | (simp; done) | (simp; omega)) _)))
  have hs0 : w.heap.size ≤ w0.heap.size := b0.size
  obtain ⟨p0, p1⟩ := boxcells2 (lay := Below.refl _ _) X0.out
  have B0 := Lib.hid b0
  have HW := Lib.hid hw0
  have H1 := Lib.hid h1
  have H2 := Lib.hid h2
  have H3 := Lib.hid h3
  have H4 := Lib.hid h4
  have H5 := Lib.hid h5
  clear b0 hw0 h1 h2 h3 h4 h5
  have HF := Lib.hid (show pgR true true true N T m = false by simp [pgR, hN, hT])
  go_enter Tryz.func12, Tryz.ntmps12
  go_wp2_with fail
  rw [← HW.out]
  first | (go_region_held3 (fun W => W.cell? ⟨w.heap.size, 0, none⟩ = some (.slice Aq m cq) ∧ W.cell? ⟨w.heap.size, 1, none⟩ = some (.slice Ab nb cb)) (first | exact ⟨p0, p1⟩ | exact ⟨a0, a1⟩ | exact ⟨a2, a3⟩ | exact ⟨a4, a5⟩) (first | (go_at_call 47; (with_reducible refine (H1.out _).mono ?_); rintro e w' ⟨rfl, rfl⟩) | (go_at_call 48; (with_reducible refine (H2.out _ ?_).mono ?_); exact B0.out.drew; rintro e w' ⟨rfl, rfl⟩) | (go_at_call 49; (with_reducible refine (H3.out _ ?_).mono ?_); exact B0.out.drew; rintro e y3 ⟨rfl, d3, _⟩; have u3 := bdrew d3; obtain ⟨a0, a1⟩ := boxcells2 (lay := u3) X0.out) | (go_at_call 50; (with_reducible refine (H4.out _ ?_).mono ?_); exact B0.out.trans (u3.mono hs0); rintro e y4 ⟨rfl, d4, _⟩; have u4 := u3.trans (d4.mono u3.size); obtain ⟨a2, a3⟩ := boxcells2 (lay := u4) X0.out) | (go_at_call 51; (with_reducible refine (H5.out _ ?_).mono ?_); exact B0.out.trans (u4.mono hs0); rintro e y5 ⟨rfl, d5, _⟩; have u5 := u4.trans (d5.mono u4.size); obtain ⟨a4, a5⟩ := boxcells2 (lay := u5) X0.out))) | fail "no"
  all_goals (go_wp2_with fail; go_ret; exact ⟨by rw [HF.out]; first | rfl | exact congrArg (fun b => Ending.returned (Value.bool b)) HTw.out, B0.out.trans (u5.mono hs0), (B0.out.trans (u5.mono hs0)).size⟩)
set_option maxRecDepth 100000 in
set_option maxHeartbeats 8000000 in
theorem pgm_spec_6 (Aq : Option Addr) (m cq : Nat) (Ab : Option Addr) (nb cb : Nat) (w : World) (c1 c2 c3 : Bool) (N T : Nat) (hm : m ≤ 1048576) (hT0 : T ≤ 8388608) (hc1 : c1 = true) (hc2 : c2 = true) (hc3 : c3 = true) (hN : N ≤ 4) (hT : T + m + 2 ≤ 160)
    (h1 : ∀ w', Calls Tryz.prog 47 #[.int .i64 m, .int .i64 1, .int .i64 4] w' fun e w'' => e = .returned (.bool c1) ∧ w' = w'')
    (h2 : ∀ w', Below w.heap.size w w' → Calls Tryz.prog 48 #[.slice Aq m cq] w' fun e w'' => e = .returned (.bool c2) ∧ w' = w'')
    (h3 : ∀ w', Below w.heap.size w w' → Calls Tryz.prog 49 #[.slice Ab nb cb] w' fun e w'' => e = .returned (.bool c3) ∧ Below w'.heap.size w' w'' ∧ w'.heap.size ≤ w''.heap.size)
    (h4 : ∀ w', Below w.heap.size w w' → Calls Tryz.prog 50 #[.slice Ab nb cb] w' fun e w'' => e = .returned (.int .i64 N) ∧ Below w'.heap.size w' w'' ∧ w'.heap.size ≤ w''.heap.size)
    (h5 : ∀ w', Below w.heap.size w w' → Calls Tryz.prog 51 #[.slice Ab nb cb] w' fun e w'' => e = .returned (.int .i64 T) ∧ Below w'.heap.size w' w'' ∧ w'.heap.size ≤ w''.heap.size) :
    Calls Tryz.prog 12 #[.agg #[.slice Aq m cq, .slice Ab nb cb]] w fun e w' => e = .returned (.bool (pgR c1 c2 c3 N T m)) ∧ Below w.heap.size w w' ∧ w.heap.size ≤ w'.heap.size := by
  subst hc1
  subst hc2
  subst hc3
  have hNi : decide ((N : Int) ≤ 4) = true := by simp; omega
  have hNn : decide (N ≤ 4) = true := by simp; omega
  have HTw := Lib.hid (show decide (IntKind.i64.wrap (IntKind.i64.wrap ((T : Int) + (m : Int)) + 2) ≤ 160) = true by rw [IntWalk.i64_in ((T : Int) + (m : Int)) (by omega), IntWalk.i64_in _ (by omega)]; simp; omega)
  have hTi : decide ((T : Int) + (m : Int) + 2 ≤ 160) = true := by simp; omega
  have hTj : decide ((T : Int) + (m : Int) ≤ 158) = true := by simp; omega
  obtain ⟨w0, hw0⟩ : ∃ w0, w0 = w.alloc (.cells #[.slice Aq m cq, .slice Ab nb cb] 27) := ⟨_, rfl⟩
  have X0 := Lib.hid (show w0.heap[w.heap.size]? = some (.cells #[.slice Aq m cq, .slice Ab nb cb] 27 (0, 0)) by rw [hw0]; exact boxed1_0 _ _)
  have b0 : Below w.heap.size w w0 := by rw [hw0]; exact (by repeat (first | exact Below.refl _ _ | assumption | (refine Below.trans ?_ (Below.mono (by assumption) (by first | omega | (simp; done) | (simp; omega)))) | (with_reducible refine Below.drew ?_) | (with_reducible refine Below.alloc ?_ (by first | omega | (simp; done) | (simp; omega)) _) | (with_reducible refine Below.setCell ?_ (by first | omega | (simp; done) | (simp; omega)) _)))
  have hs0 : w.heap.size ≤ w0.heap.size := b0.size
  obtain ⟨p0, p1⟩ := boxcells2 (lay := Below.refl _ _) X0.out
  have B0 := Lib.hid b0
  have HW := Lib.hid hw0
  have H1 := Lib.hid h1
  have H2 := Lib.hid h2
  have H3 := Lib.hid h3
  have H4 := Lib.hid h4
  have H5 := Lib.hid h5
  clear b0 hw0 h1 h2 h3 h4 h5
  have HF := Lib.hid (show pgR true true true N T m = true by simp [pgR, hN, hT])
  go_enter Tryz.func12, Tryz.ntmps12
  go_wp2_with fail
  rw [← HW.out]
  first | (go_region_held3 (fun W => W.cell? ⟨w.heap.size, 0, none⟩ = some (.slice Aq m cq) ∧ W.cell? ⟨w.heap.size, 1, none⟩ = some (.slice Ab nb cb)) (first | exact ⟨p0, p1⟩ | exact ⟨a0, a1⟩ | exact ⟨a2, a3⟩ | exact ⟨a4, a5⟩) (first | (go_at_call 47; (with_reducible refine (H1.out _).mono ?_); rintro e w' ⟨rfl, rfl⟩) | (go_at_call 48; (with_reducible refine (H2.out _ ?_).mono ?_); exact B0.out.drew; rintro e w' ⟨rfl, rfl⟩) | (go_at_call 49; (with_reducible refine (H3.out _ ?_).mono ?_); exact B0.out.drew; rintro e y3 ⟨rfl, d3, _⟩; have u3 := bdrew d3; obtain ⟨a0, a1⟩ := boxcells2 (lay := u3) X0.out) | (go_at_call 50; (with_reducible refine (H4.out _ ?_).mono ?_); exact B0.out.trans (u3.mono hs0); rintro e y4 ⟨rfl, d4, _⟩; have u4 := u3.trans (d4.mono u3.size); obtain ⟨a2, a3⟩ := boxcells2 (lay := u4) X0.out) | (go_at_call 51; (with_reducible refine (H5.out _ ?_).mono ?_); exact B0.out.trans (u4.mono hs0); rintro e y5 ⟨rfl, d5, _⟩; have u5 := u4.trans (d5.mono u4.size); obtain ⟨a4, a5⟩ := boxcells2 (lay := u5) X0.out))) | fail "no"
  all_goals (go_wp2_with fail; go_ret; exact ⟨by rw [HF.out]; first | rfl | exact congrArg (fun b => Ending.returned (Value.bool b)) HTw.out, B0.out.trans (u5.mono hs0), (B0.out.trans (u5.mono hs0)).size⟩)
theorem IsValidProgram_spec (d lo lo' : Nat) (Aq : Option Addr) (cq : Nat) (qs : List ByteArray) (bd : List (Tr d)) (Ab : Option Addr) (nb cb : Nat) (w : World) (hra : RdL w lo 1 Aq qs.length (strs qs)) (hrb : RdT w lo' d Ab nb bd) (hm : qs.length ≤ 1048576) (hz : szS qs ≤ 1048576) (hsz : szT d bd ≤ 1048576) :
    Calls Tryz.prog 12 #[.agg #[.slice Aq qs.length cq, .slice Ab nb cb]] w fun e w' => e = .returned (.bool (progV d qs bd)) ∧ Below w.heap.size w w' ∧ w.heap.size ≤ w'.heap.size := by
  have h1 : ∀ w', Calls Tryz.prog 47 #[.int .i64 qs.length, .int .i64 1, .int .i64 4] w' fun e w'' => e = .returned (.bool (inB qs.length 1 4)) ∧ w' = w'' := fun w' => l1In_any _ _ _ _
  have h2 : ∀ w', Below w.heap.size w w' → Calls Tryz.prog 48 #[.slice Aq qs.length cq] w' fun e w'' => e = .returned (.bool (allW qs)) ∧ w' = w'' := fun w' hb => l17Words_any _ _ _ qs _ (hra.rd.below hb) rfl (by omega) hz
  have h3 : ∀ w', Below w.heap.size w w' → Calls Tryz.prog 49 #[.slice Ab nb cb] w' fun e w'' => e = .returned (.bool (validT d bd)) ∧ Below w'.heap.size w' w'' ∧ w'.heap.size ≤ w''.heap.size := fun w' hb => l17All_any d _ _ _ _ _ _ (hrb.below hb) hsz
  have h4 : ∀ w', Below w.heap.size w w' → Calls Tryz.prog 50 #[.slice Ab nb cb] w' fun e w'' => e = .returned (.int .i64 (nestT d bd)) ∧ Below w'.heap.size w' w'' ∧ w'.heap.size ≤ w''.heap.size := fun w' hb => NestingDepth_spec d _ _ _ _ _ _ (hrb.below hb) hsz
  have h5 : ∀ w', Below w.heap.size w w' → Calls Tryz.prog 51 #[.slice Ab nb cb] w' fun e w'' => e = .returned (.int .i64 (tokT d bd)) ∧ Below w'.heap.size w' w'' ∧ w'.heap.size ≤ w''.heap.size := fun w' hb => StmtTokenCount_spec d _ _ _ _ _ _ (hrb.below hb) hsz
  have hT := tokT_le d bd
  unfold progV
  cases hc1 : inB qs.length 1 4
  · exact pgm_spec_1 _ _ _ _ _ _ w _ _ _ _ _ hm (by omega) rfl (hc1 ▸ h1) h2 h3 h4 h5
  cases hc2 : allW qs
  · exact pgm_spec_2 _ _ _ _ _ _ w _ _ _ _ _ hm (by omega) rfl rfl (hc1 ▸ h1) (hc2 ▸ h2) h3 h4 h5
  cases hc3 : validT d bd
  · exact pgm_spec_3 _ _ _ _ _ _ w _ _ _ _ _ hm (by omega) rfl rfl rfl (hc1 ▸ h1) (hc2 ▸ h2) (hc3 ▸ h3) h4 h5
  by_cases hN : nestT d bd ≤ 4
  · by_cases hT' : tokT d bd + qs.length + 2 ≤ 160
    · exact pgm_spec_6 _ _ _ _ _ _ w _ _ _ _ _ hm (by omega) rfl rfl rfl hN hT' (hc1 ▸ h1) (hc2 ▸ h2) (hc3 ▸ h3) h4 h5
    · exact pgm_spec_5 _ _ _ _ _ _ w _ _ _ _ _ hm (by omega) rfl rfl rfl hN hT' (hc1 ▸ h1) (hc2 ▸ h2) (hc3 ▸ h3) h4 h5
  · exact pgm_spec_4 _ _ _ _ _ _ w _ _ _ _ _ hm (by omega) rfl rfl rfl hN (hc1 ▸ h1) (hc2 ▸ h2) (hc3 ▸ h3) h4 h5
end Go.Proofs.YthkbckkghnbonaaGreatDoor
namespace Go.Proofs.YthkbckkghnbonaaGreatDoor
open Go.RowKit
set_option linter.unusedVariables false
theorem pgR_w {c1 V : Bool} {N T m t : Nat} {qs : List ByteArray} {s : ByteArray} (hs : qs[t]? = some s) (h : wordOk s = false) : pgR c1 (allW qs) V N T m = false := by
  have : qs.all wordOk = false := by
    rw [List.all_eq_false]
    exact ⟨s, List.mem_of_getElem? hs, by simp [h]⟩
  have e : allW qs = false := this
  rw [e]
  cases c1 <;> rfl
theorem pgR_b {c1 c2 : Bool} {N T m t : Nat} {rs : List Bool} (hs : rs[t]? = some false) : pgR c1 c2 (rs.all id) N T m = false := by
  have : rs.all id = false := by
    rw [List.all_eq_false]
    exact ⟨false, List.mem_of_getElem? hs, by simp⟩
  rw [this]
  cases c1 <;> cases c2 <;> rfl
set_option maxRecDepth 100000 in
set_option maxHeartbeats 8000000 in
theorem pgm_impl_1 (Aq : Option Addr) (m cq : Nat) (qs : List ByteArray) (Ab : Option Addr) (nb cb : Nat) (rs : List Bool) (w : World) (c1 : Bool) (N T : Nat) (hmq : qs.length = m) (hm : m ≤ 1048576) (hT0 : T ≤ 8388608) (hra : Rd w 1 Aq m (strs qs)) (hz : szS qs ≤ 1048576) (hn : nb ≤ 1048576) (hrs : rs.length = nb) (hel : Elts 43 w Ab nb rs) (hc1 : c1 = false)
    (h1 : ∀ w', Calls Tryz.prog 44 #[.int .i64 m, .int .i64 1, .int .i64 4] w' fun e w'' => e = .returned (.bool c1) ∧ w' = w'')
    (h4 : ∀ w', Below w.heap.size w w' → Calls Tryz.prog 45 #[.slice Ab nb cb] w' fun e w'' => e = .returned (.int .i64 N) ∧ Below w'.heap.size w' w'' ∧ w'.heap.size ≤ w''.heap.size)
    (h5 : ∀ w', Below w.heap.size w w' → Calls Tryz.prog 46 #[.slice Ab nb cb] w' fun e w'' => e = .returned (.int .i64 T) ∧ Below w'.heap.size w' w'' ∧ w'.heap.size ≤ w''.heap.size) :
    Calls Tryz.prog 11 #[.agg #[.slice Aq m cq, .slice Ab nb cb]] w fun e w' => e = .returned (.bool (pgR c1 (allW qs) (rs.all id) N T m)) ∧ Below w.heap.size w w' ∧ w.heap.size ≤ w'.heap.size := by
  subst hc1
  have HM := Lib.hid hmq
  have HRA := Lib.hid hra
  have HEL := Lib.hid hel
  have HRS := Lib.hid hrs
  have H1 := Lib.hid h1
  have H4 := Lib.hid h4
  have H5 := Lib.hid h5
  clear hra hel hrs h1 h4 h5 hmq
  go_enter Tryz.func11, Tryz.ntmps11
  go_wp2_with fail
  go_loop [10] (fun i => ∃ t : Nat, t ≤ m ∧ i = .int .i64 t ∧ (qs.take t).all wordOk = true) (fun i => m - (intOf i).toNat)
  case atStart => exact ⟨0, Nat.zero_le _, rfl, rfl⟩
  case round =>
    obtain ⟨t, ht, rfl, hok⟩ := hrel
    have HOK := Lib.hid hok
    clear hok
    by_cases hlt : t < m
    · have htl : t < qs.length := by have := HM.out; omega
      obtain ⟨s, hs⟩ : ∃ s, qs[t]? = some s := ⟨_, List.getElem?_eq_getElem htl⟩
      obtain ⟨b, off, rfl, _, hc⟩ := HRA.out.2 (by omega)
      have q0 := hc t _ (strs_at hs)
      have hsz := szS_mem hs
      have HS := Lib.hid hs
      have hs63 : s.size ≤ 9223372036854775807 := by omega
      clear hc hs htl hsz
      cases hw : wordOk s
      · have HF := Lib.hid (pgR_w (c1 := false) (V := rs.all id) (N := N) (T := T) (m := m) HS.out hw)
        go_wp2_with (go_at_call 42; refine (IsValidWord_impl _ _ hs63).mono ?_; rintro e w' ⟨rfl, rfl⟩)
        go_ret
        exact ⟨by rw [HF.out]; rfl, (by repeat (first | exact Below.refl _ _ | assumption | (refine Below.trans ?_ (Below.mono (by assumption) (by first | omega | (simp; done) | (simp; omega)))) | (with_reducible refine Below.drew ?_) | (with_reducible refine Below.alloc ?_ (by first | omega | (simp; done) | (simp; omega)) _) | (with_reducible refine Below.setCell ?_ (by first | omega | (simp; done) | (simp; omega)) _))), (by first | omega | (simp; done) | (simp; omega))⟩
      · have HN := Lib.hid (show (qs.take (t + 1)).all wordOk = true by rw [all_take _ HS.out, HOK.out, hw]; rfl)
        go_wp2_with (go_at_call 42; refine (IsValidWord_impl _ _ hs63).mono ?_; rintro e w' ⟨rfl, rfl⟩)
        go_round
        case rel => exact ⟨t + 1, by omega, by go_num, HN.out⟩
        case measure => simp [intOf]; omega
    · have HAL : Hid (allW qs = true) := by
        have h := HOK.out
        rw [List.take_of_length_le (by have := HM.out; omega)] at h
        exact h
      obtain ⟨w0, hw0⟩ : ∃ w0, w0 = w.alloc (.cells #[.slice Aq m cq, .slice Ab nb cb] 27) := ⟨_, rfl⟩
      have X0 := Lib.hid (show w0.heap[w.heap.size]? = some (.cells #[.slice Aq m cq, .slice Ab nb cb] 27 (0, 0)) by rw [hw0]; exact boxed1_0 _ _)
      have b0 : Below w.heap.size w w0 := by rw [hw0]; exact (by repeat (first | exact Below.refl _ _ | assumption | (refine Below.trans ?_ (Below.mono (by assumption) (by first | omega | (simp; done) | (simp; omega)))) | (with_reducible refine Below.drew ?_) | (with_reducible refine Below.alloc ?_ (by first | omega | (simp; done) | (simp; omega)) _) | (with_reducible refine Below.setCell ?_ (by first | omega | (simp; done) | (simp; omega)) _)))
      have s0 : w.heap.size ≤ w0.heap.size := b0.size
      go_wp2_with fail
      rw [← hw0]
      have B0 := Lib.hid b0
      clear hw0 b0
      go_loopw [21] (fun i wr => ∃ t : Nat, t ≤ nb ∧ i = .int .i64 t ∧ (rs.take t).all id = true ∧ Below w0.heap.size w0 wr) (fun i _ => nb - (intOf i).toNat)
      case atStart => exact ⟨0, Nat.zero_le _, rfl, rfl, Below.refl _ _⟩
      case round =>
        obtain ⟨t, ht, rfl, hok, hb⟩ := hrel
        have HOK2 := Lib.hid hok
        have hbs := hb.size
        clear hok
        by_cases hlt : t < nb
        · obtain ⟨b, off, k', wd', Aa', na', ca', ct', Ab', nb', cb', r, rfl, hbl, ⟨q0, q1, q2, q3, q4⟩, hr, hcall⟩ := HEL.out t hlt
          have hbw := (B0.out.trans (hb.mono s0))
          rw [← hbw.cell (p := ⟨b, _, none⟩) hbl] at q0 q1 q2 q3 q4
          have HC := Lib.hid (hcall _ ((hbw.alloc (by omega) (.cells #[.int .i64 k', .string wd', .slice Aa' na' ca', .int .i64 ct', .slice Ab' nb' cb'] 66))))
          have HR := Lib.hid hr
          clear hcall hr hbl hbw
          cases r
          · have HF := Lib.hid (pgR_b (c1 := false) (c2 := allW qs) (N := N) (T := T) (m := m) HR.out)
            go_wp2_with fail
            refine HC.out.mono ?_
            rintro e w2 ⟨rfl, hb2, hs2⟩
            go_wp2_with fail
            go_ret
            exact ⟨by rw [HF.out]; rfl, (B0.out.trans (hb.mono s0)).trans (((Below.refl _ _).alloc (Nat.le_refl _) _).trans (hb2.mono (by simp)) |>.mono (by omega)), by have := hs2; simp at this; omega⟩
          · have HN := Lib.hid (show (rs.take (t + 1)).all id = true by rw [all_take _ HR.out, HOK2.out]; rfl)
            go_wp2_with fail
            refine HC.out.mono ?_
            rintro e w2 ⟨rfl, hb2, hs2⟩
            go_wp2_with fail
            go_roundw
            case rel => exact ⟨t + 1, by omega, by go_num, HN.out, hb.trans (((Below.refl _ _).alloc (Nat.le_refl _) _).trans (hb2.mono (by simp)) |>.mono (by omega))⟩
            case measure => simp [intOf]; omega
        · have HRL : Hid (rs.all id = true) := by
            have h := HOK2.out
            rw [List.take_of_length_le (by have := HRS.out; omega)] at h
            exact h
          have HF := Lib.hid (show pgR false (allW qs) (rs.all id) N T m = false by rw [HAL.out, HRL.out]; simp [pgR])
          have HBB := Lib.hid (B0.out.trans (hb.mono s0))
          obtain ⟨p0, p1⟩ := boxcells2 (lay := hb) X0.out
          have HB := Lib.hid hb
          clear hb
          go_wp2_with fail
          go_quiet ((go_at_call 44; exact Calls.quiet_of_same ((H1.out _).mono fun _ _ h => ⟨h.1, h.2.symm⟩)))
          go_wp2_with fail
          go_ret
          exact ⟨by rw [HF.out]; rfl, below_drewN HBB.out _, (below_drewN HBB.out _).size⟩
set_option maxRecDepth 100000 in
set_option maxHeartbeats 8000000 in
theorem pgm_impl_2 (Aq : Option Addr) (m cq : Nat) (qs : List ByteArray) (Ab : Option Addr) (nb cb : Nat) (rs : List Bool) (w : World) (c1 : Bool) (N T : Nat) (hmq : qs.length = m) (hm : m ≤ 1048576) (hT0 : T ≤ 8388608) (hra : Rd w 1 Aq m (strs qs)) (hz : szS qs ≤ 1048576) (hn : nb ≤ 1048576) (hrs : rs.length = nb) (hel : Elts 43 w Ab nb rs) (hc1 : c1 = true) (hN : ¬ N ≤ 4)
    (h1 : ∀ w', Calls Tryz.prog 44 #[.int .i64 m, .int .i64 1, .int .i64 4] w' fun e w'' => e = .returned (.bool c1) ∧ w' = w'')
    (h4 : ∀ w', Below w.heap.size w w' → Calls Tryz.prog 45 #[.slice Ab nb cb] w' fun e w'' => e = .returned (.int .i64 N) ∧ Below w'.heap.size w' w'' ∧ w'.heap.size ≤ w''.heap.size)
    (h5 : ∀ w', Below w.heap.size w w' → Calls Tryz.prog 46 #[.slice Ab nb cb] w' fun e w'' => e = .returned (.int .i64 T) ∧ Below w'.heap.size w' w'' ∧ w'.heap.size ≤ w''.heap.size) :
    Calls Tryz.prog 11 #[.agg #[.slice Aq m cq, .slice Ab nb cb]] w fun e w' => e = .returned (.bool (pgR c1 (allW qs) (rs.all id) N T m)) ∧ Below w.heap.size w w' ∧ w.heap.size ≤ w'.heap.size := by
  subst hc1
  have hNi : decide ((N : Int) ≤ 4) = false := by simp; omega
  have hNn : decide (N ≤ 4) = false := by simp; omega
  have HM := Lib.hid hmq
  have HRA := Lib.hid hra
  have HEL := Lib.hid hel
  have HRS := Lib.hid hrs
  have H1 := Lib.hid h1
  have H4 := Lib.hid h4
  have H5 := Lib.hid h5
  clear hra hel hrs h1 h4 h5 hmq
  go_enter Tryz.func11, Tryz.ntmps11
  go_wp2_with fail
  go_loop [10] (fun i => ∃ t : Nat, t ≤ m ∧ i = .int .i64 t ∧ (qs.take t).all wordOk = true) (fun i => m - (intOf i).toNat)
  case atStart => exact ⟨0, Nat.zero_le _, rfl, rfl⟩
  case round =>
    obtain ⟨t, ht, rfl, hok⟩ := hrel
    have HOK := Lib.hid hok
    clear hok
    by_cases hlt : t < m
    · have htl : t < qs.length := by have := HM.out; omega
      obtain ⟨s, hs⟩ : ∃ s, qs[t]? = some s := ⟨_, List.getElem?_eq_getElem htl⟩
      obtain ⟨b, off, rfl, _, hc⟩ := HRA.out.2 (by omega)
      have q0 := hc t _ (strs_at hs)
      have hsz := szS_mem hs
      have HS := Lib.hid hs
      have hs63 : s.size ≤ 9223372036854775807 := by omega
      clear hc hs htl hsz
      cases hw : wordOk s
      · have HF := Lib.hid (pgR_w (c1 := true) (V := rs.all id) (N := N) (T := T) (m := m) HS.out hw)
        go_wp2_with (go_at_call 42; refine (IsValidWord_impl _ _ hs63).mono ?_; rintro e w' ⟨rfl, rfl⟩)
        go_ret
        exact ⟨by rw [HF.out]; rfl, (by repeat (first | exact Below.refl _ _ | assumption | (refine Below.trans ?_ (Below.mono (by assumption) (by first | omega | (simp; done) | (simp; omega)))) | (with_reducible refine Below.drew ?_) | (with_reducible refine Below.alloc ?_ (by first | omega | (simp; done) | (simp; omega)) _) | (with_reducible refine Below.setCell ?_ (by first | omega | (simp; done) | (simp; omega)) _))), (by first | omega | (simp; done) | (simp; omega))⟩
      · have HN := Lib.hid (show (qs.take (t + 1)).all wordOk = true by rw [all_take _ HS.out, HOK.out, hw]; rfl)
        go_wp2_with (go_at_call 42; refine (IsValidWord_impl _ _ hs63).mono ?_; rintro e w' ⟨rfl, rfl⟩)
        go_round
        case rel => exact ⟨t + 1, by omega, by go_num, HN.out⟩
        case measure => simp [intOf]; omega
    · have HAL : Hid (allW qs = true) := by
        have h := HOK.out
        rw [List.take_of_length_le (by have := HM.out; omega)] at h
        exact h
      obtain ⟨w0, hw0⟩ : ∃ w0, w0 = w.alloc (.cells #[.slice Aq m cq, .slice Ab nb cb] 27) := ⟨_, rfl⟩
      have X0 := Lib.hid (show w0.heap[w.heap.size]? = some (.cells #[.slice Aq m cq, .slice Ab nb cb] 27 (0, 0)) by rw [hw0]; exact boxed1_0 _ _)
      have b0 : Below w.heap.size w w0 := by rw [hw0]; exact (by repeat (first | exact Below.refl _ _ | assumption | (refine Below.trans ?_ (Below.mono (by assumption) (by first | omega | (simp; done) | (simp; omega)))) | (with_reducible refine Below.drew ?_) | (with_reducible refine Below.alloc ?_ (by first | omega | (simp; done) | (simp; omega)) _) | (with_reducible refine Below.setCell ?_ (by first | omega | (simp; done) | (simp; omega)) _)))
      have s0 : w.heap.size ≤ w0.heap.size := b0.size
      go_wp2_with fail
      rw [← hw0]
      have B0 := Lib.hid b0
      clear hw0 b0
      go_loopw [21] (fun i wr => ∃ t : Nat, t ≤ nb ∧ i = .int .i64 t ∧ (rs.take t).all id = true ∧ Below w0.heap.size w0 wr) (fun i _ => nb - (intOf i).toNat)
      case atStart => exact ⟨0, Nat.zero_le _, rfl, rfl, Below.refl _ _⟩
      case round =>
        obtain ⟨t, ht, rfl, hok, hb⟩ := hrel
        have HOK2 := Lib.hid hok
        have hbs := hb.size
        clear hok
        by_cases hlt : t < nb
        · obtain ⟨b, off, k', wd', Aa', na', ca', ct', Ab', nb', cb', r, rfl, hbl, ⟨q0, q1, q2, q3, q4⟩, hr, hcall⟩ := HEL.out t hlt
          have hbw := (B0.out.trans (hb.mono s0))
          rw [← hbw.cell (p := ⟨b, _, none⟩) hbl] at q0 q1 q2 q3 q4
          have HC := Lib.hid (hcall _ ((hbw.alloc (by omega) (.cells #[.int .i64 k', .string wd', .slice Aa' na' ca', .int .i64 ct', .slice Ab' nb' cb'] 66))))
          have HR := Lib.hid hr
          clear hcall hr hbl hbw
          cases r
          · have HF := Lib.hid (pgR_b (c1 := true) (c2 := allW qs) (N := N) (T := T) (m := m) HR.out)
            go_wp2_with fail
            refine HC.out.mono ?_
            rintro e w2 ⟨rfl, hb2, hs2⟩
            go_wp2_with fail
            go_ret
            exact ⟨by rw [HF.out]; rfl, (B0.out.trans (hb.mono s0)).trans (((Below.refl _ _).alloc (Nat.le_refl _) _).trans (hb2.mono (by simp)) |>.mono (by omega)), by have := hs2; simp at this; omega⟩
          · have HN := Lib.hid (show (rs.take (t + 1)).all id = true by rw [all_take _ HR.out, HOK2.out]; rfl)
            go_wp2_with fail
            refine HC.out.mono ?_
            rintro e w2 ⟨rfl, hb2, hs2⟩
            go_wp2_with fail
            go_roundw
            case rel => exact ⟨t + 1, by omega, by go_num, HN.out, hb.trans (((Below.refl _ _).alloc (Nat.le_refl _) _).trans (hb2.mono (by simp)) |>.mono (by omega))⟩
            case measure => simp [intOf]; omega
        · have HRL : Hid (rs.all id = true) := by
            have h := HOK2.out
            rw [List.take_of_length_le (by have := HRS.out; omega)] at h
            exact h
          have HF := Lib.hid (show pgR true (allW qs) (rs.all id) N T m = false by rw [HAL.out, HRL.out]; simp [pgR, hN])
          have HBB := Lib.hid (B0.out.trans (hb.mono s0))
          obtain ⟨p0, p1⟩ := boxcells2 (lay := hb) X0.out
          have HB := Lib.hid hb
          clear hb
          go_wp2_with fail
          first | (go_region_with (first | (go_at_call 44; (with_reducible refine (H1.out _).mono ?_); rintro e w' ⟨rfl, rfl⟩) | (go_at_call 45; (with_reducible refine (H4.out _ ?_).mono ?_); exact HBB.out.drew; rintro e y4 ⟨rfl, d4, _⟩; have u4 := HB.out.trans ((bdrew d4).mono hbs); obtain ⟨a2, a3⟩ := boxcells2 (lay := u4) X0.out))) | fail "no"
          all_goals (go_wp2_with fail; go_ret; exact ⟨by rw [HF.out]; first | rfl | exact congrArg (fun b => Ending.returned (Value.bool b)) HTw.out, B0.out.trans (u4.mono s0), (B0.out.trans (u4.mono s0)).size⟩)
set_option maxRecDepth 100000 in
set_option maxHeartbeats 8000000 in
theorem pgm_impl_3 (Aq : Option Addr) (m cq : Nat) (qs : List ByteArray) (Ab : Option Addr) (nb cb : Nat) (rs : List Bool) (w : World) (c1 : Bool) (N T : Nat) (hmq : qs.length = m) (hm : m ≤ 1048576) (hT0 : T ≤ 8388608) (hra : Rd w 1 Aq m (strs qs)) (hz : szS qs ≤ 1048576) (hn : nb ≤ 1048576) (hrs : rs.length = nb) (hel : Elts 43 w Ab nb rs) (hc1 : c1 = true) (hN : N ≤ 4) (hT : ¬ T + m + 2 ≤ 160)
    (h1 : ∀ w', Calls Tryz.prog 44 #[.int .i64 m, .int .i64 1, .int .i64 4] w' fun e w'' => e = .returned (.bool c1) ∧ w' = w'')
    (h4 : ∀ w', Below w.heap.size w w' → Calls Tryz.prog 45 #[.slice Ab nb cb] w' fun e w'' => e = .returned (.int .i64 N) ∧ Below w'.heap.size w' w'' ∧ w'.heap.size ≤ w''.heap.size)
    (h5 : ∀ w', Below w.heap.size w w' → Calls Tryz.prog 46 #[.slice Ab nb cb] w' fun e w'' => e = .returned (.int .i64 T) ∧ Below w'.heap.size w' w'' ∧ w'.heap.size ≤ w''.heap.size) :
    Calls Tryz.prog 11 #[.agg #[.slice Aq m cq, .slice Ab nb cb]] w fun e w' => e = .returned (.bool (pgR c1 (allW qs) (rs.all id) N T m)) ∧ Below w.heap.size w w' ∧ w.heap.size ≤ w'.heap.size := by
  subst hc1
  have hNi : decide ((N : Int) ≤ 4) = true := by simp; omega
  have hNn : decide (N ≤ 4) = true := by simp; omega
  have HTw := Lib.hid (show decide (IntKind.i64.wrap (IntKind.i64.wrap ((T : Int) + (m : Int)) + 2) ≤ 160) = false by rw [IntWalk.i64_in ((T : Int) + (m : Int)) (by omega), IntWalk.i64_in _ (by omega)]; simp; omega)
  have HM := Lib.hid hmq
  have HRA := Lib.hid hra
  have HEL := Lib.hid hel
  have HRS := Lib.hid hrs
  have H1 := Lib.hid h1
  have H4 := Lib.hid h4
  have H5 := Lib.hid h5
  clear hra hel hrs h1 h4 h5 hmq
  go_enter Tryz.func11, Tryz.ntmps11
  go_wp2_with fail
  go_loop [10] (fun i => ∃ t : Nat, t ≤ m ∧ i = .int .i64 t ∧ (qs.take t).all wordOk = true) (fun i => m - (intOf i).toNat)
  case atStart => exact ⟨0, Nat.zero_le _, rfl, rfl⟩
  case round =>
    obtain ⟨t, ht, rfl, hok⟩ := hrel
    have HOK := Lib.hid hok
    clear hok
    by_cases hlt : t < m
    · have htl : t < qs.length := by have := HM.out; omega
      obtain ⟨s, hs⟩ : ∃ s, qs[t]? = some s := ⟨_, List.getElem?_eq_getElem htl⟩
      obtain ⟨b, off, rfl, _, hc⟩ := HRA.out.2 (by omega)
      have q0 := hc t _ (strs_at hs)
      have hsz := szS_mem hs
      have HS := Lib.hid hs
      have hs63 : s.size ≤ 9223372036854775807 := by omega
      clear hc hs htl hsz
      cases hw : wordOk s
      · have HF := Lib.hid (pgR_w (c1 := true) (V := rs.all id) (N := N) (T := T) (m := m) HS.out hw)
        go_wp2_with (go_at_call 42; refine (IsValidWord_impl _ _ hs63).mono ?_; rintro e w' ⟨rfl, rfl⟩)
        go_ret
        exact ⟨by rw [HF.out]; rfl, (by repeat (first | exact Below.refl _ _ | assumption | (refine Below.trans ?_ (Below.mono (by assumption) (by first | omega | (simp; done) | (simp; omega)))) | (with_reducible refine Below.drew ?_) | (with_reducible refine Below.alloc ?_ (by first | omega | (simp; done) | (simp; omega)) _) | (with_reducible refine Below.setCell ?_ (by first | omega | (simp; done) | (simp; omega)) _))), (by first | omega | (simp; done) | (simp; omega))⟩
      · have HN := Lib.hid (show (qs.take (t + 1)).all wordOk = true by rw [all_take _ HS.out, HOK.out, hw]; rfl)
        go_wp2_with (go_at_call 42; refine (IsValidWord_impl _ _ hs63).mono ?_; rintro e w' ⟨rfl, rfl⟩)
        go_round
        case rel => exact ⟨t + 1, by omega, by go_num, HN.out⟩
        case measure => simp [intOf]; omega
    · have HAL : Hid (allW qs = true) := by
        have h := HOK.out
        rw [List.take_of_length_le (by have := HM.out; omega)] at h
        exact h
      obtain ⟨w0, hw0⟩ : ∃ w0, w0 = w.alloc (.cells #[.slice Aq m cq, .slice Ab nb cb] 27) := ⟨_, rfl⟩
      have X0 := Lib.hid (show w0.heap[w.heap.size]? = some (.cells #[.slice Aq m cq, .slice Ab nb cb] 27 (0, 0)) by rw [hw0]; exact boxed1_0 _ _)
      have b0 : Below w.heap.size w w0 := by rw [hw0]; exact (by repeat (first | exact Below.refl _ _ | assumption | (refine Below.trans ?_ (Below.mono (by assumption) (by first | omega | (simp; done) | (simp; omega)))) | (with_reducible refine Below.drew ?_) | (with_reducible refine Below.alloc ?_ (by first | omega | (simp; done) | (simp; omega)) _) | (with_reducible refine Below.setCell ?_ (by first | omega | (simp; done) | (simp; omega)) _)))
      have s0 : w.heap.size ≤ w0.heap.size := b0.size
      go_wp2_with fail
      rw [← hw0]
      have B0 := Lib.hid b0
      clear hw0 b0
      go_loopw [21] (fun i wr => ∃ t : Nat, t ≤ nb ∧ i = .int .i64 t ∧ (rs.take t).all id = true ∧ Below w0.heap.size w0 wr) (fun i _ => nb - (intOf i).toNat)
      case atStart => exact ⟨0, Nat.zero_le _, rfl, rfl, Below.refl _ _⟩
      case round =>
        obtain ⟨t, ht, rfl, hok, hb⟩ := hrel
        have HOK2 := Lib.hid hok
        have hbs := hb.size
        clear hok
        by_cases hlt : t < nb
        · obtain ⟨b, off, k', wd', Aa', na', ca', ct', Ab', nb', cb', r, rfl, hbl, ⟨q0, q1, q2, q3, q4⟩, hr, hcall⟩ := HEL.out t hlt
          have hbw := (B0.out.trans (hb.mono s0))
          rw [← hbw.cell (p := ⟨b, _, none⟩) hbl] at q0 q1 q2 q3 q4
          have HC := Lib.hid (hcall _ ((hbw.alloc (by omega) (.cells #[.int .i64 k', .string wd', .slice Aa' na' ca', .int .i64 ct', .slice Ab' nb' cb'] 66))))
          have HR := Lib.hid hr
          clear hcall hr hbl hbw
          cases r
          · have HF := Lib.hid (pgR_b (c1 := true) (c2 := allW qs) (N := N) (T := T) (m := m) HR.out)
            go_wp2_with fail
            refine HC.out.mono ?_
            rintro e w2 ⟨rfl, hb2, hs2⟩
            go_wp2_with fail
            go_ret
            exact ⟨by rw [HF.out]; rfl, (B0.out.trans (hb.mono s0)).trans (((Below.refl _ _).alloc (Nat.le_refl _) _).trans (hb2.mono (by simp)) |>.mono (by omega)), by have := hs2; simp at this; omega⟩
          · have HN := Lib.hid (show (rs.take (t + 1)).all id = true by rw [all_take _ HR.out, HOK2.out]; rfl)
            go_wp2_with fail
            refine HC.out.mono ?_
            rintro e w2 ⟨rfl, hb2, hs2⟩
            go_wp2_with fail
            go_roundw
            case rel => exact ⟨t + 1, by omega, by go_num, HN.out, hb.trans (((Below.refl _ _).alloc (Nat.le_refl _) _).trans (hb2.mono (by simp)) |>.mono (by omega))⟩
            case measure => simp [intOf]; omega
        · have HRL : Hid (rs.all id = true) := by
            have h := HOK2.out
            rw [List.take_of_length_le (by have := HRS.out; omega)] at h
            exact h
          have HF := Lib.hid (show pgR true (allW qs) (rs.all id) N T m = false by rw [HAL.out, HRL.out]; simp [pgR, hN, hT])
          have HBB := Lib.hid (B0.out.trans (hb.mono s0))
          obtain ⟨p0, p1⟩ := boxcells2 (lay := hb) X0.out
          have HB := Lib.hid hb
          clear hb
          go_wp2_with fail
          first | (go_region_held3 (fun W => W.cell? ⟨w.heap.size, 0, none⟩ = some (.slice Aq m cq) ∧ W.cell? ⟨w.heap.size, 1, none⟩ = some (.slice Ab nb cb)) (first | exact ⟨p0, p1⟩ | exact ⟨a2, a3⟩ | exact ⟨a4, a5⟩) (first | (go_at_call 44; (with_reducible refine (H1.out _).mono ?_); rintro e w' ⟨rfl, rfl⟩) | (go_at_call 45; (with_reducible refine (H4.out _ ?_).mono ?_); exact HBB.out.drew; rintro e y4 ⟨rfl, d4, _⟩; have u4 := HB.out.trans ((bdrew d4).mono hbs); obtain ⟨a2, a3⟩ := boxcells2 (lay := u4) X0.out) | (go_at_call 46; (with_reducible refine (H5.out _ ?_).mono ?_); exact B0.out.trans (u4.mono s0); rintro e y5 ⟨rfl, d5, _⟩; have u5 := u4.trans (d5.mono u4.size); obtain ⟨a4, a5⟩ := boxcells2 (lay := u5) X0.out))) | fail "no"
          all_goals (go_wp2_with fail; go_ret; exact ⟨by rw [HF.out]; first | rfl | exact congrArg (fun b => Ending.returned (Value.bool b)) HTw.out, B0.out.trans (u5.mono s0), (B0.out.trans (u5.mono s0)).size⟩)
set_option maxRecDepth 100000 in
set_option maxHeartbeats 8000000 in
theorem pgm_impl_4 (Aq : Option Addr) (m cq : Nat) (qs : List ByteArray) (Ab : Option Addr) (nb cb : Nat) (rs : List Bool) (w : World) (c1 : Bool) (N T : Nat) (hmq : qs.length = m) (hm : m ≤ 1048576) (hT0 : T ≤ 8388608) (hra : Rd w 1 Aq m (strs qs)) (hz : szS qs ≤ 1048576) (hn : nb ≤ 1048576) (hrs : rs.length = nb) (hel : Elts 43 w Ab nb rs) (hc1 : c1 = true) (hN : N ≤ 4) (hT : T + m + 2 ≤ 160)
    (h1 : ∀ w', Calls Tryz.prog 44 #[.int .i64 m, .int .i64 1, .int .i64 4] w' fun e w'' => e = .returned (.bool c1) ∧ w' = w'')
    (h4 : ∀ w', Below w.heap.size w w' → Calls Tryz.prog 45 #[.slice Ab nb cb] w' fun e w'' => e = .returned (.int .i64 N) ∧ Below w'.heap.size w' w'' ∧ w'.heap.size ≤ w''.heap.size)
    (h5 : ∀ w', Below w.heap.size w w' → Calls Tryz.prog 46 #[.slice Ab nb cb] w' fun e w'' => e = .returned (.int .i64 T) ∧ Below w'.heap.size w' w'' ∧ w'.heap.size ≤ w''.heap.size) :
    Calls Tryz.prog 11 #[.agg #[.slice Aq m cq, .slice Ab nb cb]] w fun e w' => e = .returned (.bool (pgR c1 (allW qs) (rs.all id) N T m)) ∧ Below w.heap.size w w' ∧ w.heap.size ≤ w'.heap.size := by
  subst hc1
  have hNi : decide ((N : Int) ≤ 4) = true := by simp; omega
  have hNn : decide (N ≤ 4) = true := by simp; omega
  have HTw := Lib.hid (show decide (IntKind.i64.wrap (IntKind.i64.wrap ((T : Int) + (m : Int)) + 2) ≤ 160) = true by rw [IntWalk.i64_in ((T : Int) + (m : Int)) (by omega), IntWalk.i64_in _ (by omega)]; simp; omega)
  have HM := Lib.hid hmq
  have HRA := Lib.hid hra
  have HEL := Lib.hid hel
  have HRS := Lib.hid hrs
  have H1 := Lib.hid h1
  have H4 := Lib.hid h4
  have H5 := Lib.hid h5
  clear hra hel hrs h1 h4 h5 hmq
  go_enter Tryz.func11, Tryz.ntmps11
  go_wp2_with fail
  go_loop [10] (fun i => ∃ t : Nat, t ≤ m ∧ i = .int .i64 t ∧ (qs.take t).all wordOk = true) (fun i => m - (intOf i).toNat)
  case atStart => exact ⟨0, Nat.zero_le _, rfl, rfl⟩
  case round =>
    obtain ⟨t, ht, rfl, hok⟩ := hrel
    have HOK := Lib.hid hok
    clear hok
    by_cases hlt : t < m
    · have htl : t < qs.length := by have := HM.out; omega
      obtain ⟨s, hs⟩ : ∃ s, qs[t]? = some s := ⟨_, List.getElem?_eq_getElem htl⟩
      obtain ⟨b, off, rfl, _, hc⟩ := HRA.out.2 (by omega)
      have q0 := hc t _ (strs_at hs)
      have hsz := szS_mem hs
      have HS := Lib.hid hs
      have hs63 : s.size ≤ 9223372036854775807 := by omega
      clear hc hs htl hsz
      cases hw : wordOk s
      · have HF := Lib.hid (pgR_w (c1 := true) (V := rs.all id) (N := N) (T := T) (m := m) HS.out hw)
        go_wp2_with (go_at_call 42; refine (IsValidWord_impl _ _ hs63).mono ?_; rintro e w' ⟨rfl, rfl⟩)
        go_ret
        exact ⟨by rw [HF.out]; rfl, (by repeat (first | exact Below.refl _ _ | assumption | (refine Below.trans ?_ (Below.mono (by assumption) (by first | omega | (simp; done) | (simp; omega)))) | (with_reducible refine Below.drew ?_) | (with_reducible refine Below.alloc ?_ (by first | omega | (simp; done) | (simp; omega)) _) | (with_reducible refine Below.setCell ?_ (by first | omega | (simp; done) | (simp; omega)) _))), (by first | omega | (simp; done) | (simp; omega))⟩
      · have HN := Lib.hid (show (qs.take (t + 1)).all wordOk = true by rw [all_take _ HS.out, HOK.out, hw]; rfl)
        go_wp2_with (go_at_call 42; refine (IsValidWord_impl _ _ hs63).mono ?_; rintro e w' ⟨rfl, rfl⟩)
        go_round
        case rel => exact ⟨t + 1, by omega, by go_num, HN.out⟩
        case measure => simp [intOf]; omega
    · have HAL : Hid (allW qs = true) := by
        have h := HOK.out
        rw [List.take_of_length_le (by have := HM.out; omega)] at h
        exact h
      obtain ⟨w0, hw0⟩ : ∃ w0, w0 = w.alloc (.cells #[.slice Aq m cq, .slice Ab nb cb] 27) := ⟨_, rfl⟩
      have X0 := Lib.hid (show w0.heap[w.heap.size]? = some (.cells #[.slice Aq m cq, .slice Ab nb cb] 27 (0, 0)) by rw [hw0]; exact boxed1_0 _ _)
      have b0 : Below w.heap.size w w0 := by rw [hw0]; exact (by repeat (first | exact Below.refl _ _ | assumption | (refine Below.trans ?_ (Below.mono (by assumption) (by first | omega | (simp; done) | (simp; omega)))) | (with_reducible refine Below.drew ?_) | (with_reducible refine Below.alloc ?_ (by first | omega | (simp; done) | (simp; omega)) _) | (with_reducible refine Below.setCell ?_ (by first | omega | (simp; done) | (simp; omega)) _)))
      have s0 : w.heap.size ≤ w0.heap.size := b0.size
      go_wp2_with fail
      rw [← hw0]
      have B0 := Lib.hid b0
      clear hw0 b0
      go_loopw [21] (fun i wr => ∃ t : Nat, t ≤ nb ∧ i = .int .i64 t ∧ (rs.take t).all id = true ∧ Below w0.heap.size w0 wr) (fun i _ => nb - (intOf i).toNat)
      case atStart => exact ⟨0, Nat.zero_le _, rfl, rfl, Below.refl _ _⟩
      case round =>
        obtain ⟨t, ht, rfl, hok, hb⟩ := hrel
        have HOK2 := Lib.hid hok
        have hbs := hb.size
        clear hok
        by_cases hlt : t < nb
        · obtain ⟨b, off, k', wd', Aa', na', ca', ct', Ab', nb', cb', r, rfl, hbl, ⟨q0, q1, q2, q3, q4⟩, hr, hcall⟩ := HEL.out t hlt
          have hbw := (B0.out.trans (hb.mono s0))
          rw [← hbw.cell (p := ⟨b, _, none⟩) hbl] at q0 q1 q2 q3 q4
          have HC := Lib.hid (hcall _ ((hbw.alloc (by omega) (.cells #[.int .i64 k', .string wd', .slice Aa' na' ca', .int .i64 ct', .slice Ab' nb' cb'] 66))))
          have HR := Lib.hid hr
          clear hcall hr hbl hbw
          cases r
          · have HF := Lib.hid (pgR_b (c1 := true) (c2 := allW qs) (N := N) (T := T) (m := m) HR.out)
            go_wp2_with fail
            refine HC.out.mono ?_
            rintro e w2 ⟨rfl, hb2, hs2⟩
            go_wp2_with fail
            go_ret
            exact ⟨by rw [HF.out]; rfl, (B0.out.trans (hb.mono s0)).trans (((Below.refl _ _).alloc (Nat.le_refl _) _).trans (hb2.mono (by simp)) |>.mono (by omega)), by have := hs2; simp at this; omega⟩
          · have HN := Lib.hid (show (rs.take (t + 1)).all id = true by rw [all_take _ HR.out, HOK2.out]; rfl)
            go_wp2_with fail
            refine HC.out.mono ?_
            rintro e w2 ⟨rfl, hb2, hs2⟩
            go_wp2_with fail
            go_roundw
            case rel => exact ⟨t + 1, by omega, by go_num, HN.out, hb.trans (((Below.refl _ _).alloc (Nat.le_refl _) _).trans (hb2.mono (by simp)) |>.mono (by omega))⟩
            case measure => simp [intOf]; omega
        · have HRL : Hid (rs.all id = true) := by
            have h := HOK2.out
            rw [List.take_of_length_le (by have := HRS.out; omega)] at h
            exact h
          have HF := Lib.hid (show pgR true (allW qs) (rs.all id) N T m = true by rw [HAL.out, HRL.out]; simp [pgR, hN, hT])
          have HBB := Lib.hid (B0.out.trans (hb.mono s0))
          obtain ⟨p0, p1⟩ := boxcells2 (lay := hb) X0.out
          have HB := Lib.hid hb
          clear hb
          go_wp2_with fail
          first | (go_region_held3 (fun W => W.cell? ⟨w.heap.size, 0, none⟩ = some (.slice Aq m cq) ∧ W.cell? ⟨w.heap.size, 1, none⟩ = some (.slice Ab nb cb)) (first | exact ⟨p0, p1⟩ | exact ⟨a2, a3⟩ | exact ⟨a4, a5⟩) (first | (go_at_call 44; (with_reducible refine (H1.out _).mono ?_); rintro e w' ⟨rfl, rfl⟩) | (go_at_call 45; (with_reducible refine (H4.out _ ?_).mono ?_); exact HBB.out.drew; rintro e y4 ⟨rfl, d4, _⟩; have u4 := HB.out.trans ((bdrew d4).mono hbs); obtain ⟨a2, a3⟩ := boxcells2 (lay := u4) X0.out) | (go_at_call 46; (with_reducible refine (H5.out _ ?_).mono ?_); exact B0.out.trans (u4.mono s0); rintro e y5 ⟨rfl, d5, _⟩; have u5 := u4.trans (d5.mono u4.size); obtain ⟨a4, a5⟩ := boxcells2 (lay := u5) X0.out))) | fail "no"
          all_goals (go_wp2_with fail; go_ret; exact ⟨by rw [HF.out]; first | rfl | exact congrArg (fun b => Ending.returned (Value.bool b)) HTw.out, B0.out.trans (u5.mono s0), (B0.out.trans (u5.mono s0)).size⟩)
theorem elts_of : ∀ (d lo : Nat) (bd : List (Tr d)) (Ab : Option Addr) (nb : Nat) (w : World), RdT w lo d Ab nb bd → GN w → szT d bd ≤ 1048576 → nb ≤ 1048576 ∧ ∃ rs : List Bool, rs.length = nb ∧ rs.all id = validT d bd ∧ Elts 43 w Ab nb rs := by
  intro d
  cases d with
  | zero =>
    intro lo bd Ab nb w hrb hG hsz
    obtain rfl := szT_zero_len hrb
    exact ⟨by omega, [], rfl, rfl, fun t ht => absurd ht (by omega)⟩
  | succ d =>
    intro lo bd Ab nb w hrb hG hsz
    have hlen := hrb.len
    subst hlen
    have hn : bd.length ≤ 1048576 := by rw [szT_succ] at hsz; omega
    refine ⟨hn, bd.map fun s => vOne d (validT d) (hdT s) (bdT s), by simp, rs_valid bd, fun t ht => ?_⟩
    obtain ⟨b, off, s, Aa', ca', Ab', nb', cb', rfl, hbl, hs, ⟨c0, c1, c2, c3, c4⟩, h2, h3⟩ := hrb.at_ ht
    refine ⟨b, off, (hdT s).k, (hdT s).word, Aa', (hdT s).args.length, ca', (hdT s).count, Ab', nb', cb', _, rfl, hbl, ⟨c0, c1, c2, c3, c4⟩, by rw [List.getElem?_map, hs]; rfl, fun w' hw' => ?_⟩
    have hme := szT_mem hs
    have hq := hsz
    rw [szT_succ] at hq
    unfold szE at hme
    exact IsValidStmt_impl d lo _ _ _ _ (bdT s) _ _ _ _ _ _ (h2.below hw') (h3.below hw') (hG.below hw') (by omega) (by omega) (by omega)
theorem IsValidProgram_impl (d lo lo' : Nat) (Aq : Option Addr) (cq : Nat) (qs : List ByteArray) (bd : List (Tr d)) (Ab : Option Addr) (nb cb : Nat) (w : World) (hra : RdL w lo 1 Aq qs.length (strs qs)) (hrb : RdT w lo' d Ab nb bd) (hG : GN w) (hm : qs.length ≤ 1048576) (hz : szS qs ≤ 1048576) (hsz : szT d bd ≤ 1048576) :
    Calls Tryz.prog 11 #[.agg #[.slice Aq qs.length cq, .slice Ab nb cb]] w fun e w' => e = .returned (.bool (progV d qs bd)) ∧ Below w.heap.size w w' ∧ w.heap.size ≤ w'.heap.size := by
  have h1 : ∀ w', Calls Tryz.prog 44 #[.int .i64 qs.length, .int .i64 1, .int .i64 4] w' fun e w'' => e = .returned (.bool (inB qs.length 1 4)) ∧ w' = w'' := fun w' => in_any _ _ _ _
  have h4 : ∀ w', Below w.heap.size w w' → Calls Tryz.prog 45 #[.slice Ab nb cb] w' fun e w'' => e = .returned (.int .i64 (nestT d bd)) ∧ Below w'.heap.size w' w'' ∧ w'.heap.size ≤ w''.heap.size := fun w' hb => NestingDepth_impl d _ _ _ _ _ _ (hrb.below hb) hsz
  have h5 : ∀ w', Below w.heap.size w w' → Calls Tryz.prog 46 #[.slice Ab nb cb] w' fun e w'' => e = .returned (.int .i64 (tokT d bd)) ∧ Below w'.heap.size w' w'' ∧ w'.heap.size ≤ w''.heap.size := fun w' hb => StmtTokenCount_impl d _ _ _ _ _ _ (hrb.below hb) hsz
  have hT := tokT_le d bd
  obtain ⟨hn, rs, hrs, hall, hel⟩ := elts_of d lo' bd Ab nb w hrb hG hsz
  unfold progV
  rw [← hall]
  cases hc1 : inB qs.length 1 4
  · exact pgm_impl_1 _ _ _ qs _ _ _ rs w _ _ _ rfl hm (by omega) hra.rd hz hn hrs hel rfl (hc1 ▸ h1) h4 h5
  by_cases hN : nestT d bd ≤ 4
  · by_cases hT' : tokT d bd + qs.length + 2 ≤ 160
    · exact pgm_impl_4 _ _ _ qs _ _ _ rs w _ _ _ rfl hm (by omega) hra.rd hz hn hrs hel rfl hN hT' (hc1 ▸ h1) h4 h5
    · exact pgm_impl_3 _ _ _ qs _ _ _ rs w _ _ _ rfl hm (by omega) hra.rd hz hn hrs hel rfl hN hT' (hc1 ▸ h1) h4 h5
  · exact pgm_impl_2 _ _ _ qs _ _ _ rs w _ _ _ rfl hm (by omega) hra.rd hz hn hrs hel rfl hN (hc1 ▸ h1) h4 h5
end Go.Proofs.YthkbckkghnbonaaGreatDoor
namespace Go.Proofs.YthkbckkghnbonaaGreatDoor
open Go.RowKit
set_option linter.unusedVariables false
def qTk : Tk := wTk ⟨#[113, 117, 98, 105, 116, 115]⟩
/-- The tokens of a program, those of its statements given. -/
def pg1 (qs : List ByteArray) (b : List Tk) : List Tk := (([qTk] ++ qs.map wTk) ++ [pTk 2]) ++ b
theorem pg1_len (qs : List ByteArray) (b : List Tk) : (pg1 qs b).length = 2 + qs.length + b.length := by simp [pg1]; omega
theorem step_append_rd {P : Program} (w : World) {ops : Array Oper} {o : Oper} {a : Act} {K : Act → World → Prop} {Q : Exit → Act → World → Prop} {E : Prop} (hgd : o.guard = none) (s x : Operand) (t : TypeId)
    (ho : o.op = .call { callee := .builtin .append, args := #[s, x], argTypes := #[t, t] })
    (base : Nat) (e : TypeId) (i : TypeInfo) (z : Value) (size bytes : Nat) (ht : P.underlying t = some (.slice e)) (hi : P.info? e = some i) (hz : i.zero = some z)
    (hsize : i.size = size) (hby : i.bytes = bytes) (hzs : z.cells.size = size) (hsz : 0 < size)
    (v : Value) (n : Nat) (xs : List Value) (hs : a.eval s = v) (hown : w.ownsRow base e size v n xs)
    (A : Option Addr) (m c : Nat) (news : List Value) (hx : a.eval x = .slice A m c) (hr : Rd w size A m news) (h1 : ∀ u ∈ news, u.oneCell' = true)
    (h63 : n + m ≤ maxLen) (hbytes : (n + m) * bytes ≤ 140737488355328) (hbase : base ≤ w.heap.size)
    (h : ∀ v' w', w'.ownsRow base e size v' (n + m) (xs ++ news) → w.grownBy w' v.ownBlock → (v'.ownBlock = v.ownBlock ∨ v'.ownBlock = some w.heap.size) → K (a.put o.dst v') w') :
    if Region.wanted o (yielded ops a.tmps) = true then Oper.wp P o a w K Q else E := by
  have hw : Region.wanted o (yielded ops a.tmps) = true := by simp [Region.wanted, hgd]
  rw [if_pos hw]
  obtain ⟨v', w', hrun, h2, h3, h4⟩ := run_append_rd (P := P) w base t o.type e i z size bytes ht hi hz hsize hby hzs hsz v n xs hown A m c news hr h1 h63 hbytes hbase
  unfold Oper.wp execOp
  simp only [ho, resolve, invoke, builtin, Sem.run_bind, Sem.run_pure, Result.andThen_ok, List.map_toArray, List.map_cons, List.map_nil, hs, hx, hrun]
  exact h v' w' h2 h3 h4
set_option maxRecDepth 100000 in
set_option maxHeartbeats 4000000 in
theorem ptoks_impl_v (Aq : Option Addr) (m cq : Nat) (qs : List ByteArray) (Ab : Option Addr) (nb cb : Nat) (w : World) (rs : List (List Tk)) (hm : qs.length = m) (hra : Rd w 1 Aq m (strs qs)) (hl : m ≤ 1048576) (hn : nb ≤ 1048576) (hrs : rs.length = nb) (hel : EltsT 96 w Ab nb rs) (hR : rs.flatten.length ≤ 1099511627776)
    (hval : ∀ w', Below w.heap.size w w' → Calls Tryz.prog 11 #[.agg #[.slice Aq m cq, .slice Ab nb cb]] w' fun e w'' => e = .returned (.bool true) ∧ Below w'.heap.size w' w'' ∧ w'.heap.size ≤ w''.heap.size) :
    Calls Tryz.prog 39 #[.agg #[.slice Aq m cq, .slice Ab nb cb]] w (RetTk w (pg1 qs rs.flatten)) := by
  obtain ⟨i0, hi, hz0, hz1, hz2⟩ := info_parts info_TkE
  obtain ⟨w0, hw0⟩ : ∃ w0, w0 = w.alloc (.cells #[.slice Aq m cq, .slice Ab nb cb] 27) := ⟨_, rfl⟩
  have X0 := Lib.hid (show w0.heap[w.heap.size]? = some (.cells #[.slice Aq m cq, .slice Ab nb cb] 27 (0, 0)) by rw [hw0]; exact boxed1_0 _ _)
  have b0 : Below w.heap.size w w0 := by rw [hw0]; exact (by repeat (first | exact Below.refl _ _ | assumption | (refine Below.trans ?_ (Below.mono (by assumption) (by first | omega | (simp; done) | (simp; omega)))) | (with_reducible refine Below.drew ?_) | (with_reducible refine Below.alloc ?_ (by first | omega | (simp; done) | (simp; omega)) _) | (with_reducible refine Below.setCell ?_ (by first | omega | (simp; done) | (simp; omega)) _)))
  have s0 : w.heap.size ≤ w0.heap.size := b0.size
  have z0 : w.heap.size < w0.heap.size := by rw [hw0]; simp
  have HV := Lib.hid (hval w0 b0)
  have B0 := Lib.hid b0
  have HW := Lib.hid hw0
  have HM := Lib.hid hm
  have HRA := Lib.hid (hra.below b0)
  have HEL := Lib.hid hel
  have HRS := Lib.hid hrs
  have HR := Lib.hid hR
  clear b0 hw0 hm hra hel hrs hR hval
  go_enter Tryz.func39, Tryz.ntmps39
  go_wp2_with fail
  rw [← HW.out]
  refine HV.out.mono ?_
  rintro e w1 ⟨rfl, b1, s1⟩
  obtain ⟨p0, p1⟩ := boxcells2 (lay := b1) X0.out
  have zl1 : w.heap.size < w1.heap.size := by omega
  go_wp2_with fail
  refine (word_any _ _).mono ?_
  rintro e w2 ⟨rfl, b2, s2⟩
  have hb2 : Below w0.heap.size w0 w2 := b1.trans (b2.mono s1)
  have hs2 := hb2.size
  clear p0 p1 b1 b2 s2
  obtain ⟨p0, p1⟩ := boxcells2 (lay := hb2) X0.out
  have zl2 : w.heap.size < w2.heap.size := by omega
  obtain ⟨w3, hw3⟩ : ∃ w3, w3 = w2.alloc (.cells #[.int .i64 1, .string ⟨#[113, 117, 98, 105, 116, 115]⟩] 110) := ⟨_, rfl⟩
  have own3 : w3.ownsRow w0.heap.size 110 2 (.slice (some ⟨w2.heap.size, 0, none⟩) 1 1) 1 (tkcs [qTk]) := by rw [hw3]; exact World.ownsRow_lit w2 #[.int .i64 1, .string ⟨#[113, 117, 98, 105, 116, 115]⟩] 1 hs2 (by simp [maxLen]) rfl
  have hb3 : Below w0.heap.size w0 w3 := by rw [hw3]; exact hb2.alloc hs2 _
  have hs3 := hb3.size
  have HW3 := Lib.hid hw3
  clear hw3
  go_wp2_with fail
  rw [← HW3.out]
  clear p0 p1
  obtain ⟨L0, hL0⟩ : ∃ L0, L0 = [qTk] := ⟨_, rfl⟩
  have HL0 := Lib.hid hL0
  rw [← hL0] at own3
  clear hL0
  go_loopw [3, 16] (fun v i wr => ∃ t : Nat, t ≤ m ∧ i = .int .i64 t ∧ wr.ownsRow w0.heap.size 110 2 v (1 + t) (tkcs (L0 ++ (qs.take t).map wTk)) ∧ Below w0.heap.size w0 wr) (fun _ i _ => m - (intOf i).toNat)
  case atStart => exact ⟨0, Nat.zero_le _, rfl, by simpa using own3, hb3⟩
  case round =>
    obtain ⟨t, ht, rfl, hown, hb⟩ := hrel
    have hbs := hb.size
    by_cases hlt : t < m
    · obtain ⟨s, hs⟩ : ∃ s, qs[t]? = some s := ⟨_, List.getElem?_eq_getElem (by have := HM.out; omega)⟩
      obtain ⟨b, off, rfl, hbl, hc⟩ := HRA.out.2 (by omega)
      have q0 : wr.cell? ⟨b, off + t, none⟩ = some (.string s) := (hb.cell (by exact hbl)).trans (hc t _ (strs_at hs))
      have HS := Lib.hid (map_step (f := wTk) hs)
      obtain ⟨L, hL⟩ : ∃ L, L = (qs.take t).map wTk := ⟨_, rfl⟩
      rw [← hL] at hown HS
      clear hc hs hL
      go_wp2_with fail
      refine (word_any s _).mono ?_
      rintro e w5 ⟨rfl, b5, s5⟩
      have hown1 := ownsRow_below hown b5
      have hb5 := hb.trans (b5.mono hbs)
      have hb5s := hb5.size
      clear hown
      go_wp2_with (at_builtin; refine wpList_append_rd _ rfl _ _ 53 rfl w0.heap.size 110 i0 _ 2 24 Tryz.underlying53 hi hz0 hz1 hz2 rfl (by decide) _ _ _ rfl (hown1.alloc _) _ 1 1 _ rfl (rd_lit2 ?c0 rfl) ?c2 ?c3 ?c4 ?c5 ?_)
      case c0 => first | rfl | simp
      case c2 => repeat' (first | rfl | apply And.intro)
      case c3 => simp only [maxLen]; omega
      case c4 => omega
      case c5 => first | omega | (simp; omega)
      intro v6 w6 own6 gr6 _
      have hb6 := (hb5.alloc hb5s _).grown gr6 (by simp; omega) (own_ge hown1)
      clear hown1 gr6
      go_wp2_with fail
      go_roundw
      case rel =>
        refine ⟨t + 1, by omega, by go_num, ?_, hb6⟩
        rw [HS.out, ← List.append_assoc, tkcs_append, ← Nat.add_assoc]
        exact own6
      case measure => simp [intOf]; omega
    · obtain rfl : m = t := by omega
      rw [List.take_of_length_le (by have := HM.out; omega)] at hown
      obtain ⟨L1, hL1⟩ : ∃ L1, L1 = L0 ++ qs.map wTk := ⟨_, rfl⟩
      rw [← hL1] at hown
      have HL1 : Hid (L1 = [qTk] ++ qs.map wTk) := by rw [hL1, HL0.out]; exact rfl
      clear hL1
      go_wp2_with (at_builtin; refine wpList_append_rd _ rfl _ _ 53 rfl w0.heap.size 110 i0 _ 2 24 Tryz.underlying53 hi hz0 hz1 hz2 rfl (by decide) _ _ _ rfl (hown.alloc _) _ 1 1 _ rfl (rd_lit2 ?c0 rfl) ?c2 ?c3 ?c4 ?c5 ?_)
      case c0 => first | rfl | simp
      case c2 => repeat' (first | rfl | apply And.intro)
      case c3 => simp only [maxLen]; omega
      case c4 => omega
      case c5 => first | omega | (simp; omega)
      intro v7 w7 own7 gr7 _
      have hb7 := (hb.alloc (by omega) _).grown gr7 (by simp; omega) (own_ge hown)
      have hs7 := hb7.size
      clear hown gr7
      obtain ⟨p0, p1⟩ := boxcells2 (lay := hb7) X0.out
      have zl7 : w.heap.size < w7.heap.size := by omega
      obtain ⟨L2, hL2⟩ : ∃ L2, L2 = L1 ++ [pTk 2] := ⟨_, rfl⟩
      have own7 : w7.ownsRow w0.heap.size 110 2 v7 (1 + m + 1) (tkcs L2) := by rw [hL2, tkcs_append]; exact own7
      have HL2 := Lib.hid hL2
      obtain ⟨N2, hN2⟩ : ∃ N2, N2 = 1 + m + 1 := ⟨_, rfl⟩
      rw [← hN2] at own7
      have hN2' : N2 ≤ 1048580 := by omega
      clear hL2 hN2
      go_wp2_with fail
      go_loopw [3, 33] (fun v i wr => ∃ t : Nat, t ≤ nb ∧ i = .int .i64 t ∧ wr.ownsRow w0.heap.size 110 2 v (N2 + (rs.take t).flatten.length) (tkcs (L2 ++ (rs.take t).flatten)) ∧ Below w0.heap.size w0 wr) (fun _ i _ => nb - (intOf i).toNat)
      case atStart => exact ⟨0, Nat.zero_le _, rfl, by simpa using own7, hb7⟩
      case round =>
        obtain ⟨t, ht, rfl, hown, hb⟩ := hrel
        have hbs := hb.size
        have hFle := flat_le rs t
        have hRR := HR.out
        by_cases hlt : t < nb
        · obtain ⟨b, off, k', wd', Aa', na', ca', ct', Ab', nb', cb', r, rfl, hbl, ⟨q0, q1, q2, q3, q4⟩, hr, hcall⟩ := HEL.out t hlt
          have hbw := (B0.out.trans (hb.mono s0))
          rw [← hbw.cell (p := ⟨b, _, none⟩) hbl] at q0 q1 q2 q3 q4
          have HC := Lib.hid (hcall _ ((hbw.alloc (by omega) (.cells #[.int .i64 k', .string wd', .slice Aa' na' ca', .int .i64 ct', .slice Ab' nb' cb'] 66))))
          have HS := Lib.hid (flat_step hr)
          have hF1 := flat_le rs (t + 1)
          rw [flat_step hr, List.length_append] at hF1
          obtain ⟨F, hF⟩ : ∃ F, F = (rs.take t).flatten := ⟨_, rfl⟩
          rw [← hF] at hown HS hF1 hFle
          have hlt0 : b < wr.heap.size := by have := hbw.size; omega
          clear hcall hr hbl hF
          go_wp2_with fail
          refine HC.out.mono ?_
          rintro e w8 ⟨v8, rfl, o8, b8, s8⟩
          obtain ⟨A8, c8, rfl, _, _, r8⟩ := rd_of_own o8
          have hb8' : Below wr.heap.size wr w8 := ((Below.refl _ _).alloc (Nat.le_refl _) _).trans (b8.mono (by simp))
          have own8 := ownsRow_below hown hb8'
          have hb8 := hb.trans (hb8'.mono hbs)
          have hs8 := hb8.size
          clear hown o8 b8 s8 q0 q1 q2 q3 q4
          go_wp2_with (at_builtin; refine wpList_append_rd _ rfl _ _ 53 rfl w0.heap.size 110 i0 _ 2 24 Tryz.underlying53 hi hz0 hz1 hz2 rfl (by decide) _ _ _ rfl own8 _ _ _ _ rfl r8 ?c2 ?c3 ?c4 ?c5 ?_)
          case c2 => exact tkc_ones r
          case c3 => simp only [maxLen]; omega
          case c4 => omega
          case c5 => first | omega | (simp; omega)
          intro v9 w9 own9 gr9 _
          have hb9 := hb8.grown gr9 (by omega) (own_ge own8)
          clear own8 gr9 r8
          go_wp2_with fail
          go_roundw
          case rel =>
            refine ⟨t + 1, by omega, by go_num, ?_, hb9⟩
            rw [HS.out, ← List.append_assoc, tkcs_append, List.length_append, ← Nat.add_assoc]
            exact own9
          case measure => simp [intOf]; omega
        · obtain rfl : nb = t := by omega
          rw [List.take_of_length_le (by have := HRS.out; omega)] at hown hFle
          have O := Lib.hid hown
          clear hown
          go_wp2_with fail
          go_ret
          refine retTk_of ?_ (own_low O.out s0) (B0.out.trans (hb.mono s0)) (by omega)
          rw [HL2.out, HL1.out]
          rfl
set_option maxRecDepth 100000 in
set_option maxHeartbeats 4000000 in
theorem ptoks_spec_v (Aq : Option Addr) (m cq : Nat) (qs : List ByteArray) (Ab : Option Addr) (nb cb : Nat) (w : World) (rs : List (List Tk)) (hm : qs.length = m) (hra : Rd w 1 Aq m (strs qs)) (hl : m ≤ 1048576) (hn : nb ≤ 1048576) (hrs : rs.length = nb) (hel : EltsT 99 w Ab nb rs) (hR : rs.flatten.length ≤ 1099511627776)
    (hval : ∀ w', Below w.heap.size w w' → Calls Tryz.prog 12 #[.agg #[.slice Aq m cq, .slice Ab nb cb]] w' fun e w'' => e = .returned (.bool true) ∧ Below w'.heap.size w' w'' ∧ w'.heap.size ≤ w''.heap.size) :
    Calls Tryz.prog 41 #[.agg #[.slice Aq m cq, .slice Ab nb cb]] w (RetTk w (pg1 qs rs.flatten)) := by
  obtain ⟨i0, hi, hz0, hz1, hz2⟩ := info_parts info_TkE
  obtain ⟨w0, hw0⟩ : ∃ w0, w0 = w.alloc (.cells #[.slice Aq m cq, .slice Ab nb cb] 27) := ⟨_, rfl⟩
  have X0 := Lib.hid (show w0.heap[w.heap.size]? = some (.cells #[.slice Aq m cq, .slice Ab nb cb] 27 (0, 0)) by rw [hw0]; exact boxed1_0 _ _)
  have b0 : Below w.heap.size w w0 := by rw [hw0]; exact (by repeat (first | exact Below.refl _ _ | assumption | (refine Below.trans ?_ (Below.mono (by assumption) (by first | omega | (simp; done) | (simp; omega)))) | (with_reducible refine Below.drew ?_) | (with_reducible refine Below.alloc ?_ (by first | omega | (simp; done) | (simp; omega)) _) | (with_reducible refine Below.setCell ?_ (by first | omega | (simp; done) | (simp; omega)) _)))
  have s0 : w.heap.size ≤ w0.heap.size := b0.size
  have z0 : w.heap.size < w0.heap.size := by rw [hw0]; simp
  have HV := Lib.hid (hval w0 b0)
  have B0 := Lib.hid b0
  have HW := Lib.hid hw0
  have HM := Lib.hid hm
  have HRA := Lib.hid (hra.below b0)
  have HEL := Lib.hid hel
  have HRS := Lib.hid hrs
  have HR := Lib.hid hR
  clear b0 hw0 hm hra hel hrs hR hval
  go_enter Tryz.func41, Tryz.ntmps41
  go_wp2_with fail
  rw [← HW.out]
  refine HV.out.mono ?_
  rintro e w1 ⟨rfl, b1, s1⟩
  obtain ⟨p0, p1⟩ := boxcells2 (lay := b1) X0.out
  have zl1 : w.heap.size < w1.heap.size := by omega
  go_wp2_with fail
  have R1 := HRA.out.below b1
  have hbd1 : Below w0.heap.size w0 w1 := b1
  have lit : ∀ W : World, w1.heap.size ≤ W.heap.size → (W.alloc (.cells #[.int .i64 1, .string ⟨#[113, 117, 98, 105, 116, 115]⟩] 110)).ownsRow w1.heap.size 110 2 (.slice (some ⟨W.heap.size, 0, none⟩) 1 1) 1 (tkcs [qTk]) := fun W h => World.ownsRow_lit W #[.int .i64 1, .string ⟨#[113, 117, 98, 105, 116, 115]⟩] 1 h (by simp [maxLen]) rfl
  have LIT := Lib.hid lit
  clear lit b1
  have al : ∀ (W : World) (ob : Obj), Below W.heap.size W (W.alloc ob) := fun W ob => (Below.refl _ _).alloc (Nat.le_refl _) _
  have AL := Lib.hid al
  clear al
  have RH := Lib.hid R1
  clear R1
  go_region_held3 (fun W => W.cell? ⟨w.heap.size, 0, none⟩ = some (.slice Aq m cq) ∧ W.cell? ⟨w.heap.size, 1, none⟩ = some (.slice Ab nb cb)) (first | exact ⟨p0, p1⟩ | exact ⟨pa0, pa1⟩ | exact ⟨pb0, pb1⟩ | exact boxcells2 (lay := hbd1.trans (hb2.mono s1)) X0.out | go_keep) (first | (go_at_call 97; (with_reducible refine (l19Word_any _ _).mono ?_); rintro e wa ⟨rfl, ba, sa⟩; (first | have ba1 : Below w1.heap.size w1 wa := below_undrew3 ba | have ba1 : Below w1.heap.size w1 wa := bb1.trans (ba.mono (by omega))); have sa1 := ba1.size; obtain ⟨pa0, pa1⟩ := boxcells2 (lay := hbd1.trans (ba1.mono (by omega))) X0.out) | (go_at_call 98; (with_reducible refine (l19Words_any Aq m cq qs _ (by first | exact RH.out.drew | exact RH.out.below ba1 | exact (RH.out.below ba1).below (AL.out _ _)) HM.out hl).mono ?_); rintro e wb ⟨vb, rfl, ob, bb, sb⟩; obtain ⟨Abb, cbb, rfl, _, _, rb⟩ := rd_of_own ob; (first | have bb1 : Below w1.heap.size w1 wb := below_undrew3 bb | have bb1 : Below w1.heap.size w1 wb := ba1.trans (bb.mono (by omega)) | have bb1 : Below w1.heap.size w1 wb := (ba1.alloc (by omega) _).trans (bb.mono (by simp; omega))); have sb1 := bb1.size; obtain ⟨pb0, pb1⟩ := boxcells2 (lay := hbd1.trans (bb1.mono (by omega))) X0.out) | (refine step_append_rd _ (by rfl) (.tmp 10) (.tmp 13) 53 (by rfl) w1.heap.size 110 i0 _ 2 24 Tryz.underlying53 hi hz0 hz1 hz2 (by rfl) (by decide) _ 1 _ (by rfl) (by first | exact ownsRow_below (LIT.out wa sa1) bb | exact LIT.out wb sb1 | exact LIT.out wa sa1) _ m _ _ (by rfl) (by first | exact rb | exact rb.below (AL.out _ _) | exact (rb.below ba).below (AL.out _ _)) (tkc_ones _) (by simp only [maxLen]; omega) (by omega) (by first | exact sb1 | exact Nat.le_trans sb1 (AL.out _ _).size | exact Nat.le_trans sa1 (AL.out _ _).size) ?_; intro v2 w2 own2 gr2 _; have hb2 : Below w1.heap.size w1 w2 := by first | exact bb1.grown gr2 sb1 (fun k hk => Nat.le_trans sa1 (Nat.le_of_eq (Option.some.inj (show some wa.heap.size = some k from hk)))) | exact (bb1.alloc sb1 _).grown gr2 (Nat.le_trans sb1 (AL.out _ _).size) (fun k hk => Nat.le_trans sb1 (Nat.le_of_eq (Option.some.inj (show some wb.heap.size = some k from hk)))) | exact (ba1.alloc sa1 _).grown gr2 (Nat.le_trans sa1 (AL.out _ _).size) (fun k hk => Nat.le_trans sa1 (Nat.le_of_eq (Option.some.inj (show some wa.heap.size = some k from hk))))))
  all_goals
    have hbq := hbd1.trans (hb2.mono s1)
    have hsq := hbq.size
    have O2 := Lib.hid (own_low own2 s1)
    clear own2 gr2 hb2
    obtain ⟨L1, hL1⟩ : ∃ L1, L1 = [qTk] ++ qs.map wTk := ⟨_, rfl⟩
    have own2 : w2.ownsRow w0.heap.size 110 2 v2 (1 + m) (tkcs L1) := by rw [hL1, tkcs_append]; exact O2.out
    have HL1 := Lib.hid hL1
    clear hL1
    try clear p0 p1 pa0 pa1 pb0 pb1
    go_wp2_with (at_builtin; refine wpList_append_rd _ rfl _ _ 53 rfl w0.heap.size 110 i0 _ 2 24 Tryz.underlying53 hi hz0 hz1 hz2 rfl (by decide) _ _ _ rfl (own2.alloc _) _ 1 1 _ rfl (rd_lit2 ?c0 rfl) ?c2 ?c3 ?c4 ?c5 ?_)
    case c0 => first | rfl | simp
    case c2 => repeat' (first | rfl | apply And.intro)
    case c3 => simp only [maxLen]; omega
    case c4 => omega
    case c5 => first | omega | (simp; omega)
    intro v7 w7 own7 gr7 _
    have hb7 := (hbq.alloc (by omega) _).grown gr7 (by simp; omega) (own_ge own2)
    have hs7 := hb7.size
    clear own2 gr7
    obtain ⟨p0, p1⟩ := boxcells2 (lay := hb7) X0.out
    have zl7 : w.heap.size < w7.heap.size := by omega
    obtain ⟨L2, hL2⟩ : ∃ L2, L2 = L1 ++ [pTk 2] := ⟨_, rfl⟩
    have own7 : w7.ownsRow w0.heap.size 110 2 v7 (1 + m + 1) (tkcs L2) := by rw [hL2, tkcs_append]; exact own7
    have HL2 := Lib.hid hL2
    obtain ⟨N2, hN2⟩ : ∃ N2, N2 = 1 + m + 1 := ⟨_, rfl⟩
    rw [← hN2] at own7
    have hN2' : N2 ≤ 1048580 := by omega
    clear hL2 hN2
    go_wp2_with fail
    go_loopw [3, 4] (fun v i wr => ∃ t : Nat, t ≤ nb ∧ i = .int .i64 t ∧ wr.ownsRow w0.heap.size 110 2 v (N2 + (rs.take t).flatten.length) (tkcs (L2 ++ (rs.take t).flatten)) ∧ Below w0.heap.size w0 wr) (fun _ i _ => nb - (intOf i).toNat)
    case atStart => exact ⟨0, Nat.zero_le _, rfl, by simpa using own7, hb7⟩
    case round =>
      obtain ⟨t, ht, rfl, hown, hb⟩ := hrel
      have hbs := hb.size
      have hFle := flat_le rs t
      have hRR := HR.out
      obtain ⟨p0, p1⟩ := boxcells2 (lay := hb) X0.out
      have zl : w.heap.size < wr.heap.size := by omega
      by_cases hlt : t < nb
      · obtain ⟨b, off, k', wd', Aa', na', ca', ct', Ab', nb', cb', r, rfl, hbl, ⟨q0, q1, q2, q3, q4⟩, hr, hcall⟩ := HEL.out t hlt
        have hbw := (B0.out.trans (hb.mono s0))
        rw [← hbw.cell (p := ⟨b, _, none⟩) hbl] at q0 q1 q2 q3 q4
        have HC := Lib.hid (hcall _ hbw)
        have HS := Lib.hid (flat_step hr)
        have hF1 := flat_le rs (t + 1)
        rw [flat_step hr, List.length_append] at hF1
        obtain ⟨F, hF⟩ : ∃ F, F = (rs.take t).flatten := ⟨_, rfl⟩
        rw [← hF] at hown HS hF1 hFle
        have hlt0 : b < wr.heap.size := by have := hbw.size; omega
        clear hcall hr hbl hF
        go_wp2_with fail
        refine HC.out.mono ?_
        rintro e w8 ⟨v8, rfl, o8, b8, s8⟩
        obtain ⟨A8, c8, rfl, _, _, r8⟩ := rd_of_own o8
        have hb8' : Below wr.heap.size wr w8 := b8
        have own8 := ownsRow_below hown hb8'
        have hb8 := hb.trans (hb8'.mono hbs)
        have hs8 := hb8.size
        clear hown o8 b8 s8 q0 q1 q2 q3 q4 p0 p1
        go_wp2_with (at_builtin; refine wpList_append_rd _ rfl _ _ 53 rfl w0.heap.size 110 i0 _ 2 24 Tryz.underlying53 hi hz0 hz1 hz2 rfl (by decide) _ _ _ rfl own8 _ _ _ _ rfl r8 ?c2 ?c3 ?c4 ?c5 ?_)
        case c2 => exact tkc_ones r
        case c3 => simp only [maxLen]; omega
        case c4 => omega
        case c5 => first | omega | (simp; omega)
        intro v9 w9 own9 gr9 _
        have hb9 := hb8.grown gr9 (by omega) (own_ge own8)
        clear own8 gr9 r8
        go_wp2_with fail
        go_roundw
        case rel =>
          refine ⟨t + 1, by omega, by go_num, ?_, hb9⟩
          rw [HS.out, ← List.append_assoc, tkcs_append, List.length_append, ← Nat.add_assoc]
          exact own9
        case measure => simp [intOf]; omega
      · obtain rfl : nb = t := by omega
        rw [List.take_of_length_le (by have := HRS.out; omega)] at hown hFle
        have O := Lib.hid hown
        clear hown
        go_wp2_with fail
        go_ret
        refine retTk_of ?_ (own_low O.out s0) (B0.out.trans (hb.mono s0)) (by omega)
        rw [HL2.out, HL1.out]
        rfl
end Go.Proofs.YthkbckkghnbonaaGreatDoor
namespace Go.Proofs.YthkbckkghnbonaaGreatDoor
open Go.RowKit
set_option linter.unusedVariables false
theorem progV_valid {d : Nat} {qs : List ByteArray} {l : List (Tr d)} (h : progV d qs l = true) : validT d l = true := by
  unfold progV pgR at h
  simp only [Bool.and_eq_true] at h
  exact h.2.2.1
theorem progV_qs {d : Nat} {qs : List ByteArray} {l : List (Tr d)} (h : progV d qs l = true) : allW qs = true := by
  unfold progV pgR at h
  simp only [Bool.and_eq_true] at h
  exact h.2.1
/-- The tokens that ProgramTokens answers. -/
def pTks (d : Nat) (qs : List ByteArray) (l : List (Tr d)) : List Tk := stToks (progV d qs l) (pg1 qs (toksT d l))
theorem pTks_len (d : Nat) (qs : List ByteArray) (l : List (Tr d)) : (pTks d qs l).length ≤ 2 + qs.length + 4 * szT d l := by
  have h1 := stToks_len (progV d qs l) (pg1 qs (toksT d l))
  have h2 := toksT_len d l
  rw [pg1_len] at h1
  unfold pTks
  omega
set_option maxRecDepth 100000 in
set_option maxHeartbeats 1000000 in
theorem ptoks_spec_no (Aq : Option Addr) (m cq : Nat) (Ab : Option Addr) (nb cb : Nat) (w : World)
    (hval : ∀ w', Below w.heap.size w w' → Calls Tryz.prog 12 #[.agg #[.slice Aq m cq, .slice Ab nb cb]] w' fun e w'' => e = .returned (.bool false) ∧ Below w'.heap.size w' w'' ∧ w'.heap.size ≤ w''.heap.size) :
    Calls Tryz.prog 41 #[.agg #[.slice Aq m cq, .slice Ab nb cb]] w (RetTk w []) := by
  have HV := Lib.hid hval
  clear hval
  go_enter Tryz.func41, Tryz.ntmps41
  go_wp2_with fail
  refine (HV.out _ (by repeat (first | exact Below.refl _ _ | assumption | (refine Below.trans ?_ (Below.mono (by assumption) (by first | omega | (simp; done) | (simp; omega)))) | (with_reducible refine Below.drew ?_) | (with_reducible refine Below.alloc ?_ (by first | omega | (simp; done) | (simp; omega)) _) | (with_reducible refine Below.setCell ?_ (by first | omega | (simp; done) | (simp; omega)) _)))).mono ?_
  rintro e w1 ⟨rfl, b1, s1⟩
  have hb1 : Below w.heap.size w w1 := ((Below.refl _ _).alloc (Nat.le_refl _) _).trans (b1.mono (by simp))
  have hs1 := hb1.size
  clear b1 s1
  go_wp2_with fail
  go_ret
  exact ⟨_, rfl, own_low (own_empty w1 _ 2) hs1, (by repeat (first | exact Below.refl _ _ | assumption | (refine Below.trans ?_ (Below.mono (by assumption) (by first | omega | (simp; done) | (simp; omega)))) | (with_reducible refine Below.drew ?_) | (with_reducible refine Below.alloc ?_ (by first | omega | (simp; done) | (simp; omega)) _) | (with_reducible refine Below.setCell ?_ (by first | omega | (simp; done) | (simp; omega)) _))), (by first | omega | (simp; done) | (simp; omega))⟩
theorem elts_spec : ∀ (d lo : Nat) (Ab : Option Addr) (nb : Nat) (l : List (Tr d)) (w : World), RdT w lo d Ab nb l → szT d l ≤ 1048576 → validT d l = true → ∃ rs, rs.length = nb ∧ nb ≤ 1048576 ∧ EltsT 99 w Ab nb rs ∧ rs.flatten = toksT d l := by
  intro d lo Ab nb l w hrb hsz hv
  cases d with
  | zero =>
    obtain rfl := szT_zero_len hrb
    exact ⟨[], rfl, Nat.zero_le _, fun t ht => absurd ht (by omega), rfl⟩
  | succ d =>
    have hlen := hrb.len
    subst hlen
    refine ⟨_, by simp, by rw [szT_succ] at hsz; omega, fun t ht => ?_, (toksT_succ l).symm⟩
    obtain ⟨b, off, s, Aa', ca', Ab', nb', cb', rfl, hbl, hs, ⟨c0, c1, c2, c3, c4⟩, g2, g3⟩ := hrb.at_ ht
    refine ⟨b, off, (hdT s).k, (hdT s).word, Aa', (hdT s).args.length, ca', (hdT s).count, Ab', nb', cb', _, rfl, hbl, ⟨c0, c1, c2, c3, c4⟩, by rw [List.getElem?_map, hs]; rfl, fun w' hw' => ?_⟩
    have hme := szT_mem hs
    have hq := hsz
    rw [szT_succ] at hq
    unfold szE at hme
    exact StmtTokens_spec_v d lo _ _ _ _ (bdT s) _ _ _ _ _ _ (g2.below hw') (g3.below hw') (by omega) (by omega) (by omega) (validT_mem hv hs)
theorem ProgramTokens_spec (d lo lo' : Nat) (Aq : Option Addr) (cq : Nat) (qs : List ByteArray) (l : List (Tr d)) (Ab : Option Addr) (nb cb : Nat) (w : World) (hra : RdL w lo 1 Aq qs.length (strs qs)) (hrb : RdT w lo' d Ab nb l) (hm : qs.length ≤ 1048576) (hz : szS qs ≤ 1048576) (hsz : szT d l ≤ 1048576) :
    Calls Tryz.prog 41 #[.agg #[.slice Aq qs.length cq, .slice Ab nb cb]] w (RetTk w (pTks d qs l)) := by
  have hv := fun w' (hw' : Below w.heap.size w w') => IsValidProgram_spec d lo lo' Aq cq qs l Ab nb cb w' (hra.below hw') (hrb.below hw') hm hz hsz
  unfold pTks
  cases hp : progV d qs l
  · rw [stToks_f]
    rw [hp] at hv
    exact ptoks_spec_no Aq _ cq Ab nb cb w hv
  · rw [stToks_t]
    rw [hp] at hv
    obtain ⟨rs, h1, h2, h3, h4⟩ := elts_spec d lo' Ab nb l w hrb hsz (progV_valid hp)
    rw [← h4]
    have := toksT_len d l
    exact ptoks_spec_v Aq _ cq qs Ab nb cb w rs rfl hra.rd hm h2 h1 h3 (by rw [h4]; omega) hv
set_option maxRecDepth 100000 in
set_option maxHeartbeats 1000000 in
theorem ptoks_impl_no (Aq : Option Addr) (m cq : Nat) (Ab : Option Addr) (nb cb : Nat) (w : World)
    (hval : ∀ w', Below w.heap.size w w' → Calls Tryz.prog 11 #[.agg #[.slice Aq m cq, .slice Ab nb cb]] w' fun e w'' => e = .returned (.bool false) ∧ Below w'.heap.size w' w'' ∧ w'.heap.size ≤ w''.heap.size) :
    Calls Tryz.prog 39 #[.agg #[.slice Aq m cq, .slice Ab nb cb]] w (RetTk w []) := by
  have HV := Lib.hid hval
  clear hval
  go_enter Tryz.func39, Tryz.ntmps39
  go_wp2_with fail
  refine (HV.out _ (by repeat (first | exact Below.refl _ _ | assumption | (refine Below.trans ?_ (Below.mono (by assumption) (by first | omega | (simp; done) | (simp; omega)))) | (with_reducible refine Below.drew ?_) | (with_reducible refine Below.alloc ?_ (by first | omega | (simp; done) | (simp; omega)) _) | (with_reducible refine Below.setCell ?_ (by first | omega | (simp; done) | (simp; omega)) _)))).mono ?_
  rintro e w1 ⟨rfl, b1, s1⟩
  have hb1 : Below w.heap.size w w1 := ((Below.refl _ _).alloc (Nat.le_refl _) _).trans (b1.mono (by simp))
  have hs1 := hb1.size
  clear b1 s1
  go_wp2_with fail
  go_ret
  exact ⟨_, rfl, World.ownsRow_nil _ _ _ _, hb1, hs1⟩
theorem elts_impl : ∀ (d lo : Nat) (Ab : Option Addr) (nb : Nat) (l : List (Tr d)) (w : World), RdT w lo d Ab nb l → szT d l ≤ 1048576 → validT d l = true → ∃ rs, rs.length = nb ∧ nb ≤ 1048576 ∧ EltsT 96 w Ab nb rs ∧ rs.flatten = toksT d l := by
  intro d lo Ab nb l w hrb hsz hv
  cases d with
  | zero =>
    obtain rfl := szT_zero_len hrb
    exact ⟨[], rfl, Nat.zero_le _, fun t ht => absurd ht (by omega), rfl⟩
  | succ d =>
    have hlen := hrb.len
    subst hlen
    refine ⟨_, by simp, by rw [szT_succ] at hsz; omega, fun t ht => ?_, (toksT_succ l).symm⟩
    obtain ⟨b, off, s, Aa', ca', Ab', nb', cb', rfl, hbl, hs, ⟨c0, c1, c2, c3, c4⟩, g2, g3⟩ := hrb.at_ ht
    refine ⟨b, off, (hdT s).k, (hdT s).word, Aa', (hdT s).args.length, ca', (hdT s).count, Ab', nb', cb', _, rfl, hbl, ⟨c0, c1, c2, c3, c4⟩, by rw [List.getElem?_map, hs]; rfl, fun w' hw' => ?_⟩
    have hme := szT_mem hs
    have hq := hsz
    rw [szT_succ] at hq
    unfold szE at hme
    exact tokensOf_impl d lo _ _ _ _ (bdT s) _ _ _ _ _ _ (g2.below hw') (g3.below hw') (by omega) (by omega) (validT_mem hv hs)
theorem ProgramTokens_impl (d lo lo' : Nat) (Aq : Option Addr) (cq : Nat) (qs : List ByteArray) (l : List (Tr d)) (Ab : Option Addr) (nb cb : Nat) (w : World) (hra : RdL w lo 1 Aq qs.length (strs qs)) (hrb : RdT w lo' d Ab nb l) (hG : GN w) (hm : qs.length ≤ 1048576) (hz : szS qs ≤ 1048576) (hsz : szT d l ≤ 1048576) :
    Calls Tryz.prog 39 #[.agg #[.slice Aq qs.length cq, .slice Ab nb cb]] w (RetTk w (pTks d qs l)) := by
  have hv := fun w' (hw' : Below w.heap.size w w') => IsValidProgram_impl d lo lo' Aq cq qs l Ab nb cb w' (hra.below hw') (hrb.below hw') (hG.below hw') hm hz hsz
  unfold pTks
  cases hp : progV d qs l
  · rw [stToks_f]
    rw [hp] at hv
    exact ptoks_impl_no Aq _ cq Ab nb cb w hv
  · rw [stToks_t]
    rw [hp] at hv
    obtain ⟨rs, h1, h2, h3, h4⟩ := elts_impl d lo' Ab nb l w hrb hsz (progV_valid hp)
    rw [← h4]
    have := toksT_len d l
    exact ptoks_impl_v Aq _ cq qs Ab nb cb w rs rfl hra.rd hm h2 h1 h3 (by rw [h4]; omega) hv
end Go.Proofs.YthkbckkghnbonaaGreatDoor
