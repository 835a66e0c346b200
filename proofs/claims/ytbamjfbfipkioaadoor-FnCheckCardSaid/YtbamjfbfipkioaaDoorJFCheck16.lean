/- What the calls that this law reaches answer, part 16 of 30. -/
import Derived.Test.YtbamjfbfipkioaaDoorJFCheck15
namespace Go.Proofs.YtbamjfbfipkioaaDoor
open Go.RowKit
set_option linter.unusedVariables false
theorem bdrew {w w' : World} (h : Below w.drew.heap.size w.drew w') : Below w.heap.size w w' := ⟨h.os, h.tape, h.output, h.size, h.block⟩
def pgR (c1 c2 c3 : Bool) (N T m : Nat) : Bool := c1 && (c2 && (c3 && (decide (N ≤ 4) && decide (T + m + 2 ≤ 160))))
def progV (d : Nat) (qs : List ByteArray) (bd : List (Tr d)) : Bool := pgR (inB qs.length 1 4) (allW qs) (validT d bd) (nestT d bd) (tokT d bd) qs.length
set_option maxRecDepth 100000 in
set_option maxHeartbeats 8000000 in
theorem pgm_spec_1 (Aq : Option Addr) (m cq : Nat) (Ab : Option Addr) (nb cb : Nat) (w : World) (c1 c2 c3 : Bool) (N T : Nat) (hm : m ≤ 1048576) (hT0 : T ≤ 8388608) (hc1 : c1 = false)
    (h1 : ∀ w', Calls Tryd.prog 30 #[.int .i64 m, .int .i64 1, .int .i64 4] w' fun e w'' => e = .returned (.bool c1) ∧ w' = w'')
    (h2 : ∀ w', Below w.heap.size w w' → Calls Tryd.prog 31 #[.slice Aq m cq] w' fun e w'' => e = .returned (.bool c2) ∧ w' = w'')
    (h3 : ∀ w', Below w.heap.size w w' → Calls Tryd.prog 32 #[.slice Ab nb cb] w' fun e w'' => e = .returned (.bool c3) ∧ Below w'.heap.size w' w'' ∧ w'.heap.size ≤ w''.heap.size)
    (h4 : ∀ w', Below w.heap.size w w' → Calls Tryd.prog 42 #[.slice Ab nb cb] w' fun e w'' => e = .returned (.int .i64 N) ∧ Below w'.heap.size w' w'' ∧ w'.heap.size ≤ w''.heap.size)
    (h5 : ∀ w', Below w.heap.size w w' → Calls Tryd.prog 12 #[.slice Ab nb cb] w' fun e w'' => e = .returned (.int .i64 T) ∧ Below w'.heap.size w' w'' ∧ w'.heap.size ≤ w''.heap.size) :
    Calls Tryd.prog 18 #[.agg #[.slice Aq m cq, .slice Ab nb cb]] w fun e w' => e = .returned (.bool (pgR c1 c2 c3 N T m)) ∧ Below w.heap.size w w' ∧ w.heap.size ≤ w'.heap.size := by
  subst hc1
  obtain ⟨w0, hw0⟩ : ∃ w0, w0 = w.alloc (.cells #[.slice Aq m cq, .slice Ab nb cb] 35) := ⟨_, rfl⟩
  have X0 := Lib.hid (show w0.heap[w.heap.size]? = some (.cells #[.slice Aq m cq, .slice Ab nb cb] 35 (0, 0)) by rw [hw0]; exact boxed1_0 _ _)
  have b0 : Below w.heap.size w w0 := by rw [hw0]; exact (by repeat (first | exact Below.refl _ _ | assumption | (refine Below.trans ?_ (Below.mono (by assumption) (by first | omega | (simp; done) | (simp; omega)))) | (with_reducible refine Below.drew ?_) | (with_reducible refine Below.alloc ?_ (by first | omega | (simp; done) | (simp; omega)) _) | (with_reducible refine Below.setCell ?_ (by first | omega | (simp; done) | (simp; omega)) _)))
  have hs0 : w.heap.size ≤ w0.heap.size := b0.size
  obtain ⟨p0, p1⟩ := boxcells2 (lay := Below.refl _ _) X0.out
  have B0 := Lib.hid b0
  have HW := Lib.hid hw0
  have H1 := Lib.hid h1
  have H2 := Lib.hid h2
  have H3 := Lib.hid h3
  have H4 := Lib.hid h4
  have H5 := Lib.hid h5
  clear b0 hw0 h1 h2 h3 h4 h5
  have HF := Lib.hid (show pgR false c2 c3 N T m = false by simp [pgR])
  go_enter Tryd.func18, Tryd.ntmps18
  go_wp2_with fail
  rw [← HW.out]
  go_quiet (first | (go_at_call 30; exact Calls.quiet_of_same ((H1.out _).mono fun _ _ h => ⟨h.1, h.2.symm⟩)))
  go_wp2_with fail
  go_ret
  exact ⟨by rw [HF.out]; rfl, below_drewN B0.out _, (below_drewN B0.out _).size⟩
set_option maxRecDepth 100000 in
set_option maxHeartbeats 8000000 in
theorem pgm_spec_2 (Aq : Option Addr) (m cq : Nat) (Ab : Option Addr) (nb cb : Nat) (w : World) (c1 c2 c3 : Bool) (N T : Nat) (hm : m ≤ 1048576) (hT0 : T ≤ 8388608) (hc1 : c1 = true) (hc2 : c2 = false)
    (h1 : ∀ w', Calls Tryd.prog 30 #[.int .i64 m, .int .i64 1, .int .i64 4] w' fun e w'' => e = .returned (.bool c1) ∧ w' = w'')
    (h2 : ∀ w', Below w.heap.size w w' → Calls Tryd.prog 31 #[.slice Aq m cq] w' fun e w'' => e = .returned (.bool c2) ∧ w' = w'')
    (h3 : ∀ w', Below w.heap.size w w' → Calls Tryd.prog 32 #[.slice Ab nb cb] w' fun e w'' => e = .returned (.bool c3) ∧ Below w'.heap.size w' w'' ∧ w'.heap.size ≤ w''.heap.size)
    (h4 : ∀ w', Below w.heap.size w w' → Calls Tryd.prog 42 #[.slice Ab nb cb] w' fun e w'' => e = .returned (.int .i64 N) ∧ Below w'.heap.size w' w'' ∧ w'.heap.size ≤ w''.heap.size)
    (h5 : ∀ w', Below w.heap.size w w' → Calls Tryd.prog 12 #[.slice Ab nb cb] w' fun e w'' => e = .returned (.int .i64 T) ∧ Below w'.heap.size w' w'' ∧ w'.heap.size ≤ w''.heap.size) :
    Calls Tryd.prog 18 #[.agg #[.slice Aq m cq, .slice Ab nb cb]] w fun e w' => e = .returned (.bool (pgR c1 c2 c3 N T m)) ∧ Below w.heap.size w w' ∧ w.heap.size ≤ w'.heap.size := by
  subst hc1
  subst hc2
  obtain ⟨w0, hw0⟩ : ∃ w0, w0 = w.alloc (.cells #[.slice Aq m cq, .slice Ab nb cb] 35) := ⟨_, rfl⟩
  have X0 := Lib.hid (show w0.heap[w.heap.size]? = some (.cells #[.slice Aq m cq, .slice Ab nb cb] 35 (0, 0)) by rw [hw0]; exact boxed1_0 _ _)
  have b0 : Below w.heap.size w w0 := by rw [hw0]; exact (by repeat (first | exact Below.refl _ _ | assumption | (refine Below.trans ?_ (Below.mono (by assumption) (by first | omega | (simp; done) | (simp; omega)))) | (with_reducible refine Below.drew ?_) | (with_reducible refine Below.alloc ?_ (by first | omega | (simp; done) | (simp; omega)) _) | (with_reducible refine Below.setCell ?_ (by first | omega | (simp; done) | (simp; omega)) _)))
  have hs0 : w.heap.size ≤ w0.heap.size := b0.size
  obtain ⟨p0, p1⟩ := boxcells2 (lay := Below.refl _ _) X0.out
  have B0 := Lib.hid b0
  have HW := Lib.hid hw0
  have H1 := Lib.hid h1
  have H2 := Lib.hid h2
  have H3 := Lib.hid h3
  have H4 := Lib.hid h4
  have H5 := Lib.hid h5
  clear b0 hw0 h1 h2 h3 h4 h5
  have HF := Lib.hid (show pgR true false c3 N T m = false by simp [pgR])
  go_enter Tryd.func18, Tryd.ntmps18
  go_wp2_with fail
  rw [← HW.out]
  go_quiet (first | (go_at_call 30; exact Calls.quiet_of_same ((H1.out _).mono fun _ _ h => ⟨h.1, h.2.symm⟩)) | (go_at_call 31; exact Calls.quiet_of_same ((H2.out _ (below_drewN B0.out _)).mono fun _ _ h => ⟨h.1, h.2.symm⟩)))
  go_wp2_with fail
  go_ret
  exact ⟨by rw [HF.out]; rfl, below_drewN B0.out _, (below_drewN B0.out _).size⟩
set_option maxRecDepth 100000 in
set_option maxHeartbeats 8000000 in
theorem pgm_spec_3 (Aq : Option Addr) (m cq : Nat) (Ab : Option Addr) (nb cb : Nat) (w : World) (c1 c2 c3 : Bool) (N T : Nat) (hm : m ≤ 1048576) (hT0 : T ≤ 8388608) (hc1 : c1 = true) (hc2 : c2 = true) (hc3 : c3 = false)
    (h1 : ∀ w', Calls Tryd.prog 30 #[.int .i64 m, .int .i64 1, .int .i64 4] w' fun e w'' => e = .returned (.bool c1) ∧ w' = w'')
    (h2 : ∀ w', Below w.heap.size w w' → Calls Tryd.prog 31 #[.slice Aq m cq] w' fun e w'' => e = .returned (.bool c2) ∧ w' = w'')
    (h3 : ∀ w', Below w.heap.size w w' → Calls Tryd.prog 32 #[.slice Ab nb cb] w' fun e w'' => e = .returned (.bool c3) ∧ Below w'.heap.size w' w'' ∧ w'.heap.size ≤ w''.heap.size)
    (h4 : ∀ w', Below w.heap.size w w' → Calls Tryd.prog 42 #[.slice Ab nb cb] w' fun e w'' => e = .returned (.int .i64 N) ∧ Below w'.heap.size w' w'' ∧ w'.heap.size ≤ w''.heap.size)
    (h5 : ∀ w', Below w.heap.size w w' → Calls Tryd.prog 12 #[.slice Ab nb cb] w' fun e w'' => e = .returned (.int .i64 T) ∧ Below w'.heap.size w' w'' ∧ w'.heap.size ≤ w''.heap.size) :
    Calls Tryd.prog 18 #[.agg #[.slice Aq m cq, .slice Ab nb cb]] w fun e w' => e = .returned (.bool (pgR c1 c2 c3 N T m)) ∧ Below w.heap.size w w' ∧ w.heap.size ≤ w'.heap.size := by
  subst hc1
  subst hc2
  subst hc3
  obtain ⟨w0, hw0⟩ : ∃ w0, w0 = w.alloc (.cells #[.slice Aq m cq, .slice Ab nb cb] 35) := ⟨_, rfl⟩
  have X0 := Lib.hid (show w0.heap[w.heap.size]? = some (.cells #[.slice Aq m cq, .slice Ab nb cb] 35 (0, 0)) by rw [hw0]; exact boxed1_0 _ _)
  have b0 : Below w.heap.size w w0 := by rw [hw0]; exact (by repeat (first | exact Below.refl _ _ | assumption | (refine Below.trans ?_ (Below.mono (by assumption) (by first | omega | (simp; done) | (simp; omega)))) | (with_reducible refine Below.drew ?_) | (with_reducible refine Below.alloc ?_ (by first | omega | (simp; done) | (simp; omega)) _) | (with_reducible refine Below.setCell ?_ (by first | omega | (simp; done) | (simp; omega)) _)))
  have hs0 : w.heap.size ≤ w0.heap.size := b0.size
  obtain ⟨p0, p1⟩ := boxcells2 (lay := Below.refl _ _) X0.out
  have B0 := Lib.hid b0
  have HW := Lib.hid hw0
  have H1 := Lib.hid h1
  have H2 := Lib.hid h2
  have H3 := Lib.hid h3
  have H4 := Lib.hid h4
  have H5 := Lib.hid h5
  clear b0 hw0 h1 h2 h3 h4 h5
  have HF := Lib.hid (show pgR true true false N T m = false by simp [pgR])
  go_enter Tryd.func18, Tryd.ntmps18
  go_wp2_with fail
  rw [← HW.out]
  first | (go_region_with (first | (go_at_call 30; (with_reducible refine (H1.out _).mono ?_); rintro e w' ⟨rfl, rfl⟩) | (go_at_call 31; (with_reducible refine (H2.out _ ?_).mono ?_); exact B0.out.drew; rintro e w' ⟨rfl, rfl⟩) | (go_at_call 32; (with_reducible refine (H3.out _ ?_).mono ?_); exact B0.out.drew; rintro e y3 ⟨rfl, d3, _⟩; have u3 := bdrew d3; obtain ⟨a0, a1⟩ := boxcells2 (lay := u3) X0.out))) | fail "no"
  all_goals (go_wp2_with fail; go_ret; exact ⟨by rw [HF.out]; first | rfl | exact congrArg (fun b => Ending.returned (Value.bool b)) HTw.out, B0.out.trans (u3.mono hs0), (B0.out.trans (u3.mono hs0)).size⟩)
set_option maxRecDepth 100000 in
set_option maxHeartbeats 8000000 in
theorem pgm_spec_4 (Aq : Option Addr) (m cq : Nat) (Ab : Option Addr) (nb cb : Nat) (w : World) (c1 c2 c3 : Bool) (N T : Nat) (hm : m ≤ 1048576) (hT0 : T ≤ 8388608) (hc1 : c1 = true) (hc2 : c2 = true) (hc3 : c3 = true) (hN : ¬ N ≤ 4)
    (h1 : ∀ w', Calls Tryd.prog 30 #[.int .i64 m, .int .i64 1, .int .i64 4] w' fun e w'' => e = .returned (.bool c1) ∧ w' = w'')
    (h2 : ∀ w', Below w.heap.size w w' → Calls Tryd.prog 31 #[.slice Aq m cq] w' fun e w'' => e = .returned (.bool c2) ∧ w' = w'')
    (h3 : ∀ w', Below w.heap.size w w' → Calls Tryd.prog 32 #[.slice Ab nb cb] w' fun e w'' => e = .returned (.bool c3) ∧ Below w'.heap.size w' w'' ∧ w'.heap.size ≤ w''.heap.size)
    (h4 : ∀ w', Below w.heap.size w w' → Calls Tryd.prog 42 #[.slice Ab nb cb] w' fun e w'' => e = .returned (.int .i64 N) ∧ Below w'.heap.size w' w'' ∧ w'.heap.size ≤ w''.heap.size)
    (h5 : ∀ w', Below w.heap.size w w' → Calls Tryd.prog 12 #[.slice Ab nb cb] w' fun e w'' => e = .returned (.int .i64 T) ∧ Below w'.heap.size w' w'' ∧ w'.heap.size ≤ w''.heap.size) :
    Calls Tryd.prog 18 #[.agg #[.slice Aq m cq, .slice Ab nb cb]] w fun e w' => e = .returned (.bool (pgR c1 c2 c3 N T m)) ∧ Below w.heap.size w w' ∧ w.heap.size ≤ w'.heap.size := by
  subst hc1
  subst hc2
  subst hc3
  have hNi : decide ((N : Int) ≤ 4) = false := by simp; omega
  have hNn : decide (N ≤ 4) = false := by simp; omega
  obtain ⟨w0, hw0⟩ : ∃ w0, w0 = w.alloc (.cells #[.slice Aq m cq, .slice Ab nb cb] 35) := ⟨_, rfl⟩
  have X0 := Lib.hid (show w0.heap[w.heap.size]? = some (.cells #[.slice Aq m cq, .slice Ab nb cb] 35 (0, 0)) by rw [hw0]; exact boxed1_0 _ _)
  have b0 : Below w.heap.size w w0 := by rw [hw0]; exact (by repeat (first | exact Below.refl _ _ | assumption | (refine Below.trans ?_ (Below.mono (by assumption) (by first | omega | (simp; done) | (simp; omega)))) | (with_reducible refine Below.drew ?_) | (with_reducible refine Below.alloc ?_ (by first | omega | (simp; done) | (simp; omega)) _) | (with_reducible refine Below.setCell ?_ (by first | omega | (simp; done) | (simp; omega)) _)))
  have hs0 : w.heap.size ≤ w0.heap.size := b0.size
  obtain ⟨p0, p1⟩ := boxcells2 (lay := Below.refl _ _) X0.out
  have B0 := Lib.hid b0
  have HW := Lib.hid hw0
  have H1 := Lib.hid h1
  have H2 := Lib.hid h2
  have H3 := Lib.hid h3
  have H4 := Lib.hid h4
  have H5 := Lib.hid h5
  clear b0 hw0 h1 h2 h3 h4 h5
  have HF := Lib.hid (show pgR true true true N T m = false by simp [pgR, hN])
  go_enter Tryd.func18, Tryd.ntmps18
  go_wp2_with fail
  rw [← HW.out]
  first | (go_region_with (first | (go_at_call 30; (with_reducible refine (H1.out _).mono ?_); rintro e w' ⟨rfl, rfl⟩) | (go_at_call 31; (with_reducible refine (H2.out _ ?_).mono ?_); exact B0.out.drew; rintro e w' ⟨rfl, rfl⟩) | (go_at_call 32; (with_reducible refine (H3.out _ ?_).mono ?_); exact B0.out.drew; rintro e y3 ⟨rfl, d3, _⟩; have u3 := bdrew d3; obtain ⟨a0, a1⟩ := boxcells2 (lay := u3) X0.out) | (go_at_call 42; (with_reducible refine (H4.out _ ?_).mono ?_); exact B0.out.trans (u3.mono hs0); rintro e y4 ⟨rfl, d4, _⟩; have u4 := u3.trans (d4.mono u3.size); obtain ⟨a2, a3⟩ := boxcells2 (lay := u4) X0.out))) | fail "no"
  all_goals (go_wp2_with fail; go_ret; exact ⟨by rw [HF.out]; first | rfl | exact congrArg (fun b => Ending.returned (Value.bool b)) HTw.out, B0.out.trans (u4.mono hs0), (B0.out.trans (u4.mono hs0)).size⟩)
set_option maxRecDepth 100000 in
set_option maxHeartbeats 8000000 in
theorem pgm_spec_5 (Aq : Option Addr) (m cq : Nat) (Ab : Option Addr) (nb cb : Nat) (w : World) (c1 c2 c3 : Bool) (N T : Nat) (hm : m ≤ 1048576) (hT0 : T ≤ 8388608) (hc1 : c1 = true) (hc2 : c2 = true) (hc3 : c3 = true) (hN : N ≤ 4) (hT : ¬ T + m + 2 ≤ 160)
    (h1 : ∀ w', Calls Tryd.prog 30 #[.int .i64 m, .int .i64 1, .int .i64 4] w' fun e w'' => e = .returned (.bool c1) ∧ w' = w'')
    (h2 : ∀ w', Below w.heap.size w w' → Calls Tryd.prog 31 #[.slice Aq m cq] w' fun e w'' => e = .returned (.bool c2) ∧ w' = w'')
    (h3 : ∀ w', Below w.heap.size w w' → Calls Tryd.prog 32 #[.slice Ab nb cb] w' fun e w'' => e = .returned (.bool c3) ∧ Below w'.heap.size w' w'' ∧ w'.heap.size ≤ w''.heap.size)
    (h4 : ∀ w', Below w.heap.size w w' → Calls Tryd.prog 42 #[.slice Ab nb cb] w' fun e w'' => e = .returned (.int .i64 N) ∧ Below w'.heap.size w' w'' ∧ w'.heap.size ≤ w''.heap.size)
    (h5 : ∀ w', Below w.heap.size w w' → Calls Tryd.prog 12 #[.slice Ab nb cb] w' fun e w'' => e = .returned (.int .i64 T) ∧ Below w'.heap.size w' w'' ∧ w'.heap.size ≤ w''.heap.size) :
    Calls Tryd.prog 18 #[.agg #[.slice Aq m cq, .slice Ab nb cb]] w fun e w' => e = .returned (.bool (pgR c1 c2 c3 N T m)) ∧ Below w.heap.size w w' ∧ w.heap.size ≤ w'.heap.size := by
  subst hc1
  subst hc2
  subst hc3
  have hNi : decide ((N : Int) ≤ 4) = true := by simp; omega
  have hNn : decide (N ≤ 4) = true := by simp; omega
  have HTw := Lib.hid (show decide (IntKind.i64.wrap (IntKind.i64.wrap ((T : Int) + (m : Int)) + 2) ≤ 160) = false by rw [IntWalk.i64_in ((T : Int) + (m : Int)) (by omega), IntWalk.i64_in _ (by omega)]; simp; omega)
  have hTi : decide ((T : Int) + (m : Int) + 2 ≤ 160) = false := by simp; omega
  have hTj : decide ((T : Int) + (m : Int) ≤ 158) = false := by simp; omega
  obtain ⟨w0, hw0⟩ : ∃ w0, w0 = w.alloc (.cells #[.slice Aq m cq, .slice Ab nb cb] 35) := ⟨_, rfl⟩
  have X0 := Lib.hid (show w0.heap[w.heap.size]? = some (.cells #[.slice Aq m cq, .slice Ab nb cb] 35 (0, 0)) by rw [hw0]; exact boxed1_0 _ _)
  have b0 : Below w.heap.size w w0 := by rw [hw0]; exact (by repeat (first | exact Below.refl _ _ | assumption | (refine Below.trans ?_ (Below.mono (by assumption) (by first | omega | (simp; done) | (simp; omega)))) | (with_reducible refine Below.drew ?_) | (with_reducible refine Below.alloc ?_ (by first | omega | (simp; done) | (simp; omega)) _) | (with_reducible refine Below.setCell ?_ (by first | omega | (simp; done) | (simp; omega)) _)))
  have hs0 : w.heap.size ≤ w0.heap.size := b0.size
  obtain ⟨p0, p1⟩ := boxcells2 (lay := Below.refl _ _) X0.out
  have B0 := Lib.hid b0
  have HW := Lib.hid hw0
  have H1 := Lib.hid h1
  have H2 := Lib.hid h2
  have H3 := Lib.hid h3
  have H4 := Lib.hid h4
  have H5 := Lib.hid h5
  clear b0 hw0 h1 h2 h3 h4 h5
  have HF := Lib.hid (show pgR true true true N T m = false by simp [pgR, hN, hT])
  go_enter Tryd.func18, Tryd.ntmps18
  go_wp2_with fail
  rw [← HW.out]
  first | (go_region_held3 (fun W => W.cell? ⟨w.heap.size, 0, none⟩ = some (.slice Aq m cq) ∧ W.cell? ⟨w.heap.size, 1, none⟩ = some (.slice Ab nb cb)) (first | exact ⟨p0, p1⟩ | exact ⟨a0, a1⟩ | exact ⟨a2, a3⟩ | exact ⟨a4, a5⟩) (first | (go_at_call 30; (with_reducible refine (H1.out _).mono ?_); rintro e w' ⟨rfl, rfl⟩) | (go_at_call 31; (with_reducible refine (H2.out _ ?_).mono ?_); exact B0.out.drew; rintro e w' ⟨rfl, rfl⟩) | (go_at_call 32; (with_reducible refine (H3.out _ ?_).mono ?_); exact B0.out.drew; rintro e y3 ⟨rfl, d3, _⟩; have u3 := bdrew d3; obtain ⟨a0, a1⟩ := boxcells2 (lay := u3) X0.out) | (go_at_call 42; (with_reducible refine (H4.out _ ?_).mono ?_); exact B0.out.trans (u3.mono hs0); rintro e y4 ⟨rfl, d4, _⟩; have u4 := u3.trans (d4.mono u3.size); obtain ⟨a2, a3⟩ := boxcells2 (lay := u4) X0.out) | (go_at_call 12; (with_reducible refine (H5.out _ ?_).mono ?_); exact B0.out.trans (u4.mono hs0); rintro e y5 ⟨rfl, d5, _⟩; have u5 := u4.trans (d5.mono u4.size); obtain ⟨a4, a5⟩ := boxcells2 (lay := u5) X0.out))) | fail "no"
  all_goals (go_wp2_with fail; go_ret; exact ⟨by rw [HF.out]; first | rfl | exact congrArg (fun b => Ending.returned (Value.bool b)) HTw.out, B0.out.trans (u5.mono hs0), (B0.out.trans (u5.mono hs0)).size⟩)
set_option maxRecDepth 100000 in
set_option maxHeartbeats 8000000 in
theorem pgm_spec_6 (Aq : Option Addr) (m cq : Nat) (Ab : Option Addr) (nb cb : Nat) (w : World) (c1 c2 c3 : Bool) (N T : Nat) (hm : m ≤ 1048576) (hT0 : T ≤ 8388608) (hc1 : c1 = true) (hc2 : c2 = true) (hc3 : c3 = true) (hN : N ≤ 4) (hT : T + m + 2 ≤ 160)
    (h1 : ∀ w', Calls Tryd.prog 30 #[.int .i64 m, .int .i64 1, .int .i64 4] w' fun e w'' => e = .returned (.bool c1) ∧ w' = w'')
    (h2 : ∀ w', Below w.heap.size w w' → Calls Tryd.prog 31 #[.slice Aq m cq] w' fun e w'' => e = .returned (.bool c2) ∧ w' = w'')
    (h3 : ∀ w', Below w.heap.size w w' → Calls Tryd.prog 32 #[.slice Ab nb cb] w' fun e w'' => e = .returned (.bool c3) ∧ Below w'.heap.size w' w'' ∧ w'.heap.size ≤ w''.heap.size)
    (h4 : ∀ w', Below w.heap.size w w' → Calls Tryd.prog 42 #[.slice Ab nb cb] w' fun e w'' => e = .returned (.int .i64 N) ∧ Below w'.heap.size w' w'' ∧ w'.heap.size ≤ w''.heap.size)
    (h5 : ∀ w', Below w.heap.size w w' → Calls Tryd.prog 12 #[.slice Ab nb cb] w' fun e w'' => e = .returned (.int .i64 T) ∧ Below w'.heap.size w' w'' ∧ w'.heap.size ≤ w''.heap.size) :
    Calls Tryd.prog 18 #[.agg #[.slice Aq m cq, .slice Ab nb cb]] w fun e w' => e = .returned (.bool (pgR c1 c2 c3 N T m)) ∧ Below w.heap.size w w' ∧ w.heap.size ≤ w'.heap.size := by
  subst hc1
  subst hc2
  subst hc3
  have hNi : decide ((N : Int) ≤ 4) = true := by simp; omega
  have hNn : decide (N ≤ 4) = true := by simp; omega
  have HTw := Lib.hid (show decide (IntKind.i64.wrap (IntKind.i64.wrap ((T : Int) + (m : Int)) + 2) ≤ 160) = true by rw [IntWalk.i64_in ((T : Int) + (m : Int)) (by omega), IntWalk.i64_in _ (by omega)]; simp; omega)
  have hTi : decide ((T : Int) + (m : Int) + 2 ≤ 160) = true := by simp; omega
  have hTj : decide ((T : Int) + (m : Int) ≤ 158) = true := by simp; omega
  obtain ⟨w0, hw0⟩ : ∃ w0, w0 = w.alloc (.cells #[.slice Aq m cq, .slice Ab nb cb] 35) := ⟨_, rfl⟩
  have X0 := Lib.hid (show w0.heap[w.heap.size]? = some (.cells #[.slice Aq m cq, .slice Ab nb cb] 35 (0, 0)) by rw [hw0]; exact boxed1_0 _ _)
  have b0 : Below w.heap.size w w0 := by rw [hw0]; exact (by repeat (first | exact Below.refl _ _ | assumption | (refine Below.trans ?_ (Below.mono (by assumption) (by first | omega | (simp; done) | (simp; omega)))) | (with_reducible refine Below.drew ?_) | (with_reducible refine Below.alloc ?_ (by first | omega | (simp; done) | (simp; omega)) _) | (with_reducible refine Below.setCell ?_ (by first | omega | (simp; done) | (simp; omega)) _)))
  have hs0 : w.heap.size ≤ w0.heap.size := b0.size
  obtain ⟨p0, p1⟩ := boxcells2 (lay := Below.refl _ _) X0.out
  have B0 := Lib.hid b0
  have HW := Lib.hid hw0
  have H1 := Lib.hid h1
  have H2 := Lib.hid h2
  have H3 := Lib.hid h3
  have H4 := Lib.hid h4
  have H5 := Lib.hid h5
  clear b0 hw0 h1 h2 h3 h4 h5
  have HF := Lib.hid (show pgR true true true N T m = true by simp [pgR, hN, hT])
  go_enter Tryd.func18, Tryd.ntmps18
  go_wp2_with fail
  rw [← HW.out]
  first | (go_region_held3 (fun W => W.cell? ⟨w.heap.size, 0, none⟩ = some (.slice Aq m cq) ∧ W.cell? ⟨w.heap.size, 1, none⟩ = some (.slice Ab nb cb)) (first | exact ⟨p0, p1⟩ | exact ⟨a0, a1⟩ | exact ⟨a2, a3⟩ | exact ⟨a4, a5⟩) (first | (go_at_call 30; (with_reducible refine (H1.out _).mono ?_); rintro e w' ⟨rfl, rfl⟩) | (go_at_call 31; (with_reducible refine (H2.out _ ?_).mono ?_); exact B0.out.drew; rintro e w' ⟨rfl, rfl⟩) | (go_at_call 32; (with_reducible refine (H3.out _ ?_).mono ?_); exact B0.out.drew; rintro e y3 ⟨rfl, d3, _⟩; have u3 := bdrew d3; obtain ⟨a0, a1⟩ := boxcells2 (lay := u3) X0.out) | (go_at_call 42; (with_reducible refine (H4.out _ ?_).mono ?_); exact B0.out.trans (u3.mono hs0); rintro e y4 ⟨rfl, d4, _⟩; have u4 := u3.trans (d4.mono u3.size); obtain ⟨a2, a3⟩ := boxcells2 (lay := u4) X0.out) | (go_at_call 12; (with_reducible refine (H5.out _ ?_).mono ?_); exact B0.out.trans (u4.mono hs0); rintro e y5 ⟨rfl, d5, _⟩; have u5 := u4.trans (d5.mono u4.size); obtain ⟨a4, a5⟩ := boxcells2 (lay := u5) X0.out))) | fail "no"
  all_goals (go_wp2_with fail; go_ret; exact ⟨by rw [HF.out]; first | rfl | exact congrArg (fun b => Ending.returned (Value.bool b)) HTw.out, B0.out.trans (u5.mono hs0), (B0.out.trans (u5.mono hs0)).size⟩)
theorem IsValidProgram_spec (d lo lo' : Nat) (Aq : Option Addr) (cq : Nat) (qs : List ByteArray) (bd : List (Tr d)) (Ab : Option Addr) (nb cb : Nat) (w : World) (hra : RdL w lo 1 Aq qs.length (strs qs)) (hrb : RdT w lo' d Ab nb bd) (hm : qs.length ≤ 1048576) (hz : szS qs ≤ 1048576) (hsz : szT d bd ≤ 1048576) :
    Calls Tryd.prog 18 #[.agg #[.slice Aq qs.length cq, .slice Ab nb cb]] w fun e w' => e = .returned (.bool (progV d qs bd)) ∧ Below w.heap.size w w' ∧ w.heap.size ≤ w'.heap.size := by
  have h1 : ∀ w', Calls Tryd.prog 30 #[.int .i64 qs.length, .int .i64 1, .int .i64 4] w' fun e w'' => e = .returned (.bool (inB qs.length 1 4)) ∧ w' = w'' := fun w' => l1In_any _ _ _ _
  have h2 : ∀ w', Below w.heap.size w w' → Calls Tryd.prog 31 #[.slice Aq qs.length cq] w' fun e w'' => e = .returned (.bool (allW qs)) ∧ w' = w'' := fun w' hb => l17Words_any _ _ _ qs _ (hra.rd.below hb) rfl (by omega) hz
  have h3 : ∀ w', Below w.heap.size w w' → Calls Tryd.prog 32 #[.slice Ab nb cb] w' fun e w'' => e = .returned (.bool (validT d bd)) ∧ Below w'.heap.size w' w'' ∧ w'.heap.size ≤ w''.heap.size := fun w' hb => l17All_any d _ _ _ _ _ _ (hrb.below hb) hsz
  have h4 : ∀ w', Below w.heap.size w w' → Calls Tryd.prog 42 #[.slice Ab nb cb] w' fun e w'' => e = .returned (.int .i64 (nestT d bd)) ∧ Below w'.heap.size w' w'' ∧ w'.heap.size ≤ w''.heap.size := fun w' hb => NestingDepth_spec d _ _ _ _ _ _ (hrb.below hb) hsz
  have h5 : ∀ w', Below w.heap.size w w' → Calls Tryd.prog 12 #[.slice Ab nb cb] w' fun e w'' => e = .returned (.int .i64 (tokT d bd)) ∧ Below w'.heap.size w' w'' ∧ w'.heap.size ≤ w''.heap.size := fun w' hb => StmtTokenCount_spec d _ _ _ _ _ _ (hrb.below hb) hsz
  have hT := tokT_le d bd
  unfold progV
  cases hc1 : inB qs.length 1 4
  · exact pgm_spec_1 _ _ _ _ _ _ w _ _ _ _ _ hm (by omega) rfl (hc1 ▸ h1) h2 h3 h4 h5
  cases hc2 : allW qs
  · exact pgm_spec_2 _ _ _ _ _ _ w _ _ _ _ _ hm (by omega) rfl rfl (hc1 ▸ h1) (hc2 ▸ h2) h3 h4 h5
  cases hc3 : validT d bd
  · exact pgm_spec_3 _ _ _ _ _ _ w _ _ _ _ _ hm (by omega) rfl rfl rfl (hc1 ▸ h1) (hc2 ▸ h2) (hc3 ▸ h3) h4 h5
  by_cases hN : nestT d bd ≤ 4
  · by_cases hT' : tokT d bd + qs.length + 2 ≤ 160
    · exact pgm_spec_6 _ _ _ _ _ _ w _ _ _ _ _ hm (by omega) rfl rfl rfl hN hT' (hc1 ▸ h1) (hc2 ▸ h2) (hc3 ▸ h3) h4 h5
    · exact pgm_spec_5 _ _ _ _ _ _ w _ _ _ _ _ hm (by omega) rfl rfl rfl hN hT' (hc1 ▸ h1) (hc2 ▸ h2) (hc3 ▸ h3) h4 h5
  · exact pgm_spec_4 _ _ _ _ _ _ w _ _ _ _ _ hm (by omega) rfl rfl rfl hN (hc1 ▸ h1) (hc2 ▸ h2) (hc3 ▸ h3) h4 h5
end Go.Proofs.YtbamjfbfipkioaaDoor
