/- A program of the laws, turned: the capacity of its qubits too. -/
import Derived.Test.YtijocafindbebaaDoorPgm
namespace Go.Proofs.YtijocafindbebaaDoor
open Go.RowKit
set_option linter.unusedVariables false
def RetPC (d m nb : Nat) (qs : List ByteArray) (l : List (Tr d)) (w : World) (e : Ending) (w' : World) : Prop :=
  ∃ Aq cq Ab cb, e = .returned (.agg #[.slice Aq m cq, .slice Ab nb cb]) ∧ RdL w' w.heap.size 1 Aq m (strs qs) ∧ RdT w' w.heap.size d Ab nb l ∧ Below w.heap.size w w' ∧ w.heap.size ≤ w'.heap.size ∧ m ≤ cq
set_option maxRecDepth 100000 in
set_option maxHeartbeats 2000000 in
theorem toProgram_c (d lo : Nat) (Aq : Option Addr) (m cq : Nat) (qs : List ByteArray) (l : List (Tr d)) (Ab : Option Addr) (nb cb : Nat) (w : World)
    (hra : Rd w 1 Aq m (strs qs)) (hrb : RdT w lo d Ab nb l) (hm : qs.length = m) (h1 : m ≤ 1048576) (h2 : szT d l ≤ 1048576) :
    Calls Tryd.prog 19 #[.agg #[.slice Aq m cq, .slice Ab nb cb]] w (RetPC d m nb qs l w) := by
  have HM := Lib.hid hm
  have HA := Lib.hid hra
  have HB := Lib.hid hrb
  clear hm hra hrb
  go_enter Tryd.func19, Tryd.ntmps19
  go_wp2_with fail
  obtain ⟨w0, hw0⟩ : ∃ w0, w0 = ((w.alloc (.cells #[.slice Aq m cq, .slice Ab nb cb] 35)).alloc (.cells #[.slice none 0 0, .slice none 0 0] 39)).alloc (.cells #[.slice none 0 0, .slice none 0 0] 39) := ⟨_, rfl⟩
  rw [← hw0]
  have x0 : w0.heap[w.heap.size]? = some (.cells #[.slice Aq m cq, .slice Ab nb cb] 35 (0, 0)) := by rw [hw0]; exact boxed3_0 _ _ _ _
  have x1 : w0.heap[w.heap.size + 1]? = some (.cells #[.slice none 0 0, .slice none 0 0] 39 (0, 0)) := by rw [hw0]; exact boxed3_1 _ _ _ _
  have x2 : w0.heap[w.heap.size + 2]? = some (.cells #[.slice none 0 0, .slice none 0 0] 39 (0, 0)) := by rw [hw0]; exact boxed3_2 _ _ _ _
  have b0 : Below w.heap.size w w0 := by rw [hw0]; exact (by repeat (first | exact Below.refl _ _ | assumption | (refine Below.trans ?_ (Below.mono (by assumption) (by first | omega | (simp; done) | (simp; omega)))) | (with_reducible refine Below.drew ?_) | (with_reducible refine Below.alloc ?_ (by first | omega | (simp; done) | (simp; omega)) _) | (with_reducible refine Below.setCell ?_ (by first | omega | (simp; done) | (simp; omega)) _)))
  have s0 : w.heap.size + 3 = w0.heap.size := by rw [hw0]; simp
  have S0 := Lib.hid s0
  have X0 := Lib.hid x0
  have X1 := Lib.hid x1
  have X2 := Lib.hid x2
  clear hw0 s0 x0 x1 x2
  refine (toStringS_any _ _ _ qs _ (HA.out.below b0) HM.out (by omega)).mono ?_
  rintro e w1 ⟨v1, rfl, o1, b1, s1⟩
  obtain ⟨A1, c1, rfl, hcap1, _, _⟩ := rd_of_own o1
  have HCAP := Lib.hid hcap1
  clear hcap1
  obtain ⟨p0, p1⟩ := boxcells2 (lay := b1) X0.out
  obtain ⟨q0, q1⟩ := boxcells2 (lay := b1) X2.out
  have f0 := boxfree b1 X2.out 0
  go_wp2_with fail
  obtain ⟨w2, hw2⟩ : ∃ w2, w2 = w1.setCell ⟨w.heap.size + 2, 0, none⟩ (.slice A1 m c1) := ⟨_, rfl⟩
  rw [← hw2]
  have hS := S0.out
  have y1 : w2.heap[w.heap.size + 1]? = some (.cells #[.slice none 0 0, .slice none 0 0] 39 (0, 0)) := by
    rw [hw2]; exact heap_set_far ((b1.block _ (by omega)).trans X1.out) (by simp) _
  have y2 : w2.heap[w.heap.size + 2]? = some (.cells #[.slice A1 m c1, .slice none 0 0] 39 (0, 0)) := by
    rw [hw2]; exact heap_set_self ((b1.block _ (by omega)).trans X2.out) _
  have b2 : Below w.heap.size w w2 := by rw [hw2]; exact (b0.trans (b1.mono (by omega))).setCell (by simp) _
  have s2 : w1.heap.size = w2.heap.size := by rw [hw2, size_setCell]
  have r1 : RdL w2 (w.heap.size + 3) 1 A1 m (strs qs) := by
    rw [hw2]; exact (rdl_own o1).lower (by omega) |>.set_ (by simp) _
  have Y1 := Lib.hid y1
  have Y2 := Lib.hid y2
  have R1 := Lib.hid r1
  have S2 := Lib.hid s2
  clear hw2 y1 y2 r1 s2 p0 p1 q0 q1 f0 o1 hS
  refine (toStmtS_any d lo _ _ _ l _ (HB.out.below b2) h2).mono ?_
  rintro e w3 ⟨A3, c3, rfl, r3, b3, s3⟩
  obtain ⟨t0, t1⟩ := boxcells2 (lay := b3) Y1.out
  obtain ⟨u0, u1⟩ := boxcells2 (lay := b3) Y2.out
  have g0 := boxfree b3 Y1.out 0
  have g1 := boxfree b3 Y1.out 1
  have g5 := boxfree b3 Y2.out 1
  have R3 := Lib.hid r3
  clear r3
  go_wp2_with fail
  have hS := S0.out
  have hS2 := S2.out
  refine bodyPost_ret (v := .agg #[.slice A1 m c1, .slice A3 nb c3]) (by simp [results, Tryd.results19, go_sem, t0, t1]) rfl ⟨A1, c1, A3, c3, rfl, ?_, ?_, ?_, ?_, HCAP.out⟩
  · exact RdL.lower (lo := w.heap.size + 3) ((((R1.out.below b3).set_ (by simp) _).set_ (by simp) _).set_ (by simp) _) (by omega)
  · exact RdT.lower (lo := w2.heap.size) (by omega) (((R3.out.set_ (by simp; omega) _).set_ (by simp; omega) _).set_ (by simp; omega) _)
  · exact ((((b2.trans (b3.mono (by omega))).setCell (by first | omega | (simp; done) | (simp; omega)) _).setCell (by first | omega | (simp; done) | (simp; omega)) _).setCell (by first | omega | (simp; done) | (simp; omega)) _)
  · simp [World.setCell]; omega
end Go.Proofs.YtijocafindbebaaDoor
