/- Programs (their qubits' names and their statements): size, copy, comparison. -/
import Derived.Test.YtijocafindbebaaDoorTreeEq
import Derived.Test.YtijocafindbebaaDoorTreeOpen
namespace Go.Proofs.YtijocafindbebaaDoor
open Go.RowKit
set_option linter.unusedVariables false
theorem boxcells2 {w w' : World} {b : Nat} {x0 x1 : Value} {t : TypeId} (lay : Below w'.heap.size w' w) (h : w'.heap[b]? = some (.cells #[x0, x1] t (0, 0))) :
    w.cell? ⟨b, 0, none⟩ = some x0 ∧ w.cell? ⟨b, 1, none⟩ = some x1 := by
  have h' : w.heap[b]? = some (.cells #[x0, x1] t (0, 0)) := (lay.block b (lt_of_block h)).trans h
  exact ⟨by simp [World.cell?, h'], by simp [World.cell?, h']⟩
set_option maxRecDepth 100000 in
set_option maxHeartbeats 2000000 in
theorem szProgram_any (d lo : Nat) (Aq : Option Addr) (m cq : Nat) (qs : List ByteArray) (l : List (Tr d)) (Ab : Option Addr) (nb cb : Nat) (left : Int) (w : World)
    (hra : Rd w 1 Aq m (strs qs)) (hrb : RdT w lo d Ab nb l) (hm : qs.length = m) (h2 : m ≤ 9223372036854775807) (h3 : ∀ a ∈ qs, a.size ≤ 9223372036854775807) (h4 : OkT d l) (h5 : 0 ≤ left) (h6 : left ≤ 1099511627776) :
    Calls Tryd.prog 17 #[.agg #[.slice Aq m cq, .slice Ab nb cb], .int .i64 left] w fun e w' =>
      e = .returned (.int .i64 (subSz left (m + szS qs + szT d l))) ∧ Below w.heap.size w w' ∧ w.heap.size ≤ w'.heap.size := by
  have b0 : Below w.heap.size w (w.alloc (.cells #[.slice Aq m cq, .slice Ab nb cb] 35)) := (by repeat (first | exact Below.refl _ _ | assumption | (refine Below.trans ?_ (Below.mono (by assumption) (by first | omega | (simp; done) | (simp; omega)))) | (with_reducible refine Below.drew ?_) | (with_reducible refine Below.alloc ?_ (by first | omega | (simp; done) | (simp; omega)) _) | (with_reducible refine Below.setCell ?_ (by first | omega | (simp; done) | (simp; omega)) _)))
  have HA := Lib.hid (hra.below b0)
  have HB := Lib.hid (hrb.below b0)
  have H3 := Lib.hid h3
  have H4 := Lib.hid h4
  obtain ⟨z, hz⟩ : ∃ z, z = szS qs := ⟨_, rfl⟩
  obtain ⟨y, hy⟩ : ∃ y, y = szT d l := ⟨_, rfl⟩
  rw [← hz, ← hy]
  have HM := Lib.hid hm
  have HZ := Lib.hid hz
  have HY := Lib.hid hy
  clear b0 hra hrb h3 h4 hm hz hy
  by_cases c2 : left < m + z
  · have HF := Lib.hid (subSz_neg (left := left) (m := m + z + y) (by omega))
    have HS := Lib.hid (subSz_neg (left := left) (m := m + z) (by omega))
    go_enter Tryd.func17, Tryd.ntmps17
    go_wp2_with fail
    refine (szStringS_any _ _ _ qs _ _ HA.out HM.out h2 H3.out (by omega) (by omega)).mono ?_
    rintro e w' ⟨rfl, rfl⟩
    rw [← HZ.out, HS.out]
    go_wp2_with fail
    go_ret
    exact ⟨by rw [HF.out]; rfl, (by repeat (first | exact Below.refl _ _ | assumption | (refine Below.trans ?_ (Below.mono (by assumption) (by first | omega | (simp; done) | (simp; omega)))) | (with_reducible refine Below.drew ?_) | (with_reducible refine Below.alloc ?_ (by first | omega | (simp; done) | (simp; omega)) _) | (with_reducible refine Below.setCell ?_ (by first | omega | (simp; done) | (simp; omega)) _))), (by first | omega | (simp; done) | (simp; omega))⟩
  have HS := Lib.hid (subSz_pos (left := left) (m := m + z) (by omega))
  have c2' : 0 ≤ left - ((m : Int) + (z : Int)) := by omega
  by_cases c3 : left - ((m : Int) + (z : Int)) < y
  · have HF := Lib.hid (subSz_neg (left := left) (m := m + z + y) (by omega))
    have HT := Lib.hid (subSz_neg (left := left - ((m : Int) + (z : Int))) (m := y) (by omega))
    go_enter Tryd.func17, Tryd.ntmps17
    go_wp2_with fail
    refine (szStringS_any _ _ _ qs _ _ HA.out HM.out h2 H3.out (by omega) (by omega)).mono ?_
    rintro e w' ⟨rfl, rfl⟩
    rw [← HZ.out, HS.out]
    go_wp2_with fail
    refine (szStmtS_any d lo _ _ _ l _ _ HB.out H4.out (by omega) (by omega)).mono ?_
    rintro e w1 ⟨rfl, b1, s1⟩
    simp at s1
    rw [← HY.out, HT.out]
    go_wp2_with fail
    go_ret
    exact ⟨by rw [HF.out]; rfl, (by repeat (first | exact Below.refl _ _ | assumption | (refine Below.trans ?_ (Below.mono (by assumption) (by first | omega | (simp; done) | (simp; omega)))) | (with_reducible refine Below.drew ?_) | (with_reducible refine Below.alloc ?_ (by first | omega | (simp; done) | (simp; omega)) _) | (with_reducible refine Below.setCell ?_ (by first | omega | (simp; done) | (simp; omega)) _))), (by first | omega | (simp; done) | (simp; omega))⟩
  have HT := Lib.hid (subSz_pos (left := left - ((m : Int) + (z : Int))) (m := y) (by omega))
  have HF := Lib.hid ((subSz_pos (left := left) (m := m + z + y) (by omega)).trans (show left - ((m + z + y : Nat) : Int) = left - ((m : Int) + (z : Int)) - (y : Int) by omega))
  go_enter Tryd.func17, Tryd.ntmps17
  go_wp2_with fail
  refine (szStringS_any _ _ _ qs _ _ HA.out HM.out h2 H3.out (by omega) (by omega)).mono ?_
  rintro e w' ⟨rfl, rfl⟩
  rw [← HZ.out, HS.out]
  go_wp2_with fail
  refine (szStmtS_any d lo _ _ _ l _ _ HB.out H4.out (by omega) (by omega)).mono ?_
  rintro e w1 ⟨rfl, b1, s1⟩
  simp at s1
  rw [← HY.out, HT.out]
  go_wp2_with fail
  go_ret
  exact ⟨by rw [HF.out]; rfl, (by repeat (first | exact Below.refl _ _ | assumption | (refine Below.trans ?_ (Below.mono (by assumption) (by first | omega | (simp; done) | (simp; omega)))) | (with_reducible refine Below.drew ?_) | (with_reducible refine Below.alloc ?_ (by first | omega | (simp; done) | (simp; omega)) _) | (with_reducible refine Below.setCell ?_ (by first | omega | (simp; done) | (simp; omega)) _))), (by first | omega | (simp; done) | (simp; omega))⟩
/-- A call that returns a program that lies in new memory. -/
def RetP (d m nb : Nat) (qs : List ByteArray) (l : List (Tr d)) (w : World) (e : Ending) (w' : World) : Prop :=
  ∃ Aq cq Ab cb, e = .returned (.agg #[.slice Aq m cq, .slice Ab nb cb]) ∧ RdL w' w.heap.size 1 Aq m (strs qs) ∧ RdT w' w.heap.size d Ab nb l ∧ Below w.heap.size w w' ∧ w.heap.size ≤ w'.heap.size
set_option maxRecDepth 100000 in
set_option maxHeartbeats 2000000 in
theorem toProgram_any (d lo : Nat) (Aq : Option Addr) (m cq : Nat) (qs : List ByteArray) (l : List (Tr d)) (Ab : Option Addr) (nb cb : Nat) (w : World)
    (hra : Rd w 1 Aq m (strs qs)) (hrb : RdT w lo d Ab nb l) (hm : qs.length = m) (h1 : m ≤ 1048576) (h2 : szT d l ≤ 1048576) :
    Calls Tryd.prog 19 #[.agg #[.slice Aq m cq, .slice Ab nb cb]] w (RetP d m nb qs l w) := by
  have HM := Lib.hid hm
  have HA := Lib.hid hra
  have HB := Lib.hid hrb
  clear hm hra hrb
  go_enter Tryd.func19, Tryd.ntmps19
  go_wp2_with fail
  obtain ⟨w0, hw0⟩ : ∃ w0, w0 = ((w.alloc (.cells #[.slice Aq m cq, .slice Ab nb cb] 35)).alloc (.cells #[.slice none 0 0, .slice none 0 0] 39)).alloc (.cells #[.slice none 0 0, .slice none 0 0] 39) := ⟨_, rfl⟩
  rw [← hw0]
  have x0 : w0.heap[w.heap.size]? = some (.cells #[.slice Aq m cq, .slice Ab nb cb] 35 (0, 0)) := by rw [hw0]; exact boxed3_0 _ _ _ _
  have x1 : w0.heap[w.heap.size + 1]? = some (.cells #[.slice none 0 0, .slice none 0 0] 39 (0, 0)) := by rw [hw0]; exact boxed3_1 _ _ _ _
  have x2 : w0.heap[w.heap.size + 2]? = some (.cells #[.slice none 0 0, .slice none 0 0] 39 (0, 0)) := by rw [hw0]; exact boxed3_2 _ _ _ _
  have b0 : Below w.heap.size w w0 := by rw [hw0]; exact (by repeat (first | exact Below.refl _ _ | assumption | (refine Below.trans ?_ (Below.mono (by assumption) (by first | omega | (simp; done) | (simp; omega)))) | (with_reducible refine Below.drew ?_) | (with_reducible refine Below.alloc ?_ (by first | omega | (simp; done) | (simp; omega)) _) | (with_reducible refine Below.setCell ?_ (by first | omega | (simp; done) | (simp; omega)) _)))
  have s0 : w.heap.size + 3 = w0.heap.size := by rw [hw0]; simp
  have S0 := Lib.hid s0
  have X0 := Lib.hid x0
  have X1 := Lib.hid x1
  have X2 := Lib.hid x2
  clear hw0 s0 x0 x1 x2
  refine (toStringS_any _ _ _ qs _ (HA.out.below b0) HM.out (by omega)).mono ?_
  rintro e w1 ⟨v1, rfl, o1, b1, s1⟩
  obtain ⟨A1, c1, rfl, _, _, _⟩ := rd_of_own o1
  obtain ⟨p0, p1⟩ := boxcells2 (lay := b1) X0.out
  obtain ⟨q0, q1⟩ := boxcells2 (lay := b1) X2.out
  have f0 := boxfree b1 X2.out 0
  go_wp2_with fail
  obtain ⟨w2, hw2⟩ : ∃ w2, w2 = w1.setCell ⟨w.heap.size + 2, 0, none⟩ (.slice A1 m c1) := ⟨_, rfl⟩
  rw [← hw2]
  have hS := S0.out
  have y1 : w2.heap[w.heap.size + 1]? = some (.cells #[.slice none 0 0, .slice none 0 0] 39 (0, 0)) := by
    rw [hw2]; exact heap_set_far ((b1.block _ (by omega)).trans X1.out) (by simp) _
  have y2 : w2.heap[w.heap.size + 2]? = some (.cells #[.slice A1 m c1, .slice none 0 0] 39 (0, 0)) := by
    rw [hw2]; exact heap_set_self ((b1.block _ (by omega)).trans X2.out) _
  have b2 : Below w.heap.size w w2 := by rw [hw2]; exact (b0.trans (b1.mono (by omega))).setCell (by simp) _
  have s2 : w1.heap.size = w2.heap.size := by rw [hw2, size_setCell]
  have r1 : RdL w2 (w.heap.size + 3) 1 A1 m (strs qs) := by
    rw [hw2]; exact (rdl_own o1).lower (by omega) |>.set_ (by simp) _
  have Y1 := Lib.hid y1
  have Y2 := Lib.hid y2
  have R1 := Lib.hid r1
  have S2 := Lib.hid s2
  clear hw2 y1 y2 r1 s2 p0 p1 q0 q1 f0 o1 hS
  refine (toStmtS_any d lo _ _ _ l _ (HB.out.below b2) h2).mono ?_
  rintro e w3 ⟨A3, c3, rfl, r3, b3, s3⟩
  obtain ⟨t0, t1⟩ := boxcells2 (lay := b3) Y1.out
  obtain ⟨u0, u1⟩ := boxcells2 (lay := b3) Y2.out
  have g0 := boxfree b3 Y1.out 0
  have g1 := boxfree b3 Y1.out 1
  have g5 := boxfree b3 Y2.out 1
  have R3 := Lib.hid r3
  clear r3
  go_wp2_with fail
  have hS := S0.out
  have hS2 := S2.out
  refine bodyPost_ret (v := .agg #[.slice A1 m c1, .slice A3 nb c3]) (by simp [results, Tryd.results19, go_sem, t0, t1]) rfl ⟨A1, c1, A3, c3, rfl, ?_, ?_, ?_, ?_⟩
  · exact RdL.lower (lo := w.heap.size + 3) ((((R1.out.below b3).set_ (by simp) _).set_ (by simp) _).set_ (by simp) _) (by omega)
  · exact RdT.lower (lo := w2.heap.size) (by omega) (((R3.out.set_ (by simp; omega) _).set_ (by simp; omega) _).set_ (by simp; omega) _)
  · exact ((((b2.trans (b3.mono (by omega))).setCell (by first | omega | (simp; done) | (simp; omega)) _).setCell (by first | omega | (simp; done) | (simp; omega)) _).setCell (by first | omega | (simp; done) | (simp; omega)) _)
  · simp [World.setCell]; omega
set_option maxRecDepth 100000 in
set_option maxHeartbeats 2000000 in
theorem eqProgram_any (d lo lo' : Nat) (m nb : Nat) (qs : List ByteArray) (l : List (Tr d)) (Aq : Option Addr) (cq : Nat) (Ab : Option Addr) (cb : Nat) (Aq' : Option Addr) (cq' : Nat) (Ab' : Option Addr) (cb' : Nat) (w : World)
    (hra : Rd w 1 Aq m (strs qs)) (hrb : RdT w lo d Ab nb l) (hra' : Rd w 1 Aq' m (strs qs)) (hrb' : RdT w lo' d Ab' nb l) (hm : qs.length = m) (h1 : m ≤ 1048576) (h2 : szT d l ≤ 1048576) :
    Calls Tryd.prog 21 #[.agg #[.slice Aq m cq, .slice Ab nb cb], .agg #[.slice Aq' m cq', .slice Ab' nb cb']] w fun e w' =>
      e = .returned (.bool true) ∧ Below w.heap.size w w' ∧ w.heap.size ≤ w'.heap.size := by
  have HM := Lib.hid hm
  have HA := Lib.hid hra
  have HB := Lib.hid hrb
  have HA' := Lib.hid hra'
  have HB' := Lib.hid hrb'
  clear hm hra hrb hra' hrb'
  go_enter Tryd.func21, Tryd.ntmps21
  go_wp2_with fail
  obtain ⟨w0, hw0⟩ : ∃ w0, w0 = (w.alloc (.cells #[.slice Aq m cq, .slice Ab nb cb] 39)).alloc (.cells #[.slice Aq' m cq', .slice Ab' nb cb'] 39) := ⟨_, rfl⟩
  rw [← hw0]
  have X0 := Lib.hid (show w0.heap[w.heap.size]? = some (.cells #[.slice Aq m cq, .slice Ab nb cb] 39 (0, 0)) by rw [hw0]; exact boxed2_0 _ _ _)
  have X1 := Lib.hid (show w0.heap[w.heap.size + 1]? = some (.cells #[.slice Aq' m cq', .slice Ab' nb cb'] 39 (0, 0)) by rw [hw0]; exact boxed2_1 _ _ _)
  have b0 : Below w.heap.size w w0 := by rw [hw0]; exact (by repeat (first | exact Below.refl _ _ | assumption | (refine Below.trans ?_ (Below.mono (by assumption) (by first | omega | (simp; done) | (simp; omega)))) | (with_reducible refine Below.drew ?_) | (with_reducible refine Below.alloc ?_ (by first | omega | (simp; done) | (simp; omega)) _) | (with_reducible refine Below.setCell ?_ (by first | omega | (simp; done) | (simp; omega)) _)))
  have s0 : w.heap.size ≤ w0.heap.size := b0.size
  clear hw0
  refine (eqStringS_same _ _ _ _ _ qs _ HM.out (by omega) (HA.out.below b0) (HA'.out.below b0)).mono ?_
  rintro e w1 ⟨rfl, b1, s1⟩
  obtain ⟨_, p4⟩ := boxcells2 (lay := b1) X0.out
  obtain ⟨_, q4⟩ := boxcells2 (lay := b1) X1.out
  have b01 : Below w.heap.size w w1 := b0.trans (b1.mono s0)
  go_wp2_with fail
  refine (eqStmtS_any d lo lo' _ _ _ _ _ l _ (HB.out.below b01) (HB'.out.below b01) h2).mono ?_
  rintro e w2 ⟨rfl, b2, s2⟩
  go_wp2_with fail
  go_ret
  exact ⟨rfl, b01.trans (b2.mono (by omega)), by omega⟩
end Go.Proofs.YtijocafindbebaaDoor
