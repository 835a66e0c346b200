/- Drawing gates: each draw returns a gate, and writes nothing but the cursor. -/
import Derived.Test.YtgjpicekdbemiaaDraw2
namespace Go.Proofs.Ytgjpicekdbemiaa
open Go.RowKit
set_option linter.unusedVariables false
theorem picked {w : World} {L : List Int} {b : Nat} (hb : b = w.heap.size) : Rd (w.alloc (.cells (L.map (Value.int .i64)).toArray 3)) 1 (some ⟨b, 0, none⟩) L.length (L.map (Value.int .i64)) := by
  have h := rd_lit1 (w := w) (cs := (L.map (Value.int .i64)).toArray) (e := 3) (n := L.length) (size := 1) hb (by simp)
  simpa using h
set_option maxRecDepth 100000 in
set_option maxHeartbeats 2000000 in
theorem l9Gate_1 (w : World) (p : Nat) (hcur : CurAt w p) : Calls Try.prog 43 #[.pointer (some ⟨p, 0, none⟩), .int .i64 1] w (DG w p) := by
  have hp := hcur.lt
  go_enter Try.func43, Try.ntmps43
  go_wp2_with fail
  obtain ⟨w0, hw0⟩ : ∃ w0, w0 = (w.alloc (.cells #[.int .i64 0, .int .i64 0, .int .i64 0, .int .i64 0] 30)).alloc (.cells #[.int .i64 0, .int .i64 8, .int .i64 11, .int .i64 12, .int .i64 12] 3) := ⟨_, rfl⟩
  rw [← hw0]
  have x0 : w0.heap[w.heap.size]? = some (.cells #[.int .i64 0, .int .i64 0, .int .i64 0, .int .i64 0] 30 (0, 0)) := by rw [hw0]; exact boxed2_0 _ _ _
  have hfr0 : Fr w p w0 := by rw [hw0]; exact ((Fr.start hcur).alloc _).alloc _
  have s0 : w.heap.size < w0.heap.size := by rw [hw0]; simp; omega
  clear hw0
  refine (l1Below_any 8 11 w0 p hfr0.cur (by omega) (by omega) (by omega)).mono ?_
  rintro e w1 ⟨x, hx0, hx1, rfl, hc1, hg1⟩
  have x1 := box_call x0 hg1 (by omega)
  have hfr1 := hfr0.call hc1 hg1
  have s1 : w.heap.size < w1.heap.size := by have := hg1.size; omega
  have X1 := Lib.hid x1
  clear x0 x1 hc1 hg1 hfr0
  go_wp2_with fail
  refine (l1Once_any 2 w1 p hfr1.cur (by omega) (by omega)).mono ?_
  rintro e w2 ⟨b, rfl, hc2, hg2⟩
  have x2 := box_call X1.out hg2 (by omega)
  have hfr2 := hfr1.call hc2 hg2
  have s2 : w.heap.size < w2.heap.size := by have := hg2.size; omega
  have X2 := Lib.hid x2
  clear X1 x2 hc2 hg2 hfr1
  cases b
  · by_cases hA : 1 < ar (1 + x)
    · go_wp2_with (go_at_call 33; refine (Arity_spec _ _).mono ?_; rintro e w' ⟨rfl, rfl⟩)
      refine (l9On_any (4) 1 w2 p hfr2.cur (by omega) (by omega) (show ar 4 ≤ 1 by decide)).mono ?_
      rintro e w3 ⟨k, a, b, c, rfl, hc, hg⟩
      have x3 := box_call X2.out hg (by omega)
      have hfr3 := hfr2.call hc hg
      have s3 : w.heap.size < w3.heap.size := by have := hg.size; omega
      obtain ⟨q0, q1, q2, q3⟩ := boxcells4 (lay := Below.refl _ _) x3
      have f0 := free_at (j := 0) x3
      have f1 := free_at (j := 1) x3
      have f2 := free_at (j := 2) x3
      have f3 := free_at (j := 3) x3
      clear X2 x3 hc hg hfr2
      go_wp2_with fail
      exact bodyPost_ret (v := .agg #[.int .i64 k, .int .i64 a, .int .i64 b, .int .i64 c]) (by simp [results, Try.results43, go_sem, q0, q1, q2, q3]) rfl ⟨_, _, _, _, rfl, (Fr.cur (w := w) (by repeat (first | assumption | (with_reducible refine Fr.alloc ?_ _) | (with_reducible refine Fr.set ?_ hp (by first | omega | (simp; done) | (simp; omega)) _)))), (Fr.gr (by repeat (first | assumption | (with_reducible refine Fr.alloc ?_ _) | (with_reducible refine Fr.set ?_ hp (by first | omega | (simp; done) | (simp; omega)) _))))⟩
    · go_wp2_with (go_at_call 33; refine (Arity_spec _ _).mono ?_; rintro e w' ⟨rfl, rfl⟩)
      refine (l9On_any (1 + x) 1 w2 p hfr2.cur (by omega) (by omega) (by omega)).mono ?_
      rintro e w3 ⟨k, a, b, c, rfl, hc, hg⟩
      have x3 := box_call X2.out hg (by omega)
      have hfr3 := hfr2.call hc hg
      have s3 : w.heap.size < w3.heap.size := by have := hg.size; omega
      obtain ⟨q0, q1, q2, q3⟩ := boxcells4 (lay := Below.refl _ _) x3
      have f0 := free_at (j := 0) x3
      have f1 := free_at (j := 1) x3
      have f2 := free_at (j := 2) x3
      have f3 := free_at (j := 3) x3
      clear X2 x3 hc hg hfr2
      go_wp2_with fail
      exact bodyPost_ret (v := .agg #[.int .i64 k, .int .i64 a, .int .i64 b, .int .i64 c]) (by simp [results, Try.results43, go_sem, q0, q1, q2, q3]) rfl ⟨_, _, _, _, rfl, (Fr.cur (w := w) (by repeat (first | assumption | (with_reducible refine Fr.alloc ?_ _) | (with_reducible refine Fr.set ?_ hp (by first | omega | (simp; done) | (simp; omega)) _)))), (Fr.gr (by repeat (first | assumption | (with_reducible refine Fr.alloc ?_ _) | (with_reducible refine Fr.set ?_ hp (by first | omega | (simp; done) | (simp; omega)) _))))⟩
  · go_wp2_with fail
    obtain ⟨w3, hw3⟩ : ∃ w3, w3 = w2.alloc (.cells #[.int .i64 4, .int .i64 7, .int .i64 5, .int .i64 8, .int .i64 9, .int .i64 9, .int .i64 9, .int .i64 9] 3) := ⟨_, rfl⟩
    rw [← hw3]
    have x3 : w3.heap[w.heap.size]? = some (.cells #[.int .i64 0, .int .i64 0, .int .i64 0, .int .i64 0] 30 (0, 0)) := by rw [hw3]; exact (Below.heap_alloc _ _ _ s2).trans X2.out
    have hfr3 : Fr w p w3 := by rw [hw3]; exact hfr2.alloc _
    have hpk := picked (w := w2) (L := [4, 7, 5, 8, 9, 9, 9, 9]) rfl
    have hr3 : Rd w3 1 (some ⟨w2.heap.size, 0, none⟩) 8 (([4, 7, 5, 8, 9, 9, 9, 9] : List Int).map (Value.int .i64)) := by rw [hw3]; exact hpk
    have s3 : w.heap.size < w3.heap.size := by rw [hw3]; simp; omega
    clear hw3 hpk X2
    refine (l1PickInt_any w2.heap.size 8 8 [4, 7, 5, 8, 9, 9, 9, 9] w3 p hfr3.cur rfl (by omega) (by omega) hr3 (by omega)).mono ?_
    rintro e w4 ⟨y, hy, rfl, hc4, hg4⟩
    have x4 := box_call x3 hg4 (by omega)
    have hfr4 := hfr3.call hc4 hg4
    have s4 : w.heap.size < w4.heap.size := by have := hg4.size; omega
    have X4 := Lib.hid x4
    clear x3 x4 hc4 hg4 hfr3 hr3 hy
    by_cases hA : 1 < ar (y)
    · go_wp2_with (go_at_call 33; refine (Arity_spec _ _).mono ?_; rintro e w' ⟨rfl, rfl⟩)
      refine (l9On_any (4) 1 w4 p hfr4.cur (by omega) (by omega) (show ar 4 ≤ 1 by decide)).mono ?_
      rintro e w5 ⟨k, a, b, c, rfl, hc, hg⟩
      have x5 := box_call X4.out hg (by omega)
      have hfr5 := hfr4.call hc hg
      have s5 : w.heap.size < w5.heap.size := by have := hg.size; omega
      obtain ⟨q0, q1, q2, q3⟩ := boxcells4 (lay := Below.refl _ _) x5
      have f0 := free_at (j := 0) x5
      have f1 := free_at (j := 1) x5
      have f2 := free_at (j := 2) x5
      have f3 := free_at (j := 3) x5
      clear X4 x5 hc hg hfr4
      go_wp2_with fail
      exact bodyPost_ret (v := .agg #[.int .i64 k, .int .i64 a, .int .i64 b, .int .i64 c]) (by simp [results, Try.results43, go_sem, q0, q1, q2, q3]) rfl ⟨_, _, _, _, rfl, (Fr.cur (w := w) (by repeat (first | assumption | (with_reducible refine Fr.alloc ?_ _) | (with_reducible refine Fr.set ?_ hp (by first | omega | (simp; done) | (simp; omega)) _)))), (Fr.gr (by repeat (first | assumption | (with_reducible refine Fr.alloc ?_ _) | (with_reducible refine Fr.set ?_ hp (by first | omega | (simp; done) | (simp; omega)) _))))⟩
    · go_wp2_with (go_at_call 33; refine (Arity_spec _ _).mono ?_; rintro e w' ⟨rfl, rfl⟩)
      refine (l9On_any (y) 1 w4 p hfr4.cur (by omega) (by omega) (by omega)).mono ?_
      rintro e w5 ⟨k, a, b, c, rfl, hc, hg⟩
      have x5 := box_call X4.out hg (by omega)
      have hfr5 := hfr4.call hc hg
      have s5 : w.heap.size < w5.heap.size := by have := hg.size; omega
      obtain ⟨q0, q1, q2, q3⟩ := boxcells4 (lay := Below.refl _ _) x5
      have f0 := free_at (j := 0) x5
      have f1 := free_at (j := 1) x5
      have f2 := free_at (j := 2) x5
      have f3 := free_at (j := 3) x5
      clear X4 x5 hc hg hfr4
      go_wp2_with fail
      exact bodyPost_ret (v := .agg #[.int .i64 k, .int .i64 a, .int .i64 b, .int .i64 c]) (by simp [results, Try.results43, go_sem, q0, q1, q2, q3]) rfl ⟨_, _, _, _, rfl, (Fr.cur (w := w) (by repeat (first | assumption | (with_reducible refine Fr.alloc ?_ _) | (with_reducible refine Fr.set ?_ hp (by first | omega | (simp; done) | (simp; omega)) _)))), (Fr.gr (by repeat (first | assumption | (with_reducible refine Fr.alloc ?_ _) | (with_reducible refine Fr.set ?_ hp (by first | omega | (simp; done) | (simp; omega)) _))))⟩

set_option maxRecDepth 100000 in
set_option maxHeartbeats 2000000 in
theorem l9Gate_2 (w : World) (p : Nat) (hcur : CurAt w p) : Calls Try.prog 43 #[.pointer (some ⟨p, 0, none⟩), .int .i64 2] w (DG w p) := by
  have hp := hcur.lt
  go_enter Try.func43, Try.ntmps43
  go_wp2_with fail
  obtain ⟨w0, hw0⟩ : ∃ w0, w0 = (w.alloc (.cells #[.int .i64 0, .int .i64 0, .int .i64 0, .int .i64 0] 30)).alloc (.cells #[.int .i64 0, .int .i64 8, .int .i64 11, .int .i64 12, .int .i64 12] 3) := ⟨_, rfl⟩
  rw [← hw0]
  have x0 : w0.heap[w.heap.size]? = some (.cells #[.int .i64 0, .int .i64 0, .int .i64 0, .int .i64 0] 30 (0, 0)) := by rw [hw0]; exact boxed2_0 _ _ _
  have hfr0 : Fr w p w0 := by rw [hw0]; exact ((Fr.start hcur).alloc _).alloc _
  have s0 : w.heap.size < w0.heap.size := by rw [hw0]; simp; omega
  clear hw0
  refine (l1Below_any 11 11 w0 p hfr0.cur (by omega) (by omega) (by omega)).mono ?_
  rintro e w1 ⟨x, hx0, hx1, rfl, hc1, hg1⟩
  have x1 := box_call x0 hg1 (by omega)
  have hfr1 := hfr0.call hc1 hg1
  have s1 : w.heap.size < w1.heap.size := by have := hg1.size; omega
  have X1 := Lib.hid x1
  clear x0 x1 hc1 hg1 hfr0
  go_wp2_with fail
  refine (l1Once_any 2 w1 p hfr1.cur (by omega) (by omega)).mono ?_
  rintro e w2 ⟨b, rfl, hc2, hg2⟩
  have x2 := box_call X1.out hg2 (by omega)
  have hfr2 := hfr1.call hc2 hg2
  have s2 : w.heap.size < w2.heap.size := by have := hg2.size; omega
  have X2 := Lib.hid x2
  clear X1 x2 hc2 hg2 hfr1
  cases b
  · by_cases hA : 2 < ar (1 + x)
    · go_wp2_with (go_at_call 33; refine (Arity_spec _ _).mono ?_; rintro e w' ⟨rfl, rfl⟩)
      refine (l9On_any (4) 2 w2 p hfr2.cur (by omega) (by omega) (show ar 4 ≤ 2 by decide)).mono ?_
      rintro e w3 ⟨k, a, b, c, rfl, hc, hg⟩
      have x3 := box_call X2.out hg (by omega)
      have hfr3 := hfr2.call hc hg
      have s3 : w.heap.size < w3.heap.size := by have := hg.size; omega
      obtain ⟨q0, q1, q2, q3⟩ := boxcells4 (lay := Below.refl _ _) x3
      have f0 := free_at (j := 0) x3
      have f1 := free_at (j := 1) x3
      have f2 := free_at (j := 2) x3
      have f3 := free_at (j := 3) x3
      clear X2 x3 hc hg hfr2
      go_wp2_with fail
      exact bodyPost_ret (v := .agg #[.int .i64 k, .int .i64 a, .int .i64 b, .int .i64 c]) (by simp [results, Try.results43, go_sem, q0, q1, q2, q3]) rfl ⟨_, _, _, _, rfl, (Fr.cur (w := w) (by repeat (first | assumption | (with_reducible refine Fr.alloc ?_ _) | (with_reducible refine Fr.set ?_ hp (by first | omega | (simp; done) | (simp; omega)) _)))), (Fr.gr (by repeat (first | assumption | (with_reducible refine Fr.alloc ?_ _) | (with_reducible refine Fr.set ?_ hp (by first | omega | (simp; done) | (simp; omega)) _))))⟩
    · go_wp2_with (go_at_call 33; refine (Arity_spec _ _).mono ?_; rintro e w' ⟨rfl, rfl⟩)
      refine (l9On_any (1 + x) 2 w2 p hfr2.cur (by omega) (by omega) (by omega)).mono ?_
      rintro e w3 ⟨k, a, b, c, rfl, hc, hg⟩
      have x3 := box_call X2.out hg (by omega)
      have hfr3 := hfr2.call hc hg
      have s3 : w.heap.size < w3.heap.size := by have := hg.size; omega
      obtain ⟨q0, q1, q2, q3⟩ := boxcells4 (lay := Below.refl _ _) x3
      have f0 := free_at (j := 0) x3
      have f1 := free_at (j := 1) x3
      have f2 := free_at (j := 2) x3
      have f3 := free_at (j := 3) x3
      clear X2 x3 hc hg hfr2
      go_wp2_with fail
      exact bodyPost_ret (v := .agg #[.int .i64 k, .int .i64 a, .int .i64 b, .int .i64 c]) (by simp [results, Try.results43, go_sem, q0, q1, q2, q3]) rfl ⟨_, _, _, _, rfl, (Fr.cur (w := w) (by repeat (first | assumption | (with_reducible refine Fr.alloc ?_ _) | (with_reducible refine Fr.set ?_ hp (by first | omega | (simp; done) | (simp; omega)) _)))), (Fr.gr (by repeat (first | assumption | (with_reducible refine Fr.alloc ?_ _) | (with_reducible refine Fr.set ?_ hp (by first | omega | (simp; done) | (simp; omega)) _))))⟩
  · go_wp2_with fail
    obtain ⟨w3, hw3⟩ : ∃ w3, w3 = w2.alloc (.cells #[.int .i64 4, .int .i64 7, .int .i64 5, .int .i64 8, .int .i64 9, .int .i64 9, .int .i64 9, .int .i64 9] 3) := ⟨_, rfl⟩
    rw [← hw3]
    have x3 : w3.heap[w.heap.size]? = some (.cells #[.int .i64 0, .int .i64 0, .int .i64 0, .int .i64 0] 30 (0, 0)) := by rw [hw3]; exact (Below.heap_alloc _ _ _ s2).trans X2.out
    have hfr3 : Fr w p w3 := by rw [hw3]; exact hfr2.alloc _
    have hpk := picked (w := w2) (L := [4, 7, 5, 8, 9, 9, 9, 9]) rfl
    have hr3 : Rd w3 1 (some ⟨w2.heap.size, 0, none⟩) 8 (([4, 7, 5, 8, 9, 9, 9, 9] : List Int).map (Value.int .i64)) := by rw [hw3]; exact hpk
    have s3 : w.heap.size < w3.heap.size := by rw [hw3]; simp; omega
    clear hw3 hpk X2
    refine (l1PickInt_any w2.heap.size 8 8 [4, 7, 5, 8, 9, 9, 9, 9] w3 p hfr3.cur rfl (by omega) (by omega) hr3 (by omega)).mono ?_
    rintro e w4 ⟨y, hy, rfl, hc4, hg4⟩
    have x4 := box_call x3 hg4 (by omega)
    have hfr4 := hfr3.call hc4 hg4
    have s4 : w.heap.size < w4.heap.size := by have := hg4.size; omega
    have X4 := Lib.hid x4
    clear x3 x4 hc4 hg4 hfr3 hr3 hy
    by_cases hA : 2 < ar (y)
    · go_wp2_with (go_at_call 33; refine (Arity_spec _ _).mono ?_; rintro e w' ⟨rfl, rfl⟩)
      refine (l9On_any (4) 2 w4 p hfr4.cur (by omega) (by omega) (show ar 4 ≤ 2 by decide)).mono ?_
      rintro e w5 ⟨k, a, b, c, rfl, hc, hg⟩
      have x5 := box_call X4.out hg (by omega)
      have hfr5 := hfr4.call hc hg
      have s5 : w.heap.size < w5.heap.size := by have := hg.size; omega
      obtain ⟨q0, q1, q2, q3⟩ := boxcells4 (lay := Below.refl _ _) x5
      have f0 := free_at (j := 0) x5
      have f1 := free_at (j := 1) x5
      have f2 := free_at (j := 2) x5
      have f3 := free_at (j := 3) x5
      clear X4 x5 hc hg hfr4
      go_wp2_with fail
      exact bodyPost_ret (v := .agg #[.int .i64 k, .int .i64 a, .int .i64 b, .int .i64 c]) (by simp [results, Try.results43, go_sem, q0, q1, q2, q3]) rfl ⟨_, _, _, _, rfl, (Fr.cur (w := w) (by repeat (first | assumption | (with_reducible refine Fr.alloc ?_ _) | (with_reducible refine Fr.set ?_ hp (by first | omega | (simp; done) | (simp; omega)) _)))), (Fr.gr (by repeat (first | assumption | (with_reducible refine Fr.alloc ?_ _) | (with_reducible refine Fr.set ?_ hp (by first | omega | (simp; done) | (simp; omega)) _))))⟩
    · go_wp2_with (go_at_call 33; refine (Arity_spec _ _).mono ?_; rintro e w' ⟨rfl, rfl⟩)
      refine (l9On_any (y) 2 w4 p hfr4.cur (by omega) (by omega) (by omega)).mono ?_
      rintro e w5 ⟨k, a, b, c, rfl, hc, hg⟩
      have x5 := box_call X4.out hg (by omega)
      have hfr5 := hfr4.call hc hg
      have s5 : w.heap.size < w5.heap.size := by have := hg.size; omega
      obtain ⟨q0, q1, q2, q3⟩ := boxcells4 (lay := Below.refl _ _) x5
      have f0 := free_at (j := 0) x5
      have f1 := free_at (j := 1) x5
      have f2 := free_at (j := 2) x5
      have f3 := free_at (j := 3) x5
      clear X4 x5 hc hg hfr4
      go_wp2_with fail
      exact bodyPost_ret (v := .agg #[.int .i64 k, .int .i64 a, .int .i64 b, .int .i64 c]) (by simp [results, Try.results43, go_sem, q0, q1, q2, q3]) rfl ⟨_, _, _, _, rfl, (Fr.cur (w := w) (by repeat (first | assumption | (with_reducible refine Fr.alloc ?_ _) | (with_reducible refine Fr.set ?_ hp (by first | omega | (simp; done) | (simp; omega)) _)))), (Fr.gr (by repeat (first | assumption | (with_reducible refine Fr.alloc ?_ _) | (with_reducible refine Fr.set ?_ hp (by first | omega | (simp; done) | (simp; omega)) _))))⟩

set_option maxRecDepth 100000 in
set_option maxHeartbeats 2000000 in
theorem l9Gate_3 (w : World) (p : Nat) (hcur : CurAt w p) : Calls Try.prog 43 #[.pointer (some ⟨p, 0, none⟩), .int .i64 3] w (DG w p) := by
  have hp := hcur.lt
  go_enter Try.func43, Try.ntmps43
  go_wp2_with fail
  obtain ⟨w0, hw0⟩ : ∃ w0, w0 = (w.alloc (.cells #[.int .i64 0, .int .i64 0, .int .i64 0, .int .i64 0] 30)).alloc (.cells #[.int .i64 0, .int .i64 8, .int .i64 11, .int .i64 12, .int .i64 12] 3) := ⟨_, rfl⟩
  rw [← hw0]
  have x0 : w0.heap[w.heap.size]? = some (.cells #[.int .i64 0, .int .i64 0, .int .i64 0, .int .i64 0] 30 (0, 0)) := by rw [hw0]; exact boxed2_0 _ _ _
  have hfr0 : Fr w p w0 := by rw [hw0]; exact ((Fr.start hcur).alloc _).alloc _
  have s0 : w.heap.size < w0.heap.size := by rw [hw0]; simp; omega
  clear hw0
  refine (l1Below_any 12 11 w0 p hfr0.cur (by omega) (by omega) (by omega)).mono ?_
  rintro e w1 ⟨x, hx0, hx1, rfl, hc1, hg1⟩
  have x1 := box_call x0 hg1 (by omega)
  have hfr1 := hfr0.call hc1 hg1
  have s1 : w.heap.size < w1.heap.size := by have := hg1.size; omega
  have X1 := Lib.hid x1
  clear x0 x1 hc1 hg1 hfr0
  go_wp2_with fail
  refine (l1Once_any 2 w1 p hfr1.cur (by omega) (by omega)).mono ?_
  rintro e w2 ⟨b, rfl, hc2, hg2⟩
  have x2 := box_call X1.out hg2 (by omega)
  have hfr2 := hfr1.call hc2 hg2
  have s2 : w.heap.size < w2.heap.size := by have := hg2.size; omega
  have X2 := Lib.hid x2
  clear X1 x2 hc2 hg2 hfr1
  cases b
  · by_cases hA : 3 < ar (1 + x)
    · go_wp2_with (go_at_call 33; refine (Arity_spec _ _).mono ?_; rintro e w' ⟨rfl, rfl⟩)
      refine (l9On_any (4) 3 w2 p hfr2.cur (by omega) (by omega) (show ar 4 ≤ 3 by decide)).mono ?_
      rintro e w3 ⟨k, a, b, c, rfl, hc, hg⟩
      have x3 := box_call X2.out hg (by omega)
      have hfr3 := hfr2.call hc hg
      have s3 : w.heap.size < w3.heap.size := by have := hg.size; omega
      obtain ⟨q0, q1, q2, q3⟩ := boxcells4 (lay := Below.refl _ _) x3
      have f0 := free_at (j := 0) x3
      have f1 := free_at (j := 1) x3
      have f2 := free_at (j := 2) x3
      have f3 := free_at (j := 3) x3
      clear X2 x3 hc hg hfr2
      go_wp2_with fail
      exact bodyPost_ret (v := .agg #[.int .i64 k, .int .i64 a, .int .i64 b, .int .i64 c]) (by simp [results, Try.results43, go_sem, q0, q1, q2, q3]) rfl ⟨_, _, _, _, rfl, (Fr.cur (w := w) (by repeat (first | assumption | (with_reducible refine Fr.alloc ?_ _) | (with_reducible refine Fr.set ?_ hp (by first | omega | (simp; done) | (simp; omega)) _)))), (Fr.gr (by repeat (first | assumption | (with_reducible refine Fr.alloc ?_ _) | (with_reducible refine Fr.set ?_ hp (by first | omega | (simp; done) | (simp; omega)) _))))⟩
    · go_wp2_with (go_at_call 33; refine (Arity_spec _ _).mono ?_; rintro e w' ⟨rfl, rfl⟩)
      refine (l9On_any (1 + x) 3 w2 p hfr2.cur (by omega) (by omega) (by omega)).mono ?_
      rintro e w3 ⟨k, a, b, c, rfl, hc, hg⟩
      have x3 := box_call X2.out hg (by omega)
      have hfr3 := hfr2.call hc hg
      have s3 : w.heap.size < w3.heap.size := by have := hg.size; omega
      obtain ⟨q0, q1, q2, q3⟩ := boxcells4 (lay := Below.refl _ _) x3
      have f0 := free_at (j := 0) x3
      have f1 := free_at (j := 1) x3
      have f2 := free_at (j := 2) x3
      have f3 := free_at (j := 3) x3
      clear X2 x3 hc hg hfr2
      go_wp2_with fail
      exact bodyPost_ret (v := .agg #[.int .i64 k, .int .i64 a, .int .i64 b, .int .i64 c]) (by simp [results, Try.results43, go_sem, q0, q1, q2, q3]) rfl ⟨_, _, _, _, rfl, (Fr.cur (w := w) (by repeat (first | assumption | (with_reducible refine Fr.alloc ?_ _) | (with_reducible refine Fr.set ?_ hp (by first | omega | (simp; done) | (simp; omega)) _)))), (Fr.gr (by repeat (first | assumption | (with_reducible refine Fr.alloc ?_ _) | (with_reducible refine Fr.set ?_ hp (by first | omega | (simp; done) | (simp; omega)) _))))⟩
  · go_wp2_with fail
    obtain ⟨w3, hw3⟩ : ∃ w3, w3 = w2.alloc (.cells #[.int .i64 4, .int .i64 7, .int .i64 5, .int .i64 8, .int .i64 9, .int .i64 9, .int .i64 9, .int .i64 9] 3) := ⟨_, rfl⟩
    rw [← hw3]
    have x3 : w3.heap[w.heap.size]? = some (.cells #[.int .i64 0, .int .i64 0, .int .i64 0, .int .i64 0] 30 (0, 0)) := by rw [hw3]; exact (Below.heap_alloc _ _ _ s2).trans X2.out
    have hfr3 : Fr w p w3 := by rw [hw3]; exact hfr2.alloc _
    have hpk := picked (w := w2) (L := [4, 7, 5, 8, 9, 9, 9, 9]) rfl
    have hr3 : Rd w3 1 (some ⟨w2.heap.size, 0, none⟩) 8 (([4, 7, 5, 8, 9, 9, 9, 9] : List Int).map (Value.int .i64)) := by rw [hw3]; exact hpk
    have s3 : w.heap.size < w3.heap.size := by rw [hw3]; simp; omega
    clear hw3 hpk X2
    refine (l1PickInt_any w2.heap.size 8 8 [4, 7, 5, 8, 9, 9, 9, 9] w3 p hfr3.cur rfl (by omega) (by omega) hr3 (by omega)).mono ?_
    rintro e w4 ⟨y, hy, rfl, hc4, hg4⟩
    have x4 := box_call x3 hg4 (by omega)
    have hfr4 := hfr3.call hc4 hg4
    have s4 : w.heap.size < w4.heap.size := by have := hg4.size; omega
    have X4 := Lib.hid x4
    clear x3 x4 hc4 hg4 hfr3 hr3 hy
    by_cases hA : 3 < ar (y)
    · go_wp2_with (go_at_call 33; refine (Arity_spec _ _).mono ?_; rintro e w' ⟨rfl, rfl⟩)
      refine (l9On_any (4) 3 w4 p hfr4.cur (by omega) (by omega) (show ar 4 ≤ 3 by decide)).mono ?_
      rintro e w5 ⟨k, a, b, c, rfl, hc, hg⟩
      have x5 := box_call X4.out hg (by omega)
      have hfr5 := hfr4.call hc hg
      have s5 : w.heap.size < w5.heap.size := by have := hg.size; omega
      obtain ⟨q0, q1, q2, q3⟩ := boxcells4 (lay := Below.refl _ _) x5
      have f0 := free_at (j := 0) x5
      have f1 := free_at (j := 1) x5
      have f2 := free_at (j := 2) x5
      have f3 := free_at (j := 3) x5
      clear X4 x5 hc hg hfr4
      go_wp2_with fail
      exact bodyPost_ret (v := .agg #[.int .i64 k, .int .i64 a, .int .i64 b, .int .i64 c]) (by simp [results, Try.results43, go_sem, q0, q1, q2, q3]) rfl ⟨_, _, _, _, rfl, (Fr.cur (w := w) (by repeat (first | assumption | (with_reducible refine Fr.alloc ?_ _) | (with_reducible refine Fr.set ?_ hp (by first | omega | (simp; done) | (simp; omega)) _)))), (Fr.gr (by repeat (first | assumption | (with_reducible refine Fr.alloc ?_ _) | (with_reducible refine Fr.set ?_ hp (by first | omega | (simp; done) | (simp; omega)) _))))⟩
    · go_wp2_with (go_at_call 33; refine (Arity_spec _ _).mono ?_; rintro e w' ⟨rfl, rfl⟩)
      refine (l9On_any (y) 3 w4 p hfr4.cur (by omega) (by omega) (by omega)).mono ?_
      rintro e w5 ⟨k, a, b, c, rfl, hc, hg⟩
      have x5 := box_call X4.out hg (by omega)
      have hfr5 := hfr4.call hc hg
      have s5 : w.heap.size < w5.heap.size := by have := hg.size; omega
      obtain ⟨q0, q1, q2, q3⟩ := boxcells4 (lay := Below.refl _ _) x5
      have f0 := free_at (j := 0) x5
      have f1 := free_at (j := 1) x5
      have f2 := free_at (j := 2) x5
      have f3 := free_at (j := 3) x5
      clear X4 x5 hc hg hfr4
      go_wp2_with fail
      exact bodyPost_ret (v := .agg #[.int .i64 k, .int .i64 a, .int .i64 b, .int .i64 c]) (by simp [results, Try.results43, go_sem, q0, q1, q2, q3]) rfl ⟨_, _, _, _, rfl, (Fr.cur (w := w) (by repeat (first | assumption | (with_reducible refine Fr.alloc ?_ _) | (with_reducible refine Fr.set ?_ hp (by first | omega | (simp; done) | (simp; omega)) _)))), (Fr.gr (by repeat (first | assumption | (with_reducible refine Fr.alloc ?_ _) | (with_reducible refine Fr.set ?_ hp (by first | omega | (simp; done) | (simp; omega)) _))))⟩

set_option maxRecDepth 100000 in
set_option maxHeartbeats 2000000 in
theorem l9Gate_4 (w : World) (p : Nat) (hcur : CurAt w p) : Calls Try.prog 43 #[.pointer (some ⟨p, 0, none⟩), .int .i64 4] w (DG w p) := by
  have hp := hcur.lt
  go_enter Try.func43, Try.ntmps43
  go_wp2_with fail
  obtain ⟨w0, hw0⟩ : ∃ w0, w0 = (w.alloc (.cells #[.int .i64 0, .int .i64 0, .int .i64 0, .int .i64 0] 30)).alloc (.cells #[.int .i64 0, .int .i64 8, .int .i64 11, .int .i64 12, .int .i64 12] 3) := ⟨_, rfl⟩
  rw [← hw0]
  have x0 : w0.heap[w.heap.size]? = some (.cells #[.int .i64 0, .int .i64 0, .int .i64 0, .int .i64 0] 30 (0, 0)) := by rw [hw0]; exact boxed2_0 _ _ _
  have hfr0 : Fr w p w0 := by rw [hw0]; exact ((Fr.start hcur).alloc _).alloc _
  have s0 : w.heap.size < w0.heap.size := by rw [hw0]; simp; omega
  clear hw0
  refine (l1Below_any 12 11 w0 p hfr0.cur (by omega) (by omega) (by omega)).mono ?_
  rintro e w1 ⟨x, hx0, hx1, rfl, hc1, hg1⟩
  have x1 := box_call x0 hg1 (by omega)
  have hfr1 := hfr0.call hc1 hg1
  have s1 : w.heap.size < w1.heap.size := by have := hg1.size; omega
  have X1 := Lib.hid x1
  clear x0 x1 hc1 hg1 hfr0
  go_wp2_with fail
  refine (l1Once_any 2 w1 p hfr1.cur (by omega) (by omega)).mono ?_
  rintro e w2 ⟨b, rfl, hc2, hg2⟩
  have x2 := box_call X1.out hg2 (by omega)
  have hfr2 := hfr1.call hc2 hg2
  have s2 : w.heap.size < w2.heap.size := by have := hg2.size; omega
  have X2 := Lib.hid x2
  clear X1 x2 hc2 hg2 hfr1
  cases b
  · by_cases hA : 4 < ar (1 + x)
    · go_wp2_with (go_at_call 33; refine (Arity_spec _ _).mono ?_; rintro e w' ⟨rfl, rfl⟩)
      refine (l9On_any (4) 4 w2 p hfr2.cur (by omega) (by omega) (show ar 4 ≤ 4 by decide)).mono ?_
      rintro e w3 ⟨k, a, b, c, rfl, hc, hg⟩
      have x3 := box_call X2.out hg (by omega)
      have hfr3 := hfr2.call hc hg
      have s3 : w.heap.size < w3.heap.size := by have := hg.size; omega
      obtain ⟨q0, q1, q2, q3⟩ := boxcells4 (lay := Below.refl _ _) x3
      have f0 := free_at (j := 0) x3
      have f1 := free_at (j := 1) x3
      have f2 := free_at (j := 2) x3
      have f3 := free_at (j := 3) x3
      clear X2 x3 hc hg hfr2
      go_wp2_with fail
      exact bodyPost_ret (v := .agg #[.int .i64 k, .int .i64 a, .int .i64 b, .int .i64 c]) (by simp [results, Try.results43, go_sem, q0, q1, q2, q3]) rfl ⟨_, _, _, _, rfl, (Fr.cur (w := w) (by repeat (first | assumption | (with_reducible refine Fr.alloc ?_ _) | (with_reducible refine Fr.set ?_ hp (by first | omega | (simp; done) | (simp; omega)) _)))), (Fr.gr (by repeat (first | assumption | (with_reducible refine Fr.alloc ?_ _) | (with_reducible refine Fr.set ?_ hp (by first | omega | (simp; done) | (simp; omega)) _))))⟩
    · go_wp2_with (go_at_call 33; refine (Arity_spec _ _).mono ?_; rintro e w' ⟨rfl, rfl⟩)
      refine (l9On_any (1 + x) 4 w2 p hfr2.cur (by omega) (by omega) (by omega)).mono ?_
      rintro e w3 ⟨k, a, b, c, rfl, hc, hg⟩
      have x3 := box_call X2.out hg (by omega)
      have hfr3 := hfr2.call hc hg
      have s3 : w.heap.size < w3.heap.size := by have := hg.size; omega
      obtain ⟨q0, q1, q2, q3⟩ := boxcells4 (lay := Below.refl _ _) x3
      have f0 := free_at (j := 0) x3
      have f1 := free_at (j := 1) x3
      have f2 := free_at (j := 2) x3
      have f3 := free_at (j := 3) x3
      clear X2 x3 hc hg hfr2
      go_wp2_with fail
      exact bodyPost_ret (v := .agg #[.int .i64 k, .int .i64 a, .int .i64 b, .int .i64 c]) (by simp [results, Try.results43, go_sem, q0, q1, q2, q3]) rfl ⟨_, _, _, _, rfl, (Fr.cur (w := w) (by repeat (first | assumption | (with_reducible refine Fr.alloc ?_ _) | (with_reducible refine Fr.set ?_ hp (by first | omega | (simp; done) | (simp; omega)) _)))), (Fr.gr (by repeat (first | assumption | (with_reducible refine Fr.alloc ?_ _) | (with_reducible refine Fr.set ?_ hp (by first | omega | (simp; done) | (simp; omega)) _))))⟩
  · go_wp2_with fail
    obtain ⟨w3, hw3⟩ : ∃ w3, w3 = w2.alloc (.cells #[.int .i64 4, .int .i64 7, .int .i64 5, .int .i64 8, .int .i64 9, .int .i64 9, .int .i64 9, .int .i64 9] 3) := ⟨_, rfl⟩
    rw [← hw3]
    have x3 : w3.heap[w.heap.size]? = some (.cells #[.int .i64 0, .int .i64 0, .int .i64 0, .int .i64 0] 30 (0, 0)) := by rw [hw3]; exact (Below.heap_alloc _ _ _ s2).trans X2.out
    have hfr3 : Fr w p w3 := by rw [hw3]; exact hfr2.alloc _
    have hpk := picked (w := w2) (L := [4, 7, 5, 8, 9, 9, 9, 9]) rfl
    have hr3 : Rd w3 1 (some ⟨w2.heap.size, 0, none⟩) 8 (([4, 7, 5, 8, 9, 9, 9, 9] : List Int).map (Value.int .i64)) := by rw [hw3]; exact hpk
    have s3 : w.heap.size < w3.heap.size := by rw [hw3]; simp; omega
    clear hw3 hpk X2
    refine (l1PickInt_any w2.heap.size 8 8 [4, 7, 5, 8, 9, 9, 9, 9] w3 p hfr3.cur rfl (by omega) (by omega) hr3 (by omega)).mono ?_
    rintro e w4 ⟨y, hy, rfl, hc4, hg4⟩
    have x4 := box_call x3 hg4 (by omega)
    have hfr4 := hfr3.call hc4 hg4
    have s4 : w.heap.size < w4.heap.size := by have := hg4.size; omega
    have X4 := Lib.hid x4
    clear x3 x4 hc4 hg4 hfr3 hr3 hy
    by_cases hA : 4 < ar (y)
    · go_wp2_with (go_at_call 33; refine (Arity_spec _ _).mono ?_; rintro e w' ⟨rfl, rfl⟩)
      refine (l9On_any (4) 4 w4 p hfr4.cur (by omega) (by omega) (show ar 4 ≤ 4 by decide)).mono ?_
      rintro e w5 ⟨k, a, b, c, rfl, hc, hg⟩
      have x5 := box_call X4.out hg (by omega)
      have hfr5 := hfr4.call hc hg
      have s5 : w.heap.size < w5.heap.size := by have := hg.size; omega
      obtain ⟨q0, q1, q2, q3⟩ := boxcells4 (lay := Below.refl _ _) x5
      have f0 := free_at (j := 0) x5
      have f1 := free_at (j := 1) x5
      have f2 := free_at (j := 2) x5
      have f3 := free_at (j := 3) x5
      clear X4 x5 hc hg hfr4
      go_wp2_with fail
      exact bodyPost_ret (v := .agg #[.int .i64 k, .int .i64 a, .int .i64 b, .int .i64 c]) (by simp [results, Try.results43, go_sem, q0, q1, q2, q3]) rfl ⟨_, _, _, _, rfl, (Fr.cur (w := w) (by repeat (first | assumption | (with_reducible refine Fr.alloc ?_ _) | (with_reducible refine Fr.set ?_ hp (by first | omega | (simp; done) | (simp; omega)) _)))), (Fr.gr (by repeat (first | assumption | (with_reducible refine Fr.alloc ?_ _) | (with_reducible refine Fr.set ?_ hp (by first | omega | (simp; done) | (simp; omega)) _))))⟩
    · go_wp2_with (go_at_call 33; refine (Arity_spec _ _).mono ?_; rintro e w' ⟨rfl, rfl⟩)
      refine (l9On_any (y) 4 w4 p hfr4.cur (by omega) (by omega) (by omega)).mono ?_
      rintro e w5 ⟨k, a, b, c, rfl, hc, hg⟩
      have x5 := box_call X4.out hg (by omega)
      have hfr5 := hfr4.call hc hg
      have s5 : w.heap.size < w5.heap.size := by have := hg.size; omega
      obtain ⟨q0, q1, q2, q3⟩ := boxcells4 (lay := Below.refl _ _) x5
      have f0 := free_at (j := 0) x5
      have f1 := free_at (j := 1) x5
      have f2 := free_at (j := 2) x5
      have f3 := free_at (j := 3) x5
      clear X4 x5 hc hg hfr4
      go_wp2_with fail
      exact bodyPost_ret (v := .agg #[.int .i64 k, .int .i64 a, .int .i64 b, .int .i64 c]) (by simp [results, Try.results43, go_sem, q0, q1, q2, q3]) rfl ⟨_, _, _, _, rfl, (Fr.cur (w := w) (by repeat (first | assumption | (with_reducible refine Fr.alloc ?_ _) | (with_reducible refine Fr.set ?_ hp (by first | omega | (simp; done) | (simp; omega)) _)))), (Fr.gr (by repeat (first | assumption | (with_reducible refine Fr.alloc ?_ _) | (with_reducible refine Fr.set ?_ hp (by first | omega | (simp; done) | (simp; omega)) _))))⟩

theorem l9Gate_any (n : Nat) (w : World) (p : Nat) (hcur : CurAt w p) (h1 : 1 ≤ n) (h4 : n ≤ 4) : Calls Try.prog 43 #[.pointer (some ⟨p, 0, none⟩), .int .i64 n] w (DG w p) := by
  have hn : n = 1 ∨ n = 2 ∨ n = 3 ∨ n = 4 := by omega
  rcases hn with rfl | rfl | rfl | rfl
  · exact l9Gate_1 w p hcur
  · exact l9Gate_2 w p hcur
  · exact l9Gate_3 w p hcur
  · exact l9Gate_4 w p hcur
set_option maxRecDepth 100000 in
set_option maxHeartbeats 4000000 in
theorem l9Bent_any (n : Nat) (w : World) (p : Nat) (hcur : CurAt w p) (h1 : 1 ≤ n) (h4 : n ≤ 4) : Calls Try.prog 26 #[.pointer (some ⟨p, 0, none⟩), .int .i64 n] w (DG w p) := by
  have hp := hcur.lt
  go_enter Try.func26, Try.ntmps26
  go_wp2_with fail
  obtain ⟨w0, hw0⟩ : ∃ w0, w0 = w.alloc (.cells #[.int .i64 0, .int .i64 0, .int .i64 0, .int .i64 0] 30) := ⟨_, rfl⟩
  rw [← hw0]
  have x0 : w0.heap[w.heap.size]? = some (.cells #[.int .i64 0, .int .i64 0, .int .i64 0, .int .i64 0] 30 (0, 0)) := by rw [hw0]; exact boxed1_0 _ _
  have hfr0 : Fr w p w0 := by rw [hw0]; exact (Fr.start hcur).alloc _
  have s0 : w.heap.size < w0.heap.size := by rw [hw0]; simp
  clear hw0
  refine (l9Gate_any n w0 p hfr0.cur h1 h4).mono ?_
  rintro e w1 ⟨gk, ga, gb, gc, rfl, hc1, hg1⟩
  have x1 := box_call x0 hg1 (by omega)
  have hfr1 := hfr0.call hc1 hg1
  have s1 : w.heap.size < w1.heap.size := by have := hg1.size; omega
  have X1 := Lib.hid x1
  clear x0 x1 hc1 hg1 hfr0
  go_wp2_with fail
  obtain ⟨w2, hw2⟩ : ∃ w2, w2 = w1.alloc (.cells #[.int .i64 gk, .int .i64 ga, .int .i64 gb, .int .i64 gc] 30) := ⟨_, rfl⟩
  rw [← hw2]
  have x2 : w2.heap[w.heap.size]? = some (.cells #[.int .i64 0, .int .i64 0, .int .i64 0, .int .i64 0] 30 (0, 0)) := by rw [hw2]; exact (Below.heap_alloc _ _ _ s1).trans X1.out
  have y2 : w2.heap[w1.heap.size]? = some (.cells #[.int .i64 gk, .int .i64 ga, .int .i64 gb, .int .i64 gc] 30 (0, 0)) := by rw [hw2]; exact boxed1_0 _ _
  have hfr2 : Fr w p w2 := by rw [hw2]; exact hfr1.alloc _
  have s2 : w1.heap.size < w2.heap.size := by rw [hw2]; simp
  clear hw2 X1 hfr1
  refine (l1Below_any 10 9 w2 p hfr2.cur (by omega) (by omega) (by omega)).mono ?_
  rintro e w3 ⟨x, hx0, hx1, rfl, hc3, hg3⟩
  have x3 := box_call x2 hg3 (by omega)
  have y3 := box_call y2 hg3 (by omega)
  have hfr3 := hfr2.call hc3 hg3
  have s3 : w1.heap.size < w3.heap.size := by have := hg3.size; omega
  clear x2 y2 hc3 hg3 hfr2 s2
  by_cases e0 : x = 0
  · subst e0
    have X3 := Lib.hid x3
    have Y3 := Lib.hid y3
    clear x3 y3
    go_wp2_with fail
    refine (l1Below_any 15 14 w3 p hfr3.cur (by omega) (by omega) (by omega)).mono ?_
    rintro e w4 ⟨z, hz0, hz1, rfl, hc4, hg4⟩
    have x4 := box_call X3.out hg4 (by omega)
    have y4 := box_call Y3.out hg4 (by omega)
    have hfr4 := hfr3.call hc4 hg4
    have s4 : w1.heap.size < w4.heap.size := by have := hg4.size; omega
    obtain ⟨q0, q1, q2, q3⟩ := boxcells4 (lay := Below.refl _ _) x4
    obtain ⟨r0, r1, r2, r3⟩ := boxcells4 (lay := Below.refl _ _) y4
    have f0 := free_at (j := 0) x4
    have f1 := free_at (j := 1) x4
    have f2 := free_at (j := 2) x4
    have f3 := free_at (j := 3) x4
    have g0 := free_at (j := 0) y4
    have g1 := free_at (j := 1) y4
    have g2 := free_at (j := 2) y4
    have g3 := free_at (j := 3) y4
    clear X3 Y3 x4 y4 hc4 hg4 hfr3
    go_wp2_with fail
    exact bodyPost_ret (v := .agg #[.int .i64 (z - 1), .int .i64 ga, .int .i64 gb, .int .i64 gc]) (by simp [results, Try.results26, go_sem, q0, q1, q2, q3]) rfl ⟨_, _, _, _, rfl, (Fr.cur (w := w) (by repeat (first | assumption | (with_reducible refine Fr.alloc ?_ _) | (with_reducible refine Fr.set ?_ hp (by first | omega | (simp; done) | (simp; omega)) _)))), (Fr.gr (by repeat (first | assumption | (with_reducible refine Fr.alloc ?_ _) | (with_reducible refine Fr.set ?_ hp (by first | omega | (simp; done) | (simp; omega)) _))))⟩
  by_cases e1 : x = 1
  · subst e1
    obtain ⟨r0, r1, r2, r3⟩ := boxcells4 (lay := Below.refl _ _) y3
    have X3 := Lib.hid x3
    have Y3 := Lib.hid y3
    clear x3 y3
    go_wp2_with fail
    obtain ⟨w4, hw4⟩ : ∃ w4, w4 = w3.alloc (.cells #[.int .i64 0, .int .i64 n, .int .i64 (-1), .int .i64 gb] 3) := ⟨_, rfl⟩
    rw [← hw4]
    have x4 : w4.heap[w.heap.size]? = some (.cells #[.int .i64 0, .int .i64 0, .int .i64 0, .int .i64 0] 30 (0, 0)) := by rw [hw4]; exact (Below.heap_alloc _ _ _ (by omega)).trans X3.out
    have y4 : w4.heap[w1.heap.size]? = some (.cells #[.int .i64 gk, .int .i64 ga, .int .i64 gb, .int .i64 gc] 30 (0, 0)) := by rw [hw4]; exact (Below.heap_alloc _ _ _ s3).trans Y3.out
    have hfr4 : Fr w p w4 := by rw [hw4]; exact hfr3.alloc _
    have hpk := picked (w := w3) (L := [0, (n : Int), -1, gb]) rfl
    have hr4 : Rd w4 1 (some ⟨w3.heap.size, 0, none⟩) 4 (([0, (n : Int), -1, gb] : List Int).map (Value.int .i64)) := by rw [hw4]; exact hpk
    have s4 : w3.heap.size < w4.heap.size := by rw [hw4]; simp
    clear hw4 hpk X3 Y3 r0 r1 r2 r3 hfr3
    refine (l1PickInt_any w3.heap.size 4 4 [0, (n : Int), -1, gb] w4 p hfr4.cur rfl (by omega) (by omega) hr4 (by omega)).mono ?_
    rintro e w5 ⟨z, hz, rfl, hc5, hg5⟩
    have x5 := box_call x4 hg5 (by omega)
    have y5 := box_call y4 hg5 (by omega)
    have hfr5 := hfr4.call hc5 hg5
    have s5 : w1.heap.size < w5.heap.size := by have := hg5.size; omega
    obtain ⟨q0, q1, q2, q3⟩ := boxcells4 (lay := Below.refl _ _) x5
    obtain ⟨r0, r1, r2, r3⟩ := boxcells4 (lay := Below.refl _ _) y5
    have f0 := free_at (j := 0) x5
    have f1 := free_at (j := 1) x5
    have f2 := free_at (j := 2) x5
    have f3 := free_at (j := 3) x5
    have g0 := free_at (j := 0) y5
    have g1 := free_at (j := 1) y5
    have g2 := free_at (j := 2) y5
    have g3 := free_at (j := 3) y5
    clear x4 y4 x5 y5 hc5 hg5 hfr4 hz hr4
    go_wp2_with fail
    exact bodyPost_ret (v := .agg #[.int .i64 gk, .int .i64 z, .int .i64 gb, .int .i64 gc]) (by simp [results, Try.results26, go_sem, q0, q1, q2, q3]) rfl ⟨_, _, _, _, rfl, (Fr.cur (w := w) (by repeat (first | assumption | (with_reducible refine Fr.alloc ?_ _) | (with_reducible refine Fr.set ?_ hp (by first | omega | (simp; done) | (simp; omega)) _)))), (Fr.gr (by repeat (first | assumption | (with_reducible refine Fr.alloc ?_ _) | (with_reducible refine Fr.set ?_ hp (by first | omega | (simp; done) | (simp; omega)) _))))⟩
  by_cases e2 : x = 2
  · subst e2
    obtain ⟨r0, r1, r2, r3⟩ := boxcells4 (lay := Below.refl _ _) y3
    have X3 := Lib.hid x3
    have Y3 := Lib.hid y3
    clear x3 y3
    go_wp2_with fail
    obtain ⟨w4, hw4⟩ : ∃ w4, w4 = w3.alloc (.cells #[.int .i64 0, .int .i64 n, .int .i64 (-1), .int .i64 ga] 3) := ⟨_, rfl⟩
    rw [← hw4]
    have x4 : w4.heap[w.heap.size]? = some (.cells #[.int .i64 0, .int .i64 0, .int .i64 0, .int .i64 0] 30 (0, 0)) := by rw [hw4]; exact (Below.heap_alloc _ _ _ (by omega)).trans X3.out
    have y4 : w4.heap[w1.heap.size]? = some (.cells #[.int .i64 gk, .int .i64 ga, .int .i64 gb, .int .i64 gc] 30 (0, 0)) := by rw [hw4]; exact (Below.heap_alloc _ _ _ s3).trans Y3.out
    have hfr4 : Fr w p w4 := by rw [hw4]; exact hfr3.alloc _
    have hpk := picked (w := w3) (L := [0, (n : Int), -1, ga]) rfl
    have hr4 : Rd w4 1 (some ⟨w3.heap.size, 0, none⟩) 4 (([0, (n : Int), -1, ga] : List Int).map (Value.int .i64)) := by rw [hw4]; exact hpk
    have s4 : w3.heap.size < w4.heap.size := by rw [hw4]; simp
    clear hw4 hpk X3 Y3 r0 r1 r2 r3 hfr3
    refine (l1PickInt_any w3.heap.size 4 4 [0, (n : Int), -1, ga] w4 p hfr4.cur rfl (by omega) (by omega) hr4 (by omega)).mono ?_
    rintro e w5 ⟨z, hz, rfl, hc5, hg5⟩
    have x5 := box_call x4 hg5 (by omega)
    have y5 := box_call y4 hg5 (by omega)
    have hfr5 := hfr4.call hc5 hg5
    have s5 : w1.heap.size < w5.heap.size := by have := hg5.size; omega
    obtain ⟨q0, q1, q2, q3⟩ := boxcells4 (lay := Below.refl _ _) x5
    obtain ⟨r0, r1, r2, r3⟩ := boxcells4 (lay := Below.refl _ _) y5
    have f0 := free_at (j := 0) x5
    have f1 := free_at (j := 1) x5
    have f2 := free_at (j := 2) x5
    have f3 := free_at (j := 3) x5
    have g0 := free_at (j := 0) y5
    have g1 := free_at (j := 1) y5
    have g2 := free_at (j := 2) y5
    have g3 := free_at (j := 3) y5
    clear x4 y4 x5 y5 hc5 hg5 hfr4 hz hr4
    go_wp2_with fail
    exact bodyPost_ret (v := .agg #[.int .i64 gk, .int .i64 ga, .int .i64 z, .int .i64 gc]) (by simp [results, Try.results26, go_sem, q0, q1, q2, q3]) rfl ⟨_, _, _, _, rfl, (Fr.cur (w := w) (by repeat (first | assumption | (with_reducible refine Fr.alloc ?_ _) | (with_reducible refine Fr.set ?_ hp (by first | omega | (simp; done) | (simp; omega)) _)))), (Fr.gr (by repeat (first | assumption | (with_reducible refine Fr.alloc ?_ _) | (with_reducible refine Fr.set ?_ hp (by first | omega | (simp; done) | (simp; omega)) _))))⟩
  by_cases e3 : x = 3
  · subst e3
    obtain ⟨r0, r1, r2, r3⟩ := boxcells4 (lay := Below.refl _ _) y3
    have X3 := Lib.hid x3
    have Y3 := Lib.hid y3
    clear x3 y3
    go_wp2_with fail
    obtain ⟨w4, hw4⟩ : ∃ w4, w4 = w3.alloc (.cells #[.int .i64 0, .int .i64 1, .int .i64 n, .int .i64 (-1)] 3) := ⟨_, rfl⟩
    rw [← hw4]
    have x4 : w4.heap[w.heap.size]? = some (.cells #[.int .i64 0, .int .i64 0, .int .i64 0, .int .i64 0] 30 (0, 0)) := by rw [hw4]; exact (Below.heap_alloc _ _ _ (by omega)).trans X3.out
    have y4 : w4.heap[w1.heap.size]? = some (.cells #[.int .i64 gk, .int .i64 ga, .int .i64 gb, .int .i64 gc] 30 (0, 0)) := by rw [hw4]; exact (Below.heap_alloc _ _ _ s3).trans Y3.out
    have hfr4 : Fr w p w4 := by rw [hw4]; exact hfr3.alloc _
    have hpk := picked (w := w3) (L := [0, 1, (n : Int), -1]) rfl
    have hr4 : Rd w4 1 (some ⟨w3.heap.size, 0, none⟩) 4 (([0, 1, (n : Int), -1] : List Int).map (Value.int .i64)) := by rw [hw4]; exact hpk
    have s4 : w3.heap.size < w4.heap.size := by rw [hw4]; simp
    clear hw4 hpk X3 Y3 r0 r1 r2 r3 hfr3
    refine (l1PickInt_any w3.heap.size 4 4 [0, 1, (n : Int), -1] w4 p hfr4.cur rfl (by omega) (by omega) hr4 (by omega)).mono ?_
    rintro e w5 ⟨z, hz, rfl, hc5, hg5⟩
    have x5 := box_call x4 hg5 (by omega)
    have y5 := box_call y4 hg5 (by omega)
    have hfr5 := hfr4.call hc5 hg5
    have s5 : w1.heap.size < w5.heap.size := by have := hg5.size; omega
    obtain ⟨q0, q1, q2, q3⟩ := boxcells4 (lay := Below.refl _ _) x5
    obtain ⟨r0, r1, r2, r3⟩ := boxcells4 (lay := Below.refl _ _) y5
    have f0 := free_at (j := 0) x5
    have f1 := free_at (j := 1) x5
    have f2 := free_at (j := 2) x5
    have f3 := free_at (j := 3) x5
    have g0 := free_at (j := 0) y5
    have g1 := free_at (j := 1) y5
    have g2 := free_at (j := 2) y5
    have g3 := free_at (j := 3) y5
    clear x4 y4 x5 y5 hc5 hg5 hfr4 hz hr4
    go_wp2_with fail
    exact bodyPost_ret (v := .agg #[.int .i64 gk, .int .i64 ga, .int .i64 gb, .int .i64 z]) (by simp [results, Try.results26, go_sem, q0, q1, q2, q3]) rfl ⟨_, _, _, _, rfl, (Fr.cur (w := w) (by repeat (first | assumption | (with_reducible refine Fr.alloc ?_ _) | (with_reducible refine Fr.set ?_ hp (by first | omega | (simp; done) | (simp; omega)) _)))), (Fr.gr (by repeat (first | assumption | (with_reducible refine Fr.alloc ?_ _) | (with_reducible refine Fr.set ?_ hp (by first | omega | (simp; done) | (simp; omega)) _))))⟩
  have n0 : (x == 0) = false := beq_eq_false_iff_ne.2 e0
  have n1 : (x == 1) = false := beq_eq_false_iff_ne.2 e1
  have n2 : (x == 2) = false := beq_eq_false_iff_ne.2 e2
  have n3 : (x == 3) = false := beq_eq_false_iff_ne.2 e3
  obtain ⟨q0, q1, q2, q3⟩ := boxcells4 (lay := Below.refl _ _) x3
  obtain ⟨r0, r1, r2, r3⟩ := boxcells4 (lay := Below.refl _ _) y3
  have f0 := free_at (j := 0) x3
  have f1 := free_at (j := 1) x3
  have f2 := free_at (j := 2) x3
  have f3 := free_at (j := 3) x3
  have g0 := free_at (j := 0) y3
  have g1 := free_at (j := 1) y3
  have g2 := free_at (j := 2) y3
  have g3 := free_at (j := 3) y3
  clear x3 y3 e0 e1 e2 e3
  go_wp2_with fail
  exact bodyPost_ret (v := .agg #[.int .i64 gk, .int .i64 ga, .int .i64 gb, .int .i64 gc]) (by simp [results, Try.results26, go_sem, q0, q1, q2, q3]) rfl ⟨_, _, _, _, rfl, (Fr.cur (w := w) (by repeat (first | assumption | (with_reducible refine Fr.alloc ?_ _) | (with_reducible refine Fr.set ?_ hp (by first | omega | (simp; done) | (simp; omega)) _)))), (Fr.gr (by repeat (first | assumption | (with_reducible refine Fr.alloc ?_ _) | (with_reducible refine Fr.set ?_ hp (by first | omega | (simp; done) | (simp; omega)) _))))⟩


end Go.Proofs.Ytgjpicekdbemiaa
