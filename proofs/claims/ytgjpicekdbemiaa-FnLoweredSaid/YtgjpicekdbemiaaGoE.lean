/- The negative of an amplitude; the Hadamard gate on an index. -/
import Derived.Test.YtgjpicekdbemiaaGoC
namespace Go.Proofs.Ytgjpicekdbemiaa
open Go.RowKit
set_option linter.unusedVariables false
theorem below_undrewE {B : Nat} {w w' : World} (h : Below B w.drew w') : Below B w w' := ⟨h.os, h.tape, h.output, h.size, h.block⟩
theorem cell_as {w w' : World} {b j : Nat} (h : w.heap[b]? = w'.heap[b]?) : w.cell? ⟨b, j, none⟩ = w'.cell? ⟨b, j, none⟩ := by simp [World.cell?, h]
set_option maxRecDepth 100000 in
set_option maxHeartbeats 4000000 in
theorem NegDOmega_1 (w : World) : Calls Try.prog 56 #[.agg #[.int .i64 1, .int .i64 0, .int .i64 0, .int .i64 0, .int .i64 1]] w (Ret (.agg #[.int .i64 (-1), .int .i64 0, .int .i64 0, .int .i64 0, .int .i64 1]) w) := by
  have hd : dOk ⟨1, 0, 0, 0, 1⟩ = true := by decide
  go_enter Try.func56, Try.ntmps56
  go_wp2_with fail
  obtain ⟨w0, hw0⟩ : ∃ w0, w0 = (w.alloc (.cells #[.int .i64 1, .int .i64 0, .int .i64 0, .int .i64 0, .int .i64 1] 67)).alloc (.cells #[.int .i64 0, .int .i64 0, .int .i64 0, .int .i64 0, .int .i64 0] 67) := ⟨_, rfl⟩
  rw [← hw0]
  have x0 : w0.heap[w.heap.size]? = some (.cells #[.int .i64 1, .int .i64 0, .int .i64 0, .int .i64 0, .int .i64 1] 67 (0, 0)) := by rw [hw0]; exact boxed2_0 _ _ _
  have x1 : w0.heap[w.heap.size + 1]? = some (.cells #[.int .i64 0, .int .i64 0, .int .i64 0, .int .i64 0, .int .i64 0] 67 (0, 0)) := by rw [hw0]; exact boxed2_1 _ _ _
  have b0 : Below w.heap.size w w0 := by rw [hw0]; exact (by repeat (first | exact Below.refl _ _ | assumption | (refine Below.trans ?_ (Below.mono (by assumption) (by first | omega | (simp; done) | (simp; omega)))) | (with_reducible refine Below.drew ?_) | (with_reducible refine Below.alloc ?_ (by first | omega | (simp; done) | (simp; omega)) _) | (with_reducible refine Below.setCell ?_ (by first | omega | (simp; done) | (simp; omega)) _)))
  have s0 : w.heap.size + 2 = w0.heap.size := by rw [hw0]; simp
  clear hw0
  refine (IsValidDOmega_any _ _ _ _ _ _).mono ?_
  rw [hd]
  rintro e w1 ⟨rfl, hb1, hs1⟩
  have y0 := (hb1.block _ (by omega)).trans x0
  have y1 := (hb1.block _ (by omega)).trans x1
  have b1 : Below w.heap.size w w1 := (by repeat (first | exact Below.refl _ _ | assumption | (refine Below.trans ?_ (Below.mono (by assumption) (by first | omega | (simp; done) | (simp; omega)))) | (with_reducible refine Below.drew ?_) | (with_reducible refine Below.alloc ?_ (by first | omega | (simp; done) | (simp; omega)) _) | (with_reducible refine Below.setCell ?_ (by first | omega | (simp; done) | (simp; omega)) _)))
  have l0 : w.heap.size < w1.heap.size := by omega
  have l1 : w.heap.size + 1 < w1.heap.size := by omega
  have S1 := Lib.hid (show w.heap.size + 2 ≤ w1.heap.size by omega)
  clear x0 x1 b0 s0 hb1 hs1
  have p0 := cell_at (j := 0) y0 rfl
  have p1 := cell_at (j := 1) y0 rfl
  have p2 := cell_at (j := 2) y0 rfl
  have p3 := cell_at (j := 3) y0 rfl
  have p4 := cell_at (j := 4) y0 rfl
  have Y1 := Lib.hid y1
  clear y0 y1
  go_wp2_with fail
  have KS : Hid (∀ W : World, W.heap[w.heap.size]? = w1.heap[w.heap.size]? → (W.cell? ⟨w.heap.size, 0, none⟩ = some (.int .i64 1) ∧ W.cell? ⟨w.heap.size, 1, none⟩ = some (.int .i64 0) ∧ W.cell? ⟨w.heap.size, 2, none⟩ = some (.int .i64 0) ∧ W.cell? ⟨w.heap.size, 3, none⟩ = some (.int .i64 0) ∧ W.cell? ⟨w.heap.size, 4, none⟩ = some (.int .i64 1))) := fun W hW => ⟨(cell_as hW).trans p0, (cell_as hW).trans p1, (cell_as hW).trans p2, (cell_as hW).trans p3, (cell_as hW).trans p4⟩
  go_region_held3 (fun W => W.cell? ⟨w.heap.size, 0, none⟩ = some (.int .i64 1) ∧ W.cell? ⟨w.heap.size, 1, none⟩ = some (.int .i64 0) ∧ W.cell? ⟨w.heap.size, 2, none⟩ = some (.int .i64 0) ∧ W.cell? ⟨w.heap.size, 3, none⟩ = some (.int .i64 0) ∧ W.cell? ⟨w.heap.size, 4, none⟩ = some (.int .i64 1))
    ((refine KS.out _ ?_; first | (with_reducible exact hb1.block _ l0) | ((with_reducible refine (Below.heap_setCell _ _ _ _ (by simp)).trans ((Below.heap_setCell _ _ _ _ (by simp)).trans ((Below.heap_setCell _ _ _ _ (by simp)).trans ((Below.heap_setCell _ _ _ _ (by simp)).trans ((Below.heap_setCell _ _ _ _ (by simp)).trans ?_))))); exact hb1.block _ l0) | rfl))
    (first | (go_at_call 63; (with_reducible refine (NegZOmega_1 _).mono ?_); rintro e w2 ⟨rfl, hb0, hs1⟩; have hb1 : Below w1.heap.size w1 w2 := below_undrewE hb0; have hs2 : w1.heap.size ≤ w2.heap.size := hs1; clear hs1 hb0; have z1 := (hb1.block _ l1).trans Y1.out; have f0 := free_b (j := 0) z1; have f1 := free_b (j := 1) z1; have f2 := free_b (j := 2) z1; have f3 := free_b (j := 3) z1; have f4 := free_b (j := 4) z1; have k0 := cell_at (j := 0) z1 rfl; have k1 := cell_at (j := 1) z1 rfl; have k2 := cell_at (j := 2) z1 rfl; have k3 := cell_at (j := 3) z1 rfl; have k4 := cell_at (j := 4) z1 rfl))
  all_goals go_wp2_with fail
  all_goals exact bodyPost_ret (v := .agg #[.int .i64 (-1), .int .i64 0, .int .i64 0, .int .i64 0, .int .i64 1]) (by simp [results, Try.results56, go_sem, k0, k1, k2, k3, k4]) rfl ⟨rfl, (by repeat (first | exact Below.refl _ _ | assumption | (refine Below.trans ?_ (Below.mono (by assumption) (by first | omega | (simp; done) | (simp; omega)))) | (with_reducible refine Below.drew ?_) | (with_reducible refine Below.alloc ?_ (by first | omega | (simp; done) | (simp; omega)) _) | (with_reducible refine Below.setCell ?_ (by first | omega | (simp; done) | (simp; omega)) _))), (by first | omega | (simp; done) | (simp; omega))⟩
set_option maxRecDepth 100000 in
set_option maxHeartbeats 4000000 in
theorem l10Goes_4 (a b c i : Nat) (w : World) (ha : a < 4) (hb : b < 4) (hc : c < 4) (hi : i < 16) : Calls Try.prog 47 #[.agg #[.int .i64 4, .int .i64 a, .int .i64 b, .int .i64 c], .int .i64 i] w (RetRow 81 6 w 2 ((goes ⟨4, a, b, c⟩ i).flatMap scells)) := by
  have e : (goes ⟨4, a, b, c⟩ i).flatMap scells = [.int .i64 (bits BinOp.andNot IntKind.i64 i (wrap64 (2 ^ a))), .int .i64 1, .int .i64 0, .int .i64 0, .int .i64 0, .int .i64 1, .int .i64 (bits BinOp.or IntKind.i64 (bits BinOp.andNot IntKind.i64 i (wrap64 (2 ^ a))) (wrap64 (2 ^ a))), .int .i64 (if bti i a = true then -1 else 1), .int .i64 0, .int .i64 0, .int .i64 0, .int .i64 1] := by
    rw [bti_nat hi ha, (fl_facts hi ha).2.1, (fl_facts hi ha).2.2]
    cases h : bt i a
    · simp [goes, scells, h, zph]
    · simp [goes, scells, h, zph]
  obtain ⟨X, hX⟩ : ∃ X : List Value, X = [.int .i64 (bits BinOp.andNot IntKind.i64 i (wrap64 (2 ^ a))), .int .i64 1, .int .i64 0, .int .i64 0, .int .i64 0, .int .i64 1, .int .i64 (bits BinOp.or IntKind.i64 (bits BinOp.andNot IntKind.i64 i (wrap64 (2 ^ a))) (wrap64 (2 ^ a))), .int .i64 (if bti i a = true then -1 else 1), .int .i64 0, .int .i64 0, .int .i64 0, .int .i64 1] := ⟨_, rfl⟩
  rw [e, ← hX]
  have HX := Lib.hid hX
  clear hX e
  cases hA : bti i a
  · have hA' : (bits BinOp.and IntKind.i64 ((i : Int) / 2 ^ a) 1 == 1) = false := hA
    rw [hA] at HX
    clear hA
    go_enter Try.func47, Try.ntmps47
    go_wp2_with fail
    obtain ⟨w0, hw0⟩ : ∃ w0, w0 = w.alloc (.cells #[.int .i64 4, .int .i64 a, .int .i64 b, .int .i64 c] 30) := ⟨_, rfl⟩
    rw [← hw0]
    have x0 : w0.heap[w.heap.size]? = some (.cells #[.int .i64 4, .int .i64 a, .int .i64 b, .int .i64 c] 30 (0, 0)) := by rw [hw0]; exact boxed1_0 _ _
    have b0 : Below w.heap.size w w0 := by rw [hw0]; exact (by repeat (first | exact Below.refl _ _ | assumption | (refine Below.trans ?_ (Below.mono (by assumption) (by first | omega | (simp; done) | (simp; omega)))) | (with_reducible refine Below.drew ?_) | (with_reducible refine Below.alloc ?_ (by first | omega | (simp; done) | (simp; omega)) _) | (with_reducible refine Below.setCell ?_ (by first | omega | (simp; done) | (simp; omega)) _)))
    have s0 : w.heap.size < w0.heap.size := by rw [hw0]; simp
    clear hw0
    refine (InvSqrt2Power_1 _).mono ?_
    rintro e w1 ⟨rfl, hb1, hs1⟩
    have y0 := (hb1.block _ s0).trans x0
    have b1 := b0.trans (hb1.mono b0.size)
    have l1 : w.heap.size < w1.heap.size := by omega
    have k1 := cell_at (j := 1) y0 rfl
    have Y0 := Lib.hid y0
    clear x0 b0 s0 hb1 hs1 y0
    go_wp2_with fail
    go_ret
    refine retRow_lit ?_ ?_ ?_ ?_ ?_ ?_
    · have := b1.size; simp; omega
    · exact (by repeat (first | exact Below.refl _ _ | assumption | (refine Below.trans ?_ (Below.mono (by assumption) (by first | omega | (simp; done) | (simp; omega)))) | (with_reducible refine Below.drew ?_) | (with_reducible refine Below.alloc ?_ (by first | omega | (simp; done) | (simp; omega)) _) | (with_reducible refine Below.setCell ?_ (by first | omega | (simp; done) | (simp; omega)) _)))
    · rfl
    · decide
    · rw [HX.out]; rfl
    · first | rfl | simp
  · have hA' : (bits BinOp.and IntKind.i64 ((i : Int) / 2 ^ a) 1 == 1) = true := hA
    rw [hA] at HX
    clear hA
    go_enter Try.func47, Try.ntmps47
    go_wp2_with fail
    obtain ⟨w0, hw0⟩ : ∃ w0, w0 = w.alloc (.cells #[.int .i64 4, .int .i64 a, .int .i64 b, .int .i64 c] 30) := ⟨_, rfl⟩
    rw [← hw0]
    have x0 : w0.heap[w.heap.size]? = some (.cells #[.int .i64 4, .int .i64 a, .int .i64 b, .int .i64 c] 30 (0, 0)) := by rw [hw0]; exact boxed1_0 _ _
    have b0 : Below w.heap.size w w0 := by rw [hw0]; exact (by repeat (first | exact Below.refl _ _ | assumption | (refine Below.trans ?_ (Below.mono (by assumption) (by first | omega | (simp; done) | (simp; omega)))) | (with_reducible refine Below.drew ?_) | (with_reducible refine Below.alloc ?_ (by first | omega | (simp; done) | (simp; omega)) _) | (with_reducible refine Below.setCell ?_ (by first | omega | (simp; done) | (simp; omega)) _)))
    have s0 : w.heap.size < w0.heap.size := by rw [hw0]; simp
    clear hw0
    refine (InvSqrt2Power_1 _).mono ?_
    rintro e w1 ⟨rfl, hb1, hs1⟩
    have y0 := (hb1.block _ s0).trans x0
    have b1 := b0.trans (hb1.mono b0.size)
    have l1 : w.heap.size < w1.heap.size := by omega
    have k1 := cell_at (j := 1) y0 rfl
    have Y0 := Lib.hid y0
    clear x0 b0 s0 hb1 hs1 y0
    go_wp2_with fail
    obtain ⟨W, hW⟩ : ∃ W, W = (w1.alloc (.cells #[.int .i64 1, .int .i64 0, .int .i64 0, .int .i64 0, .int .i64 1] 67)).alloc (.cells #[.int .i64 1, .int .i64 0, .int .i64 0, .int .i64 0, .int .i64 1] 67) := ⟨_, rfl⟩
    rw [← hW]
    have z0 : W.heap[w1.heap.size]? = some (.cells #[.int .i64 1, .int .i64 0, .int .i64 0, .int .i64 0, .int .i64 1] 67 (0, 0)) := by rw [hW]; exact boxed2_0 _ _ _
    have z1 : W.heap[w1.heap.size + 1]? = some (.cells #[.int .i64 1, .int .i64 0, .int .i64 0, .int .i64 0, .int .i64 1] 67 (0, 0)) := by rw [hW]; exact boxed2_1 _ _ _
    have bW : Below w1.heap.size w1 W := by rw [hW]; exact (by repeat (first | exact Below.refl _ _ | assumption | (refine Below.trans ?_ (Below.mono (by assumption) (by first | omega | (simp; done) | (simp; omega)))) | (with_reducible refine Below.drew ?_) | (with_reducible refine Below.alloc ?_ (by first | omega | (simp; done) | (simp; omega)) _) | (with_reducible refine Below.setCell ?_ (by first | omega | (simp; done) | (simp; omega)) _)))
    have sW : w1.heap.size + 2 = W.heap.size := by rw [hW]; simp
    clear hW
    refine (NegDOmega_1 _).mono ?_
    rintro e w2 ⟨rfl, hb2, hs2⟩
    have u0 := (hb2.block _ (by omega)).trans ((bW.block _ l1).trans Y0.out)
    have u1 := (hb2.block _ (by omega)).trans z0
    have u2 := (hb2.block _ (by omega)).trans z1
    have b2 := b1.trans ((bW.trans (hb2.mono bW.size)).mono b1.size)
    have l2 : w.heap.size ≤ w2.heap.size := b2.size
    have hne : w.heap.size ≠ w1.heap.size + 1 := by omega
    have hle : w.heap.size ≤ w1.heap.size := by omega
    clear k1
    have k1 := cell_at (j := 1) u0 rfl
    have ku10 := cell_at (j := 0) u1 rfl
    have ku11 := cell_at (j := 1) u1 rfl
    have ku12 := cell_at (j := 2) u1 rfl
    have ku13 := cell_at (j := 3) u1 rfl
    have ku14 := cell_at (j := 4) u1 rfl
    have ku20 := cell_at (j := 0) u2 rfl
    have fu20 := free_b (j := 0) u2
    have ku21 := cell_at (j := 1) u2 rfl
    have fu21 := free_b (j := 1) u2
    have ku22 := cell_at (j := 2) u2 rfl
    have fu22 := free_b (j := 2) u2
    have ku23 := cell_at (j := 3) u2 rfl
    have fu23 := free_b (j := 3) u2
    have ku24 := cell_at (j := 4) u2 rfl
    have fu24 := free_b (j := 4) u2
    clear u0 u1 u2 z0 z1 bW sW hb2 hs2 b1 l1
    go_wp2_with fail
    go_ret
    refine retRow_lit ?_ ?_ ?_ ?_ ?_ ?_
    · have := b2.size; simp; omega
    · exact (by repeat (first | exact Below.refl _ _ | assumption | (refine Below.trans ?_ (Below.mono (by assumption) (by first | omega | (simp; done) | (simp; omega)))) | (with_reducible refine Below.drew ?_) | (with_reducible refine Below.alloc ?_ (by first | omega | (simp; done) | (simp; omega)) _) | (with_reducible refine Below.setCell ?_ (by first | omega | (simp; done) | (simp; omega)) _)))
    · rfl
    · decide
    · rw [HX.out]; rfl
    · first | rfl | simp
end Go.Proofs.Ytgjpicekdbemiaa
