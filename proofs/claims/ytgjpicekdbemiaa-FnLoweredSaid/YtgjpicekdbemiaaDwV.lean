/- The reference's products and sums in D[omega]. -/
import Derived.Test.YtgjpicekdbemiaaDwU
namespace Go.Proofs.Ytgjpicekdbemiaa
open Go.RowKit
set_option linter.unusedVariables false
/-- Two results as a pair: a number, and whether it is right. -/
theorem zres_form (r : Option Zw) : ∃ (z : Zw) (ok : Bool), zres r = .tuple #[.agg #[.int .i64 z.a, .int .i64 z.b, .int .i64 z.c, .int .i64 z.d], .bool ok] ∧ ((ok = true ∧ r = some z) ∨ (ok = false ∧ r = none ∧ z = zz)) := by
  cases r with
  | none => exact ⟨zz, false, rfl, .inr ⟨rfl, rfl, rfl⟩⟩
  | some z => exact ⟨z, true, rfl, .inl ⟨rfl, rfl⟩⟩
theorem dres_form (r : Option Dm) : ∃ (z : Dm) (ok : Bool), dres r = .tuple #[.agg #[.int .i64 z.a, .int .i64 z.b, .int .i64 z.c, .int .i64 z.d, .int .i64 z.e], .bool ok] ∧ ((ok = true ∧ r = some z) ∨ (ok = false ∧ r = none ∧ z = d0)) := by
  cases r with
  | none => exact ⟨d0, false, rfl, .inr ⟨rfl, rfl, rfl⟩⟩
  | some z => exact ⟨z, true, rfl, .inl ⟨rfl, rfl⟩⟩
theorem mulD_1 {x y : Dm} (h : dOk x = false) : mulD x y = none := by unfold mulD; rw [h, if_neg (by simp)]
theorem mulD_2 {x y : Dm} (h : dOk y = false) : mulD x y = none := by unfold mulD; rw [h, if_neg (by simp)]
theorem mulD_3 {x y : Dm} (h : zmul x.n y.n = none) : mulD x y = none := by unfold mulD; rw [h]; split <;> rfl
theorem mulD_4 {x y : Dm} {n : Zw} (hx : dOk x = true) (hy : dOk y = true) (h : zmul x.n y.n = some n) : mulD x y = newD n (x.e + y.e) := by unfold mulD; rw [h, hx, hy, if_pos (by simp)]
theorem dOk_e {x : Dm} (h : dOk x = true) : 0 ≤ x.e ∧ x.e ≤ 60 := by
  unfold dOk at h
  simp only [Bool.and_eq_true] at h
  exact inB_iff.1 h.2.1
theorem addD_1 {x y : Dm} (h : dOk x = false) : addD x y = none := by unfold addD; rw [h, if_neg (by simp)]
theorem addD_2 {x y : Dm} (h : dOk y = false) : addD x y = none := by unfold addD; rw [h, if_neg (by simp)]
theorem addD_3 {x y : Dm} (hx : dOk x = true) (hy : dOk y = true) (h : up (max x.e y.e - x.e).toNat x.n = none) : addD x y = none := by unfold addD; rw [h, hx, hy, if_pos (by simp)]
theorem addD_4 {x y : Dm} {a : Zw} (hx : dOk x = true) (hy : dOk y = true) (h : up (max x.e y.e - x.e).toNat x.n = some a) (h2 : up (max x.e y.e - y.e).toNat y.n = none) : addD x y = none := by unfold addD; rw [h, h2, hx, hy, if_pos (by simp)]
theorem addD_5 {x y : Dm} {a b : Zw} (hx : dOk x = true) (hy : dOk y = true) (h : up (max x.e y.e - x.e).toNat x.n = some a) (h2 : up (max x.e y.e - y.e).toNat y.n = some b) (h3 : zadd a b = none) : addD x y = none := by unfold addD; rw [h, h2, hx, hy, if_pos (by simp)]; simp only [h3]
theorem addD_6 {x y : Dm} {a b n : Zw} (hx : dOk x = true) (hy : dOk y = true) (h : up (max x.e y.e - x.e).toNat x.n = some a) (h2 : up (max x.e y.e - y.e).toNat y.n = some b) (h3 : zadd a b = some n) : addD x y = newD n (max x.e y.e) := by unfold addD; rw [h, h2, hx, hy, if_pos (by simp)]; simp only [h3]
set_option maxRecDepth 100000 in
set_option maxHeartbeats 8000000 in
theorem MulDOmega_any (a b c d e p q r s t : Int) (w : World) : Calls Try.prog 48 #[.agg #[.int .i64 a, .int .i64 b, .int .i64 c, .int .i64 d, .int .i64 e], .agg #[.int .i64 p, .int .i64 q, .int .i64 r, .int .i64 s, .int .i64 t]] w (Ret (dres (mulD ⟨a, b, c, d, e⟩ ⟨p, q, r, s, t⟩)) w) := by
  obtain ⟨z, ok, hz, hzr⟩ := zres_form (zmul ⟨a, b, c, d⟩ ⟨p, q, r, s⟩)
  have HZR := Lib.hid hzr
  clear hzr
  obtain ⟨R, hR⟩ : ∃ R, R = mulD ⟨a, b, c, d, e⟩ ⟨p, q, r, s, t⟩ := ⟨_, rfl⟩
  rw [← hR]
  have HR := Lib.hid hR
  clear hR
  go_enter Try.func48, Try.ntmps48
  go_wp2_with fail
  obtain ⟨w0, hw0⟩ : ∃ w0, w0 = ((w.alloc (.cells #[.int .i64 a, .int .i64 b, .int .i64 c, .int .i64 d, .int .i64 e] 67)).alloc (.cells #[.int .i64 p, .int .i64 q, .int .i64 r, .int .i64 s, .int .i64 t] 67)).alloc (.cells #[.int .i64 0, .int .i64 0, .int .i64 0, .int .i64 0, .int .i64 0] 67) := ⟨_, rfl⟩
  rw [← hw0]
  have x0 := Lib.hid (show w0.heap[w.heap.size]? = some (.cells #[.int .i64 a, .int .i64 b, .int .i64 c, .int .i64 d, .int .i64 e] 67 (0, 0)) by rw [hw0]; exact boxed3_0 _ _ _ _)
  have y0 := Lib.hid (show w0.heap[w.heap.size + 1]? = some (.cells #[.int .i64 p, .int .i64 q, .int .i64 r, .int .i64 s, .int .i64 t] 67 (0, 0)) by rw [hw0]; exact boxed3_1 _ _ _ _)
  have r0 := Lib.hid (show w0.heap[w.heap.size + 2]? = some (.cells #[.int .i64 0, .int .i64 0, .int .i64 0, .int .i64 0, .int .i64 0] 67 (0, 0)) by rw [hw0]; exact boxed3_2 _ _ _ _)
  have b0 : Below w.heap.size w w0 := by rw [hw0]; exact (by repeat (first | exact Below.refl _ _ | assumption | (refine Below.trans ?_ (Below.mono (by assumption) (by first | omega | (simp; done) | (simp; omega)))) | (with_reducible refine Below.drew ?_) | (with_reducible refine Below.alloc ?_ (by first | omega | (simp; done) | (simp; omega)) _) | (with_reducible refine Below.setCell ?_ (by first | omega | (simp; done) | (simp; omega)) _)))
  have s0 : w.heap.size + 3 ≤ w0.heap.size := by rw [hw0]; simp
  clear hw0
  have kx0 := cell_at (j := 0) x0.out rfl
  have kx1 := cell_at (j := 1) x0.out rfl
  have kx2 := cell_at (j := 2) x0.out rfl
  have kx3 := cell_at (j := 3) x0.out rfl
  have ky0 := cell_at (j := 0) y0.out rfl
  have ky1 := cell_at (j := 1) y0.out rfl
  have ky2 := cell_at (j := 2) y0.out rfl
  have ky3 := cell_at (j := 3) y0.out rfl
  try go_wp2_with fail
  refine (MulZOmega_any _ _ _ _ _ _ _ _ _).mono ?_
  rw [hz]
  rintro e1 w1 ⟨rfl, hb1, hs1⟩
  have x1 := Lib.hid ((hb1.block _ (by omega)).trans x0.out)
  have y1 := Lib.hid ((hb1.block _ (by omega)).trans y0.out)
  have r1 := Lib.hid ((hb1.block _ (by omega)).trans r0.out)
  have b1 := b0.trans (hb1.mono b0.size)
  have s1 : w.heap.size + 3 ≤ w1.heap.size := by omega
  clear kx0 kx1 kx2 kx3
  clear ky0 ky1 ky2 ky3
  have kx0 := cell_at (j := 0) x1.out rfl
  have kx1 := cell_at (j := 1) x1.out rfl
  have kx2 := cell_at (j := 2) x1.out rfl
  have kx3 := cell_at (j := 3) x1.out rfl
  have kx4 := cell_at (j := 4) x1.out rfl
  have l1 : w.heap.size < w1.heap.size := by omega
  go_wp2_with fail
  clear kx0 kx1 kx2 kx3 kx4
  obtain ⟨w2, hw2⟩ : ∃ w', w' = w1.alloc (.cells #[.int .i64 z.a, .int .i64 z.b, .int .i64 z.c, .int .i64 z.d] 65) := ⟨_, rfl⟩
  rw [← hw2]
  have x2 := Lib.hid (show w2.heap[w.heap.size]? = some (.cells #[.int .i64 a, .int .i64 b, .int .i64 c, .int .i64 d, .int .i64 e] 67 (0, 0)) by rw [hw2]; exact (Below.heap_alloc _ _ _ (by omega)).trans x1.out)
  have y2 := Lib.hid (show w2.heap[w.heap.size + 1]? = some (.cells #[.int .i64 p, .int .i64 q, .int .i64 r, .int .i64 s, .int .i64 t] 67 (0, 0)) by rw [hw2]; exact (Below.heap_alloc _ _ _ (by omega)).trans y1.out)
  have r2 := Lib.hid (show w2.heap[w.heap.size + 2]? = some (.cells #[.int .i64 0, .int .i64 0, .int .i64 0, .int .i64 0, .int .i64 0] 67 (0, 0)) by rw [hw2]; exact (Below.heap_alloc _ _ _ (by omega)).trans r1.out)
  have n2 := Lib.hid (show w2.heap[w1.heap.size]? = some (.cells #[.int .i64 z.a, .int .i64 z.b, .int .i64 z.c, .int .i64 z.d] 65 (0, 0)) by rw [hw2]; exact heap_alloc_new _ _)
  have b2 : Below w.heap.size w w2 := by rw [hw2]; exact b1.alloc b1.size _
  have s2 : w.heap.size + 3 ≤ w2.heap.size := by rw [hw2]; simp; omega
  have g2 : w1.heap.size + 1 = w2.heap.size := by rw [hw2]; simp
  cases hx : dOk ⟨a, b, c, d, e⟩
  · refine (IsValidDOmega_any _ _ _ _ _ _).mono ?_
    rw [hx]
    rintro e3 w3 ⟨rfl, hb3, hs3⟩
    have x3 := Lib.hid ((hb3.block _ (by omega)).trans x2.out)
    have y3 := Lib.hid ((hb3.block _ (by omega)).trans y2.out)
    have r3 := Lib.hid ((hb3.block _ (by omega)).trans r2.out)
    have n3 := Lib.hid ((hb3.block _ (by omega)).trans n2.out)
    have b3 := b2.trans (hb3.mono b2.size)
    have s3 : w.heap.size + 3 ≤ w3.heap.size := by omega
    have kr0 := cell_at (j := 0) r3.out rfl
    have fr0 := free_b (j := 0) r3.out
    have kr1 := cell_at (j := 1) r3.out rfl
    have fr1 := free_b (j := 1) r3.out
    have kr2 := cell_at (j := 2) r3.out rfl
    have fr2 := free_b (j := 2) r3.out
    have kr3 := cell_at (j := 3) r3.out rfl
    have fr3 := free_b (j := 3) r3.out
    have kr4 := cell_at (j := 4) r3.out rfl
    have fr4 := free_b (j := 4) r3.out
    have E := Lib.hid (show R = none by rw [HR.out]; exact mulD_1 hx)
    go_wp2_with fail
    exact bodyPost_ret (v := dres R) (by rw [E.out]; simp [results, Try.results48, go_sem, dres, kr0, kr1, kr2, kr3, kr4]) rfl (ret_set5 b3 (by omega))
  refine (IsValidDOmega_any _ _ _ _ _ _).mono ?_
  rw [hx]
  rintro e3 w3 ⟨rfl, hb3, hs3⟩
  have x3 := Lib.hid ((hb3.block _ (by omega)).trans x2.out)
  have y3 := Lib.hid ((hb3.block _ (by omega)).trans y2.out)
  have r3 := Lib.hid ((hb3.block _ (by omega)).trans r2.out)
  have n3 := Lib.hid ((hb3.block _ (by omega)).trans n2.out)
  have b3 := b2.trans (hb3.mono b2.size)
  have s3 : w.heap.size + 3 ≤ w3.heap.size := by omega
  have ky0 := cell_at (j := 0) y3.out rfl
  have ky1 := cell_at (j := 1) y3.out rfl
  have ky2 := cell_at (j := 2) y3.out rfl
  have ky3 := cell_at (j := 3) y3.out rfl
  have ky4 := cell_at (j := 4) y3.out rfl
  go_wp2_with fail
  clear ky0 ky1 ky2 ky3 ky4
  cases hy : dOk ⟨p, q, r, s, t⟩
  · refine (IsValidDOmega_any _ _ _ _ _ _).mono ?_
    rw [hy]
    rintro e4 w4 ⟨rfl, hb4, hs4⟩
    have x4 := Lib.hid ((hb4.block _ (by omega)).trans x3.out)
    have y4 := Lib.hid ((hb4.block _ (by omega)).trans y3.out)
    have r4 := Lib.hid ((hb4.block _ (by omega)).trans r3.out)
    have n4 := Lib.hid ((hb4.block _ (by omega)).trans n3.out)
    have b4 := b3.trans (hb4.mono b3.size)
    have s4 : w.heap.size + 3 ≤ w4.heap.size := by omega
    have kr0 := cell_at (j := 0) r4.out rfl
    have fr0 := free_b (j := 0) r4.out
    have kr1 := cell_at (j := 1) r4.out rfl
    have fr1 := free_b (j := 1) r4.out
    have kr2 := cell_at (j := 2) r4.out rfl
    have fr2 := free_b (j := 2) r4.out
    have kr3 := cell_at (j := 3) r4.out rfl
    have fr3 := free_b (j := 3) r4.out
    have kr4 := cell_at (j := 4) r4.out rfl
    have fr4 := free_b (j := 4) r4.out
    have E := Lib.hid (show R = none by rw [HR.out]; exact mulD_2 hy)
    go_wp2_with fail
    exact bodyPost_ret (v := dres R) (by rw [E.out]; simp [results, Try.results48, go_sem, dres, kr0, kr1, kr2, kr3, kr4]) rfl (ret_set5 b4 (by omega))
  refine (IsValidDOmega_any _ _ _ _ _ _).mono ?_
  rw [hy]
  rintro e4 w4 ⟨rfl, hb4, hs4⟩
  have x4 := Lib.hid ((hb4.block _ (by omega)).trans x3.out)
  have y4 := Lib.hid ((hb4.block _ (by omega)).trans y3.out)
  have r4 := Lib.hid ((hb4.block _ (by omega)).trans r3.out)
  have n4 := Lib.hid ((hb4.block _ (by omega)).trans n3.out)
  have b4 := b3.trans (hb4.mono b3.size)
  have s4 : w.heap.size + 3 ≤ w4.heap.size := by omega
  rcases HZR.out with ⟨rfl, hzm⟩ | ⟨rfl, hzm, _⟩
  · have hex := dOk_e hx
    have hey := dOk_e hy
    simp only at hex hey
    have E := Lib.hid (show R = newD z (e + t) by rw [HR.out]; exact mulD_4 hx hy hzm)
    clear hzm
    have kn0 := cell_at (j := 0) n4.out rfl
    have kn1 := cell_at (j := 1) n4.out rfl
    have kn2 := cell_at (j := 2) n4.out rfl
    have kn3 := cell_at (j := 3) n4.out rfl
    have kx0 := cell_at (j := 0) x4.out rfl
    have kx1 := cell_at (j := 1) x4.out rfl
    have kx2 := cell_at (j := 2) x4.out rfl
    have kx3 := cell_at (j := 3) x4.out rfl
    have kx4 := cell_at (j := 4) x4.out rfl
    have ky0 := cell_at (j := 0) y4.out rfl
    have ky1 := cell_at (j := 1) y4.out rfl
    have ky2 := cell_at (j := 2) y4.out rfl
    have ky3 := cell_at (j := 3) y4.out rfl
    have ky4 := cell_at (j := 4) y4.out rfl
    go_wp2_with fail
    clear kn0 kn1 kn2 kn3
    clear kx0 kx1 kx2 kx3 kx4
    clear ky0 ky1 ky2 ky3 ky4
    obtain ⟨v, ok, hv, hvr⟩ := dres_form (newD z (e + t))
    rw [← E.out] at hv hvr
    refine (NewDOmega_any _ _ _ _ _ _).mono ?_
    rintro e5 w5 ⟨rfl, hb5, hs5⟩
    have r5 := Lib.hid ((hb5.block _ (by omega)).trans r4.out)
    have b5 := b4.trans (hb5.mono b4.size)
    have s5 : w.heap.size + 3 ≤ w5.heap.size := by omega
    rw [show newD ⟨z.a, z.b, z.c, z.d⟩ (e + t) = R from E.out.symm, hv]
    have kr0 := cell_at (j := 0) r5.out rfl
    have fr0 := free_b (j := 0) r5.out
    have kr1 := cell_at (j := 1) r5.out rfl
    have fr1 := free_b (j := 1) r5.out
    have kr2 := cell_at (j := 2) r5.out rfl
    have fr2 := free_b (j := 2) r5.out
    have kr3 := cell_at (j := 3) r5.out rfl
    have fr3 := free_b (j := 3) r5.out
    have kr4 := cell_at (j := 4) r5.out rfl
    have fr4 := free_b (j := 4) r5.out
    go_wp2_with fail
    exact bodyPost_ret (v := dres R) (by rw [hv]; simp [results, Try.results48, go_sem, kr0, kr1, kr2, kr3, kr4]) rfl (ret_set5 b5 (by omega))
  · have E0 := hzm
    have kr0 := cell_at (j := 0) r4.out rfl
    have fr0 := free_b (j := 0) r4.out
    have kr1 := cell_at (j := 1) r4.out rfl
    have fr1 := free_b (j := 1) r4.out
    have kr2 := cell_at (j := 2) r4.out rfl
    have fr2 := free_b (j := 2) r4.out
    have kr3 := cell_at (j := 3) r4.out rfl
    have fr3 := free_b (j := 3) r4.out
    have kr4 := cell_at (j := 4) r4.out rfl
    have fr4 := free_b (j := 4) r4.out
    have E := Lib.hid (show R = none by rw [HR.out]; exact mulD_3 E0)
    go_wp2_with fail
    exact bodyPost_ret (v := dres R) (by rw [E.out]; simp [results, Try.results48, go_sem, dres, kr0, kr1, kr2, kr3, kr4]) rfl (ret_set5 b4 (by omega))
end Go.Proofs.Ytgjpicekdbemiaa
