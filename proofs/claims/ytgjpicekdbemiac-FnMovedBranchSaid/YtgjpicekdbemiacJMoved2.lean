/- What the calls that this law reaches answer, part 2 of 9. -/
import Derived.Test.YtgjpicekdbemiacJMoved1
namespace Go.Proofs.Ytgjpicekdbemiac
open Go.RowKit
set_option linter.unusedVariables false
theorem wp_nameA {P : Program} {a : Act} {Q : Exit → Act → World → Prop} {c : Code} {w : World} (h : ∀ w' : World, w' = w → c.wp P Q a w') : c.wp P Q a w := h w rfl
set_option maxRecDepth 100000 in
set_option maxHeartbeats 60000000 in
theorem AddDOmega_any (a b c d e p q r s t : Int) (w : World) : Calls Try.prog 53 #[.agg #[.int .i64 a, .int .i64 b, .int .i64 c, .int .i64 d, .int .i64 e], .agg #[.int .i64 p, .int .i64 q, .int .i64 r, .int .i64 s, .int .i64 t]] w (Ret (dres (addD ⟨a, b, c, d, e⟩ ⟨p, q, r, s, t⟩)) w) := by
  obtain ⟨R, hR⟩ : ∃ R, R = addD ⟨a, b, c, d, e⟩ ⟨p, q, r, s, t⟩ := ⟨_, rfl⟩
  rw [← hR]
  have HR := Lib.hid hR
  clear hR
  go_enter Try.func53, Try.ntmps53
  go_wp2_with fail
  obtain ⟨w0, hw0⟩ : ∃ w0, w0 = ((w.alloc (.cells #[.int .i64 a, .int .i64 b, .int .i64 c, .int .i64 d, .int .i64 e] 47)).alloc (.cells #[.int .i64 p, .int .i64 q, .int .i64 r, .int .i64 s, .int .i64 t] 47)).alloc (.cells #[.int .i64 0, .int .i64 0, .int .i64 0, .int .i64 0, .int .i64 0] 47) := ⟨_, rfl⟩
  rw [← hw0]
  have x0 := Lib.hid (show w0.heap[w.heap.size]? = some (.cells #[.int .i64 a, .int .i64 b, .int .i64 c, .int .i64 d, .int .i64 e] 47 (0, 0)) by rw [hw0]; exact boxed3_0 _ _ _ _)
  have y0 := Lib.hid (show w0.heap[w.heap.size + 1]? = some (.cells #[.int .i64 p, .int .i64 q, .int .i64 r, .int .i64 s, .int .i64 t] 47 (0, 0)) by rw [hw0]; exact boxed3_1 _ _ _ _)
  have r0 := Lib.hid (show w0.heap[w.heap.size + 2]? = some (.cells #[.int .i64 0, .int .i64 0, .int .i64 0, .int .i64 0, .int .i64 0] 47 (0, 0)) by rw [hw0]; exact boxed3_2 _ _ _ _)
  have b0 : Below w.heap.size w w0 := by rw [hw0]; exact (by repeat (first | exact Below.refl _ _ | assumption | (refine Below.trans ?_ (Below.mono (by assumption) (by first | omega | (simp; done) | (simp; omega)))) | (with_reducible refine Below.drew ?_) | (with_reducible refine Below.alloc ?_ (by first | omega | (simp; done) | (simp; omega)) _) | (with_reducible refine Below.setCell ?_ (by first | omega | (simp; done) | (simp; omega)) _)))
  have s0 : w.heap.size + 3 ≤ w0.heap.size := by rw [hw0]; simp
  clear hw0
  have kx0 := cell_at (j := 0) x0.out rfl
  have kx1 := cell_at (j := 1) x0.out rfl
  have kx2 := cell_at (j := 2) x0.out rfl
  have kx3 := cell_at (j := 3) x0.out rfl
  have kx4 := cell_at (j := 4) x0.out rfl
  go_wp2_with fail
  clear kx0 kx1 kx2 kx3 kx4
  cases hx : dOk ⟨a, b, c, d, e⟩
  · refine (IsValidDOmega_any _ _ _ _ _ _).mono ?_
    rw [hx]
    rintro e1 w1 ⟨rfl, hb1, hs1⟩
    have x1 := Lib.hid ((hb1.block _ (by omega)).trans x0.out)
    have y1 := Lib.hid ((hb1.block _ (by omega)).trans y0.out)
    have r1 := Lib.hid ((hb1.block _ (by omega)).trans r0.out)
    have b1 := b0.trans (hb1.mono b0.size)
    have s1 : w.heap.size + 3 ≤ w1.heap.size := by omega
    have kr0 := cell_at (j := 0) r1.out rfl
    have fr0 := free_b (j := 0) r1.out
    have kr1 := cell_at (j := 1) r1.out rfl
    have fr1 := free_b (j := 1) r1.out
    have kr2 := cell_at (j := 2) r1.out rfl
    have fr2 := free_b (j := 2) r1.out
    have kr3 := cell_at (j := 3) r1.out rfl
    have fr3 := free_b (j := 3) r1.out
    have kr4 := cell_at (j := 4) r1.out rfl
    have fr4 := free_b (j := 4) r1.out
    have E := Lib.hid (show R = none by rw [HR.out]; exact addD_1 hx)
    go_wp2_with fail
    exact bodyPost_ret (v := dres R) (by rw [E.out]; simp [results, Try.results53, go_sem, dres, kr0, kr1, kr2, kr3, kr4]) rfl (ret_set5 b1 (by omega))
  refine (IsValidDOmega_any _ _ _ _ _ _).mono ?_
  rw [hx]
  rintro e1 w1 ⟨rfl, hb1, hs1⟩
  have x1 := Lib.hid ((hb1.block _ (by omega)).trans x0.out)
  have y1 := Lib.hid ((hb1.block _ (by omega)).trans y0.out)
  have r1 := Lib.hid ((hb1.block _ (by omega)).trans r0.out)
  have b1 := b0.trans (hb1.mono b0.size)
  have s1 : w.heap.size + 3 ≤ w1.heap.size := by omega
  have ky0 := cell_at (j := 0) y1.out rfl
  have ky1 := cell_at (j := 1) y1.out rfl
  have ky2 := cell_at (j := 2) y1.out rfl
  have ky3 := cell_at (j := 3) y1.out rfl
  have ky4 := cell_at (j := 4) y1.out rfl
  go_wp2_with fail
  clear ky0 ky1 ky2 ky3 ky4
  cases hy : dOk ⟨p, q, r, s, t⟩
  · refine (IsValidDOmega_any _ _ _ _ _ _).mono ?_
    rw [hy]
    rintro e2 w2 ⟨rfl, hb2, hs2⟩
    have x2 := Lib.hid ((hb2.block _ (by omega)).trans x1.out)
    have y2 := Lib.hid ((hb2.block _ (by omega)).trans y1.out)
    have r2 := Lib.hid ((hb2.block _ (by omega)).trans r1.out)
    have b2 := b1.trans (hb2.mono b1.size)
    have s2 : w.heap.size + 3 ≤ w2.heap.size := by omega
    have kr0 := cell_at (j := 0) r2.out rfl
    have fr0 := free_b (j := 0) r2.out
    have kr1 := cell_at (j := 1) r2.out rfl
    have fr1 := free_b (j := 1) r2.out
    have kr2 := cell_at (j := 2) r2.out rfl
    have fr2 := free_b (j := 2) r2.out
    have kr3 := cell_at (j := 3) r2.out rfl
    have fr3 := free_b (j := 3) r2.out
    have kr4 := cell_at (j := 4) r2.out rfl
    have fr4 := free_b (j := 4) r2.out
    have E := Lib.hid (show R = none by rw [HR.out]; exact addD_2 hy)
    go_wp2_with fail
    exact bodyPost_ret (v := dres R) (by rw [E.out]; simp [results, Try.results53, go_sem, dres, kr0, kr1, kr2, kr3, kr4]) rfl (ret_set5 b2 (by omega))
  refine (IsValidDOmega_any _ _ _ _ _ _).mono ?_
  rw [hy]
  rintro e2 w2 ⟨rfl, hb2, hs2⟩
  have x2 := Lib.hid ((hb2.block _ (by omega)).trans x1.out)
  have y2 := Lib.hid ((hb2.block _ (by omega)).trans y1.out)
  have r2 := Lib.hid ((hb2.block _ (by omega)).trans r1.out)
  have b2 := b1.trans (hb2.mono b1.size)
  have s2 : w.heap.size + 3 ≤ w2.heap.size := by omega
  have hex := dOk_e hx
  have hey := dOk_e hy
  simp only at hex hey
  obtain ⟨E1, rfl⟩ : ∃ n : Nat, e = n := ⟨e.toNat, by omega⟩
  obtain ⟨E2, rfl⟩ : ∃ n : Nat, t = n := ⟨t.toNat, by omega⟩
  obtain ⟨K, hK⟩ : ∃ K : Nat, K = max E1 E2 := ⟨_, rfl⟩
  have hK1 : E1 ≤ K := by omega
  have hK2 : E2 ≤ K := by omega
  have hK6 : K ≤ 60 := by omega
  have hKI : max (E1 : Int) (E2 : Int) = (K : Int) := by omega
  have hn1 : (max (E1 : Int) (E2 : Int) - E1).toNat = K - E1 := by omega
  have hn2 : (max (E1 : Int) (E2 : Int) - E2).toNat = K - E2 := by omega
  have HN1 := Lib.hid hn1
  have HN2 := Lib.hid hn2
  have HKI := Lib.hid hKI
  have i1 : (K : Int) - E1 = ((K - E1 : Nat) : Int) := by omega
  have i2 : (K : Int) - E2 = ((K - E2 : Nat) : Int) := by omega
  have I1 := Lib.hid i1
  have I2 := Lib.hid i2
  clear hK hKI hn1 hn2 i1 i2
  have kx0 := cell_at (j := 0) x2.out rfl
  have kx1 := cell_at (j := 1) x2.out rfl
  have kx2 := cell_at (j := 2) x2.out rfl
  have kx3 := cell_at (j := 3) x2.out rfl
  have kx4 := cell_at (j := 4) x2.out rfl
  have ky0 := cell_at (j := 0) y2.out rfl
  have ky1 := cell_at (j := 1) y2.out rfl
  have ky2 := cell_at (j := 2) y2.out rfl
  have ky3 := cell_at (j := 3) y2.out rfl
  have ky4 := cell_at (j := 4) y2.out rfl
  go_wp2_with (go_at_call 62; refine (l1MaxD_any _ _ _).mono ?_; rw [HKI.out]; rintro e' w' ⟨rfl, rfl⟩)
  clear kx0 kx1 kx2 kx3 kx4
  clear ky0 ky1 ky2 ky3 ky4
  obtain ⟨za, oka, hza, hzra⟩ := zres_form (up (K - E1) ⟨a, b, c, d⟩)
  have HZA := Lib.hid hzra
  clear hzra
  rw [I1.out]
  refine (l3Up_any _ _ _ _ (K - E1) _ (by omega)).mono ?_
  rw [hza]
  rintro e3 w3 ⟨rfl, hb3, hs3⟩
  have x3 := Lib.hid ((hb3.block _ (by omega)).trans x2.out)
  have y3 := Lib.hid ((hb3.block _ (by omega)).trans y2.out)
  have r3 := Lib.hid ((hb3.block _ (by omega)).trans r2.out)
  have b3 := b2.trans (hb3.mono b2.size)
  have s3 : w.heap.size + 3 ≤ w3.heap.size := by omega
  have l3 : w.heap.size + 1 < w3.heap.size := by omega
  have ky0 := cell_at (j := 0) y3.out rfl
  have ky1 := cell_at (j := 1) y3.out rfl
  have ky2 := cell_at (j := 2) y3.out rfl
  have ky3 := cell_at (j := 3) y3.out rfl
  have ky4 := cell_at (j := 4) y3.out rfl
  go_wp2_with fail
  clear ky0 ky1 ky2 ky3 ky4
  obtain ⟨w4, hw4⟩ : ∃ w', w' = w3.alloc (.cells #[.int .i64 za.a, .int .i64 za.b, .int .i64 za.c, .int .i64 za.d] 45) := ⟨_, rfl⟩
  rw [← hw4]
  have x4 := Lib.hid (show w4.heap[w.heap.size]? = some (.cells #[.int .i64 a, .int .i64 b, .int .i64 c, .int .i64 d, .int .i64 (E1 : Int)] 47 (0, 0)) by rw [hw4]; exact (Below.heap_alloc _ _ _ (by omega)).trans x3.out)
  have y4 := Lib.hid (show w4.heap[w.heap.size + 1]? = some (.cells #[.int .i64 p, .int .i64 q, .int .i64 r, .int .i64 s, .int .i64 (E2 : Int)] 47 (0, 0)) by rw [hw4]; exact (Below.heap_alloc _ _ _ (by omega)).trans y3.out)
  have r4 := Lib.hid (show w4.heap[w.heap.size + 2]? = some (.cells #[.int .i64 0, .int .i64 0, .int .i64 0, .int .i64 0, .int .i64 0] 47 (0, 0)) by rw [hw4]; exact (Below.heap_alloc _ _ _ (by omega)).trans r3.out)
  have m4 := Lib.hid (show w4.heap[w3.heap.size]? = some (.cells #[.int .i64 za.a, .int .i64 za.b, .int .i64 za.c, .int .i64 za.d] 45 (0, 0)) by rw [hw4]; exact heap_alloc_new _ _)
  have b4 : Below w.heap.size w w4 := by rw [hw4]; exact b3.alloc b3.size _
  have s4 : w.heap.size + 3 ≤ w4.heap.size := by rw [hw4]; simp; omega
  have g4 : w3.heap.size + 1 = w4.heap.size := by rw [hw4]; simp
  obtain ⟨zb, okb, hzb, hzrb⟩ := zres_form (up (K - E2) ⟨p, q, r, s⟩)
  have HZB := Lib.hid hzrb
  clear hzrb
  rw [I2.out]
  refine (l3Up_any _ _ _ _ (K - E2) _ (by omega)).mono ?_
  rw [hzb]
  rintro e5 w5 ⟨rfl, hb5, hs5⟩
  have x5 := Lib.hid ((hb5.block _ (by omega)).trans x4.out)
  have y5 := Lib.hid ((hb5.block _ (by omega)).trans y4.out)
  have r5 := Lib.hid ((hb5.block _ (by omega)).trans r4.out)
  have m5 := Lib.hid ((hb5.block _ (by omega)).trans m4.out)
  have b5 := b4.trans (hb5.mono b4.size)
  have s5 : w.heap.size + 3 ≤ w5.heap.size := by omega
  have km0 := cell_at (j := 0) m5.out rfl
  have km1 := cell_at (j := 1) m5.out rfl
  have km2 := cell_at (j := 2) m5.out rfl
  have km3 := cell_at (j := 3) m5.out rfl
  have l5 : w3.heap.size < w5.heap.size := by omega
  go_wp2_with fail
  clear km0 km1 km2 km3
  obtain ⟨w6, hw6⟩ : ∃ w', w' = w5.alloc (.cells #[.int .i64 zb.a, .int .i64 zb.b, .int .i64 zb.c, .int .i64 zb.d] 45) := ⟨_, rfl⟩
  rw [← hw6]
  have r6 := Lib.hid (show w6.heap[w.heap.size + 2]? = some (.cells #[.int .i64 0, .int .i64 0, .int .i64 0, .int .i64 0, .int .i64 0] 47 (0, 0)) by rw [hw6]; exact (Below.heap_alloc _ _ _ (by omega)).trans r5.out)
  have n6 := Lib.hid (show w6.heap[w5.heap.size]? = some (.cells #[.int .i64 zb.a, .int .i64 zb.b, .int .i64 zb.c, .int .i64 zb.d] 45 (0, 0)) by rw [hw6]; exact heap_alloc_new _ _)
  have b6 : Below w.heap.size w w6 := by rw [hw6]; exact b5.alloc b5.size _
  have s6 : w.heap.size + 3 ≤ w6.heap.size := by rw [hw6]; simp; omega
  have g6 : w5.heap.size + 1 = w6.heap.size := by rw [hw6]; simp
  obtain ⟨zn, okn, hzn, hzrn⟩ := zres_form (zadd za zb)
  have HZN := Lib.hid hzrn
  clear hzrn
  have hzn' : zres (zadd ⟨za.a, za.b, za.c, za.d⟩ ⟨zb.a, zb.b, zb.c, zb.d⟩) = _ := hzn
  refine (AddZOmega_any _ _ _ _ _ _ _ _ _).mono ?_
  rw [hzn']
  rintro e7 w7 ⟨rfl, hb7, hs7⟩
  have r7 := Lib.hid ((hb7.block _ (by omega)).trans r6.out)
  have b7 := b6.trans (hb7.mono b6.size)
  have s7 : w.heap.size + 3 ≤ w7.heap.size := by omega
  go_upto_region 7 with (fail)
  refine wp_nameA (fun w8 hw8 => ?_)
  have r8 := Lib.hid (show w8.heap[w.heap.size + 2]? = some (.cells #[.int .i64 0, .int .i64 0, .int .i64 0, .int .i64 0, .int .i64 0] 47 (0, 0)) by rw [hw8]; exact (Below.heap_alloc _ _ _ (by omega)).trans r7.out)
  have n8 := Lib.hid (show w8.heap[w7.heap.size]? = some (.cells #[.int .i64 zn.a, .int .i64 zn.b, .int .i64 zn.c, .int .i64 zn.d] 45 (0, 0)) by rw [hw8]; exact heap_alloc_new _ _)
  have b8 : Below w.heap.size w w8 := by rw [hw8]; exact b7.alloc b7.size _
  have s8 : w.heap.size + 3 ≤ w8.heap.size := by rw [hw8]; simp; omega
  have HRX := Lib.hid (And.intro hx hy)
  clear hw8 b0 b1 b2 b3 b4 b5 b6 b7 s0 s1 s2 s3 s4 s5 s6 s7 hb1 hb2 hb3 hb5 hb7 hs1 hs2 hs3 hs5 hs7 hza hzb hzn hzn' hx hy l3 l5 g4 g6 hw4 hw6 x0 x1 x2 x3 x4 y0 y1 y2 y3 y4 r0 r1 r2 r3 r4 r5 r6 r7 m4 m5 n6
  rcases HZA.out with ⟨rfl, ha⟩ | ⟨rfl, ha, _⟩
  · rcases HZB.out with ⟨rfl, hb⟩ | ⟨rfl, hb, _⟩
    · rcases HZN.out with ⟨rfl, hn⟩ | ⟨rfl, hn, _⟩
      · have E := Lib.hid (show R = newD zn K by rw [HR.out]; exact (addD_6 HRX.out.1 HRX.out.2 (by rw [HN1.out]; exact ha) (by rw [HN2.out]; exact hb) hn).trans (by rw [HKI.out]))
        clear ha hb hn
        have kn0 := cell_at (j := 0) n8.out rfl
        have kn1 := cell_at (j := 1) n8.out rfl
        have kn2 := cell_at (j := 2) n8.out rfl
        have kn3 := cell_at (j := 3) n8.out rfl
        go_wp2_with fail
        clear kn0 kn1 kn2 kn3
        obtain ⟨v, ok, hv, hvr⟩ := dres_form (newD zn K)
        rw [← E.out] at hv hvr
        refine (NewDOmega_any _ _ _ _ _ _).mono ?_
        rintro e9 w9 ⟨rfl, hb9, hs9⟩
        have r9 := Lib.hid ((hb9.block _ (by omega)).trans r8.out)
        have b9 := b8.trans (hb9.mono b8.size)
        have s9 : w.heap.size + 3 ≤ w9.heap.size := by omega
        rw [show newD ⟨zn.a, zn.b, zn.c, zn.d⟩ K = R from E.out.symm, hv]
        have kr0 := cell_at (j := 0) r9.out rfl
        have fr0 := free_b (j := 0) r9.out
        have kr1 := cell_at (j := 1) r9.out rfl
        have fr1 := free_b (j := 1) r9.out
        have kr2 := cell_at (j := 2) r9.out rfl
        have fr2 := free_b (j := 2) r9.out
        have kr3 := cell_at (j := 3) r9.out rfl
        have fr3 := free_b (j := 3) r9.out
        have kr4 := cell_at (j := 4) r9.out rfl
        have fr4 := free_b (j := 4) r9.out
        go_wp2_with fail
        exact bodyPost_ret (v := dres R) (by rw [hv]; simp [results, Try.results53, go_sem, kr0, kr1, kr2, kr3, kr4]) rfl (ret_set5 b9 (by omega))
      · have kr0 := cell_at (j := 0) r8.out rfl
        have fr0 := free_b (j := 0) r8.out
        have kr1 := cell_at (j := 1) r8.out rfl
        have fr1 := free_b (j := 1) r8.out
        have kr2 := cell_at (j := 2) r8.out rfl
        have fr2 := free_b (j := 2) r8.out
        have kr3 := cell_at (j := 3) r8.out rfl
        have fr3 := free_b (j := 3) r8.out
        have kr4 := cell_at (j := 4) r8.out rfl
        have fr4 := free_b (j := 4) r8.out
        have E := Lib.hid (show R = none by rw [HR.out]; exact addD_5 HRX.out.1 HRX.out.2 (by rw [HN1.out]; exact ha) (by rw [HN2.out]; exact hb) hn)
        go_wp2_with fail
        exact bodyPost_ret (v := dres R) (by rw [E.out]; simp [results, Try.results53, go_sem, dres, kr0, kr1, kr2, kr3, kr4]) rfl (ret_set5 b8 (by omega))
    · have kr0 := cell_at (j := 0) r8.out rfl
      have fr0 := free_b (j := 0) r8.out
      have kr1 := cell_at (j := 1) r8.out rfl
      have fr1 := free_b (j := 1) r8.out
      have kr2 := cell_at (j := 2) r8.out rfl
      have fr2 := free_b (j := 2) r8.out
      have kr3 := cell_at (j := 3) r8.out rfl
      have fr3 := free_b (j := 3) r8.out
      have kr4 := cell_at (j := 4) r8.out rfl
      have fr4 := free_b (j := 4) r8.out
      have E := Lib.hid (show R = none by rw [HR.out]; exact addD_4 HRX.out.1 HRX.out.2 (by rw [HN1.out]; exact ha) (by rw [HN2.out]; exact hb))
      go_wp2_with fail
      exact bodyPost_ret (v := dres R) (by rw [E.out]; simp [results, Try.results53, go_sem, dres, kr0, kr1, kr2, kr3, kr4]) rfl (ret_set5 b8 (by omega))
  · have kr0 := cell_at (j := 0) r8.out rfl
    have fr0 := free_b (j := 0) r8.out
    have kr1 := cell_at (j := 1) r8.out rfl
    have fr1 := free_b (j := 1) r8.out
    have kr2 := cell_at (j := 2) r8.out rfl
    have fr2 := free_b (j := 2) r8.out
    have kr3 := cell_at (j := 3) r8.out rfl
    have fr3 := free_b (j := 3) r8.out
    have kr4 := cell_at (j := 4) r8.out rfl
    have fr4 := free_b (j := 4) r8.out
    have E := Lib.hid (show R = none by rw [HR.out]; exact addD_3 HRX.out.1 HRX.out.2 (by rw [HN1.out]; exact ha))
    go_wp2_with fail
    exact bodyPost_ret (v := dres R) (by rw [E.out]; simp [results, Try.results53, go_sem, dres, kr0, kr1, kr2, kr3, kr4]) rfl (ret_set5 b8 (by omega))
end Go.Proofs.Ytgjpicekdbemiac
namespace Go.Proofs.Ytgjpicekdbemiac
open Go.RowKit

def ar (k : Int) : Nat := if inB k 1 8 then 1 else if inB k 9 11 then 2 else if k = 12 then 3 else 0
theorem ar_le (k : Int) : ar k ≤ 3 := by
  unfold ar
  split
  · omega
  · split
    · omega
    · split <;> omega
set_option maxRecDepth 100000 in
theorem Arity_spec (k : Int) (w : World) : Calls Try.prog 39 #[.int .i64 k] w fun e w' => e = .returned (.int .i64 (ar k)) ∧ w = w' := by
  cases h1 : inB k 1 8
  · cases h2 : inB k 9 11
    · by_cases h3 : k = 12
      · subst h3
        go_enter Try.func39, Try.ntmps39
        go_wp2_with (go_at_call 29; refine (l1In_any _ _ _ _).mono ?_; rintro e w' ⟨rfl, rfl⟩)
        go_ret
        exact ⟨rfl, rfl⟩
      · have e : ar k = 0 := by simp [ar, h1, h2, h3]
        rw [e]
        have h4 : (k == 12) = false := beq_eq_false_iff_ne.2 h3
        clear h3 e
        go_enter Try.func39, Try.ntmps39
        go_wp2_with (go_at_call 29; refine (l1In_any _ _ _ _).mono ?_; rintro e w' ⟨rfl, rfl⟩)
        go_ret
        exact ⟨rfl, rfl⟩
    · have e : ar k = 2 := by simp [ar, h1, h2]
      rw [e]
      clear e
      go_enter Try.func39, Try.ntmps39
      go_wp2_with (go_at_call 29; refine (l1In_any _ _ _ _).mono ?_; rintro e w' ⟨rfl, rfl⟩)
      go_ret
      exact ⟨rfl, rfl⟩
  · have e : ar k = 1 := by simp [ar, h1]
    rw [e]
    clear e
    go_enter Try.func39, Try.ntmps39
    go_wp2_with (go_at_call 29; refine (l1In_any _ _ _ _).mono ?_; rintro e w' ⟨rfl, rfl⟩)
    go_ret
    exact ⟨rfl, rfl⟩

def qsOf (g : Gt) : List Int := [g.a, g.b, g.c]
def vstep (m : Nat) (n : Int) (qs : List Int) (t : Nat) : Bool := if m ≤ t then qs.getD t 0 == 0 else inB (qs.getD t 0) 0 (n - 1) && !(qs.take t).contains (qs.getD t 0)
def vupto (m : Nat) (n : Int) (qs : List Int) : Nat → Bool
  | 0 => true
  | t + 1 => vupto m n qs t && vstep m n qs t
def validG (g : Gt) (n : Int) : Bool := (inB n 1 4 && decide (ar g.k ≠ 0)) && vupto (ar g.k) n (qsOf g) 3
theorem vupto_f {m : Nat} {n : Int} {qs : List Int} {t : Nat} (h : vstep m n qs t = false) (h3 : t < 3) : vupto m n qs 3 = false := by
  match t, h3 with
  | 0, _ => simp [vupto, h]
  | 1, _ => simp [vupto, h]
  | 2, _ => simp [vupto, h]
  | _ + 3, h => omega
theorem validG_n {g : Gt} {n : Int} (h : inB n 1 4 = false) : validG g n = false := by simp [validG, h]
theorem validG_k {g : Gt} {n : Int} (h : ar g.k = 0) : validG g n = false := by simp [validG, h]
theorem validG_f {g : Gt} {n : Int} {t : Nat} (h : vstep (ar g.k) n (qsOf g) t = false) (h3 : t < 3) : validG g n = false := by simp [validG, vupto_f h h3]
theorem validG_t {g : Gt} {n : Int} (h : inB n 1 4 = true) (hk : ar g.k ≠ 0) (h3 : vupto (ar g.k) n (qsOf g) 3 = true) : validG g n = true := by simp [validG, h, hk, h3]
theorem vstep_hi_t {m : Nat} {n : Int} {qs : List Int} {t : Nat} (h : m ≤ t) (hq : (qs.getD t 0 == 0) = true) : vstep m n qs t = true := by simpa [vstep, h] using hq
theorem vstep_hi_f {m : Nat} {n : Int} {qs : List Int} {t : Nat} (h : m ≤ t) (hq : (qs.getD t 0 == 0) = false) : vstep m n qs t = false := by simpa [vstep, h] using hq
theorem vstep_in_f {m : Nat} {n : Int} {qs : List Int} {t : Nat} (h : t < m) (hq : inB (qs.getD t 0) 0 (n - 1) = false) : vstep m n qs t = false := by rw [vstep, if_neg (by omega), hq]; rfl
theorem vstep_seen_f {m : Nat} {n : Int} {qs : List Int} {t : Nat} (h : t < m) (hq : (qs.take t).contains (qs.getD t 0) = true) : vstep m n qs t = false := by rw [vstep, if_neg (by omega), hq]; simp
theorem vstep_lo_t {m : Nat} {n : Int} {qs : List Int} {t : Nat} (h : t < m) (h1 : inB (qs.getD t 0) 0 (n - 1) = true) (h2 : (qs.take t).contains (qs.getD t 0) = false) : vstep m n qs t = true := by rw [vstep, if_neg (by omega), h1, h2]; rfl
theorem take_snoc {qs : List Int} {t : Nat} (h : t < qs.length) : qs.take t ++ [qs.getD t 0] = qs.take (t + 1) := by
  rw [List.take_succ_eq_append_getElem h, List.getD_eq_getElem?_getD, List.getElem?_eq_getElem h]; rfl

theorem ints_at (xs : List Int) (j : Nat) (h : j < xs.length) : (xs.map (Value.int .i64))[j]? = some (.int .i64 (xs.getD j 0)) := by
  simp [List.getD_eq_getElem?_getD, h]
theorem contains_snoc_f {xs : List Int} {x : Int} {t : Nat} (h : t < xs.length) (h1 : (xs.take t).contains x = false) (h2 : (xs.getD t 0 == x) = false) : (xs.take (t + 1)).contains x = false := by
  rw [← take_snoc h]
  have h2' : ¬ x = xs.getD t 0 := fun e => by rw [e] at h2; simp at h2
  rw [List.contains_eq_mem] at h1 ⊢
  simp only [decide_eq_false_iff_not, List.mem_append, List.mem_singleton, not_or] at h1 ⊢
  exact ⟨h1, h2'⟩
theorem contains_at {xs : List Int} {x : Int} {t : Nat} (h : t < xs.length) (h2 : (xs.getD t 0 == x) = true) : xs.contains x = true := by
  have e : xs.getD t 0 = x := by simpa using h2
  rw [List.contains_eq_mem, decide_eq_true_iff, ← e, List.getD_eq_getElem?_getD, List.getElem?_eq_getElem h]
  exact List.getElem_mem h
def hasI (xs : List Int) (x : Int) : Bool := xs.contains x
set_option maxRecDepth 100000 in
theorem l1HasInt_any (A : Option Addr) (n c : Nat) (xs : List Int) (x : Int) (w : World) (h : Rd w 1 A n (xs.map (Value.int .i64))) (hl : xs.length = n) (hn : n ≤ 1099511627776) :
    Calls Try.prog 30 #[.slice A n c, .int .i64 x] w fun e w' => e = .returned (.bool (hasI xs x)) ∧ w = w' := by
  have H := Lib.hid h
  have HL := Lib.hid hl
  clear h hl
  go_enter Try.func30, Try.ntmps30
  go_wp2
  go_loop [5] (fun i => ∃ t : Nat, t ≤ n ∧ i = .int .i64 t ∧ (xs.take t).contains x = false) (fun i => n - (intOf i).toNat)
  case atStart => exact ⟨0, Nat.zero_le _, rfl, by simp⟩
  case round =>
    obtain ⟨t, ht, rfl, hno⟩ := hrel
    have HN := Lib.hid hno
    clear hno
    by_cases hlt : t < n
    · obtain ⟨b, off, rfl, _, hc⟩ := H.out.2 (by omega)
      have q0 := hc t _ (ints_at xs t (by rw [HL.out]; exact hlt))
      clear hc
      obtain ⟨y, hy⟩ : ∃ y, y = xs.getD t 0 := ⟨_, rfl⟩
      rw [← hy] at q0
      have HY := Lib.hid hy
      clear hy
      cases he : (y == x)
      · go_wp2
        go_round
        case rel => exact ⟨t + 1, by omega, by go_num, contains_snoc_f (by rw [HL.out]; exact hlt) HN.out (by rw [← HY.out]; exact he)⟩
        case measure => simp [intOf]; omega
      · have HF : Hid (hasI xs x = true) := Lib.hid (contains_at (by rw [HL.out]; exact hlt) (by rw [← HY.out]; exact he))
        go_wp2
        go_ret
        exact ⟨by rw [HF.out]; rfl, rfl⟩
    · obtain rfl : t = n := by omega
      have HF : Hid (hasI xs x = false) := by
        have h := HN.out
        rw [List.take_of_length_le (by rw [HL.out]; exact Nat.le_refl _)] at h
        exact h
      go_wp2
      go_ret
      exact ⟨by rw [HF.out]; rfl, rfl⟩
theorem info_int : (Try.prog.info? 3).map (fun i => (i.zero, i.size, i.bytes)) = some (some (.int .i64 0), 1, 8) := by kernel_rfl
set_option maxRecDepth 100000 in
set_option maxHeartbeats 1000000 in
theorem GateQubits_spec (k a b c : Int) (w : World) : Calls Try.prog 49 #[.agg #[.int .i64 k, .int .i64 a, .int .i64 b, .int .i64 c]] w
    (RetRow 3 1 w (ar k) (([a, b, c].take (ar k)).map (Value.int .i64))) := by
  have har := ar_le k
  obtain ⟨m, hm⟩ : ∃ m, m = ar k := ⟨_, rfl⟩
  have HM := Lib.hid hm
  rw [← hm] at har ⊢
  clear hm
  obtain ⟨i0, hi, hz0, hz1, hz2⟩ := info_parts info_int
  have hm4 : m = 0 ∨ m = 1 ∨ m = 2 ∨ m = 3 := by omega
  clear har
  rcases hm4 with rfl | rfl | rfl | rfl
  · go_enter Try.func49, Try.ntmps49
    go_wp2_with fail
    refine (Arity_spec _ _).mono ?_
    rintro e w' ⟨rfl, rfl⟩
    rw [← HM.out]
    obtain ⟨w0, hw0⟩ : ∃ w0, w0 = ((w.alloc (.cells #[.int .i64 k, .int .i64 a, .int .i64 b, .int .i64 c] 72)).alloc (.cells #[.int .i64 a, .int .i64 b, .int .i64 c] 3)).alloc (.cells #[] 3) := ⟨_, rfl⟩
    rw [← hw0]
    have X1 : Hid (w0.heap[w.heap.size + 1]? = some (.cells #[.int .i64 a, .int .i64 b, .int .i64 c] 3 (0, 0))) := by rw [hw0]; exact boxed3_1 _ _ _ _
    have hown : w0.ownsRow w.heap.size 3 1 (.slice (some ⟨w.heap.size + 2, 0, none⟩) 0 0) 0 [] := ⟨rfl, .inr ⟨_, 0, #[], rfl, by omega, by rw [hw0]; exact boxed3_2 _ _ _ _, by decide, by decide, rfl, rfl⟩⟩
    have b0 : Below w.heap.size w w0 := by rw [hw0]; exact (by repeat (first | exact Below.refl _ _ | assumption | (refine Below.trans ?_ (Below.mono (by assumption) (by first | omega | (simp; done) | (simp; omega)))) | (with_reducible refine Below.drew ?_) | (with_reducible refine Below.alloc ?_ (by first | omega | (simp; done) | (simp; omega)) _) | (with_reducible refine Below.setCell ?_ (by first | omega | (simp; done) | (simp; omega)) _)))
    have s0 : w.heap.size + 3 = w0.heap.size := by rw [hw0]; simp
    have S0 := Lib.hid s0
    clear s0 hw0
    go_wp2_with (at_builtin; refine wpList_append_own _ rfl _ _ 27 rfl w.heap.size 3 i0 _ 1 8 Try.underlying27 hi hz0 hz1 hz2 rfl (by decide) _ _ _ rfl hown ⟨w.heap.size + 1, 0, none⟩ 0 3 [] rfl rfl ?c1 ?c2 ?c3 ?c4 ?c5 ?_)
    case c1 => exact cells_row X1.out [.int .i64 a, .int .i64 b, .int .i64 c] rfl
    case c2 => exact fun u hu => List.all_eq_true.1 (by rfl) u hu
    case c3 => decide
    case c4 => decide
    case c5 => have := S0.out; omega
    intro v' w3 hown' hgrow _
    clear hown
    go_wp2
    go_ret
    exact ⟨v', rfl, hown', b0.grown hgrow (by have := S0.out; omega) (by intro q hq; simp [Value.ownBlock] at hq; omega), by have := hgrow.size; have := S0.out; omega⟩
  · go_enter Try.func49, Try.ntmps49
    go_wp2_with fail
    refine (Arity_spec _ _).mono ?_
    rintro e w' ⟨rfl, rfl⟩
    rw [← HM.out]
    obtain ⟨w0, hw0⟩ : ∃ w0, w0 = ((w.alloc (.cells #[.int .i64 k, .int .i64 a, .int .i64 b, .int .i64 c] 72)).alloc (.cells #[.int .i64 a, .int .i64 b, .int .i64 c] 3)).alloc (.cells #[] 3) := ⟨_, rfl⟩
    rw [← hw0]
    have X1 : Hid (w0.heap[w.heap.size + 1]? = some (.cells #[.int .i64 a, .int .i64 b, .int .i64 c] 3 (0, 0))) := by rw [hw0]; exact boxed3_1 _ _ _ _
    have hown : w0.ownsRow w.heap.size 3 1 (.slice (some ⟨w.heap.size + 2, 0, none⟩) 0 0) 0 [] := ⟨rfl, .inr ⟨_, 0, #[], rfl, by omega, by rw [hw0]; exact boxed3_2 _ _ _ _, by decide, by decide, rfl, rfl⟩⟩
    have b0 : Below w.heap.size w w0 := by rw [hw0]; exact (by repeat (first | exact Below.refl _ _ | assumption | (refine Below.trans ?_ (Below.mono (by assumption) (by first | omega | (simp; done) | (simp; omega)))) | (with_reducible refine Below.drew ?_) | (with_reducible refine Below.alloc ?_ (by first | omega | (simp; done) | (simp; omega)) _) | (with_reducible refine Below.setCell ?_ (by first | omega | (simp; done) | (simp; omega)) _)))
    have s0 : w.heap.size + 3 = w0.heap.size := by rw [hw0]; simp
    have S0 := Lib.hid s0
    clear s0 hw0
    go_wp2_with (at_builtin; refine wpList_append_own _ rfl _ _ 27 rfl w.heap.size 3 i0 _ 1 8 Try.underlying27 hi hz0 hz1 hz2 rfl (by decide) _ _ _ rfl hown ⟨w.heap.size + 1, 0, none⟩ 1 3 [.int .i64 a] rfl rfl ?c1 ?c2 ?c3 ?c4 ?c5 ?_)
    case c1 => exact cells_row X1.out [.int .i64 b, .int .i64 c] rfl
    case c2 => exact fun u hu => List.all_eq_true.1 (by rfl) u hu
    case c3 => decide
    case c4 => decide
    case c5 => have := S0.out; omega
    intro v' w3 hown' hgrow _
    clear hown
    go_wp2
    go_ret
    exact ⟨v', rfl, hown', b0.grown hgrow (by have := S0.out; omega) (by intro q hq; simp [Value.ownBlock] at hq; omega), by have := hgrow.size; have := S0.out; omega⟩
  · go_enter Try.func49, Try.ntmps49
    go_wp2_with fail
    refine (Arity_spec _ _).mono ?_
    rintro e w' ⟨rfl, rfl⟩
    rw [← HM.out]
    obtain ⟨w0, hw0⟩ : ∃ w0, w0 = ((w.alloc (.cells #[.int .i64 k, .int .i64 a, .int .i64 b, .int .i64 c] 72)).alloc (.cells #[.int .i64 a, .int .i64 b, .int .i64 c] 3)).alloc (.cells #[] 3) := ⟨_, rfl⟩
    rw [← hw0]
    have X1 : Hid (w0.heap[w.heap.size + 1]? = some (.cells #[.int .i64 a, .int .i64 b, .int .i64 c] 3 (0, 0))) := by rw [hw0]; exact boxed3_1 _ _ _ _
    have hown : w0.ownsRow w.heap.size 3 1 (.slice (some ⟨w.heap.size + 2, 0, none⟩) 0 0) 0 [] := ⟨rfl, .inr ⟨_, 0, #[], rfl, by omega, by rw [hw0]; exact boxed3_2 _ _ _ _, by decide, by decide, rfl, rfl⟩⟩
    have b0 : Below w.heap.size w w0 := by rw [hw0]; exact (by repeat (first | exact Below.refl _ _ | assumption | (refine Below.trans ?_ (Below.mono (by assumption) (by first | omega | (simp; done) | (simp; omega)))) | (with_reducible refine Below.drew ?_) | (with_reducible refine Below.alloc ?_ (by first | omega | (simp; done) | (simp; omega)) _) | (with_reducible refine Below.setCell ?_ (by first | omega | (simp; done) | (simp; omega)) _)))
    have s0 : w.heap.size + 3 = w0.heap.size := by rw [hw0]; simp
    have S0 := Lib.hid s0
    clear s0 hw0
    go_wp2_with (at_builtin; refine wpList_append_own _ rfl _ _ 27 rfl w.heap.size 3 i0 _ 1 8 Try.underlying27 hi hz0 hz1 hz2 rfl (by decide) _ _ _ rfl hown ⟨w.heap.size + 1, 0, none⟩ 2 3 [.int .i64 a, .int .i64 b] rfl rfl ?c1 ?c2 ?c3 ?c4 ?c5 ?_)
    case c1 => exact cells_row X1.out [.int .i64 c] rfl
    case c2 => exact fun u hu => List.all_eq_true.1 (by rfl) u hu
    case c3 => decide
    case c4 => decide
    case c5 => have := S0.out; omega
    intro v' w3 hown' hgrow _
    clear hown
    go_wp2
    go_ret
    exact ⟨v', rfl, hown', b0.grown hgrow (by have := S0.out; omega) (by intro q hq; simp [Value.ownBlock] at hq; omega), by have := hgrow.size; have := S0.out; omega⟩
  · go_enter Try.func49, Try.ntmps49
    go_wp2_with fail
    refine (Arity_spec _ _).mono ?_
    rintro e w' ⟨rfl, rfl⟩
    rw [← HM.out]
    obtain ⟨w0, hw0⟩ : ∃ w0, w0 = ((w.alloc (.cells #[.int .i64 k, .int .i64 a, .int .i64 b, .int .i64 c] 72)).alloc (.cells #[.int .i64 a, .int .i64 b, .int .i64 c] 3)).alloc (.cells #[] 3) := ⟨_, rfl⟩
    rw [← hw0]
    have X1 : Hid (w0.heap[w.heap.size + 1]? = some (.cells #[.int .i64 a, .int .i64 b, .int .i64 c] 3 (0, 0))) := by rw [hw0]; exact boxed3_1 _ _ _ _
    have hown : w0.ownsRow w.heap.size 3 1 (.slice (some ⟨w.heap.size + 2, 0, none⟩) 0 0) 0 [] := ⟨rfl, .inr ⟨_, 0, #[], rfl, by omega, by rw [hw0]; exact boxed3_2 _ _ _ _, by decide, by decide, rfl, rfl⟩⟩
    have b0 : Below w.heap.size w w0 := by rw [hw0]; exact (by repeat (first | exact Below.refl _ _ | assumption | (refine Below.trans ?_ (Below.mono (by assumption) (by first | omega | (simp; done) | (simp; omega)))) | (with_reducible refine Below.drew ?_) | (with_reducible refine Below.alloc ?_ (by first | omega | (simp; done) | (simp; omega)) _) | (with_reducible refine Below.setCell ?_ (by first | omega | (simp; done) | (simp; omega)) _)))
    have s0 : w.heap.size + 3 = w0.heap.size := by rw [hw0]; simp
    have S0 := Lib.hid s0
    clear s0 hw0
    go_wp2_with (at_builtin; refine wpList_append_own _ rfl _ _ 27 rfl w.heap.size 3 i0 _ 1 8 Try.underlying27 hi hz0 hz1 hz2 rfl (by decide) _ _ _ rfl hown ⟨w.heap.size + 1, 0, none⟩ 3 3 [.int .i64 a, .int .i64 b, .int .i64 c] rfl rfl ?c1 ?c2 ?c3 ?c4 ?c5 ?_)
    case c1 => exact cells_row X1.out [] rfl
    case c2 => exact fun u hu => List.all_eq_true.1 (by rfl) u hu
    case c3 => decide
    case c4 => decide
    case c5 => have := S0.out; omega
    intro v' w3 hown' hgrow _
    clear hown
    go_wp2
    go_ret
    exact ⟨v', rfl, hown', b0.grown hgrow (by have := S0.out; omega) (by intro q hq; simp [Value.ownBlock] at hq; omega), by have := hgrow.size; have := S0.out; omega⟩
set_option maxRecDepth 100000 in
set_option maxHeartbeats 2000000 in
theorem IsValidGate_spec_in (k a b c n : Int) (w : World) (hn : inB n 1 4 = true) : Calls Try.prog 45 #[.agg #[.int .i64 k, .int .i64 a, .int .i64 b, .int .i64 c], .int .i64 n] w fun e w' =>
    e = .returned (.bool (validG ⟨k, a, b, c⟩ n)) ∧ Below w.heap.size w w' ∧ w.heap.size ≤ w'.heap.size := by
  have har := ar_le k
  have hnn := inB_iff.1 hn
  go_enter Try.func45, Try.ntmps45
  go_wp2_with fail
  obtain ⟨w0, hw0⟩ : ∃ w0, w0 = w.alloc (.cells #[.int .i64 k, .int .i64 a, .int .i64 b, .int .i64 c] 72) := ⟨_, rfl⟩
  rw [← hw0]
  have X0 : Hid (w0.heap[w.heap.size]? = some (.cells #[.int .i64 k, .int .i64 a, .int .i64 b, .int .i64 c] 72 (0, 0))) := by rw [hw0]; exact boxed1_0 _ _
  have b0 : Below w.heap.size w w0 := by rw [hw0]; exact (by repeat (first | exact Below.refl _ _ | assumption | (refine Below.trans ?_ (Below.mono (by assumption) (by first | omega | (simp; done) | (simp; omega)))) | (with_reducible refine Below.drew ?_) | (with_reducible refine Below.alloc ?_ (by first | omega | (simp; done) | (simp; omega)) _) | (with_reducible refine Below.setCell ?_ (by first | omega | (simp; done) | (simp; omega)) _)))
  have s0 : w.heap.size + 1 = w0.heap.size := by rw [hw0]; simp
  have S0 := Lib.hid s0
  clear hw0 s0
  refine (GateQubits_spec _ _ _ _ _).mono ?_
  rintro e w1 ⟨v1, rfl, own1, b1, s1⟩
  obtain ⟨A1, c1, rfl, hc1, hc1m, r1⟩ := rd_of_own own1
  obtain ⟨p0, p1, p2, p3⟩ := boxcells4 (lay := b1) X0.out
  go_wp2_with fail
  clear p0 p1 p2 p3
  obtain ⟨w2, hw2⟩ : ∃ w2, w2 = w1.alloc (.cells #[.int .i64 a, .int .i64 b, .int .i64 c] 3) := ⟨_, rfl⟩
  rw [← hw2]
  have X2 : Hid (w2.heap[w1.heap.size]? = some (.cells #[.int .i64 a, .int .i64 b, .int .i64 c] 3 (0, 0))) := by rw [hw2]; exact boxed1_0 _ _
  have b2 : Below w1.heap.size w1 w2 := by rw [hw2]; exact (by repeat (first | exact Below.refl _ _ | assumption | (refine Below.trans ?_ (Below.mono (by assumption) (by first | omega | (simp; done) | (simp; omega)))) | (with_reducible refine Below.drew ?_) | (with_reducible refine Below.alloc ?_ (by first | omega | (simp; done) | (simp; omega)) _) | (with_reducible refine Below.setCell ?_ (by first | omega | (simp; done) | (simp; omega)) _)))
  have s2 : w1.heap.size + 1 = w2.heap.size := by rw [hw2]; simp
  have S2 := Lib.hid s2
  have R1 := Lib.hid (r1.below b2)
  have HC := Lib.hid hc1m
  clear hw2 s2 r1 own1
  go_loopw [7] (fun i wr => ∃ t : Nat, t ≤ 3 ∧ i = .int .i64 t ∧ vupto (ar k) n [a, b, c] t = true ∧ Below w2.heap.size w2 wr) (fun i _ => 3 - (intOf i).toNat)
  case atStart => exact ⟨0, by omega, rfl, rfl, Below.refl _ _⟩
  case round =>
    obtain ⟨t, ht, rfl, hv, hbel⟩ := hrel
    have HV := Lib.hid hv
    clear hv
    by_cases hlt : t < 3
    · obtain ⟨q, hq⟩ : ∃ q, q = [a, b, c].getD t 0 := ⟨_, rfl⟩
      have q0 : wr.cell? ⟨w1.heap.size, t, none⟩ = some (.int .i64 q) := (hbel.cell (by have := S2.out; simp; omega)).trans (cell_at X2.out (by
        rw [hq]
        match t, hlt with
        | 0, _ => rfl
        | 1, _ => rfl
        | 2, _ => rfl
        | _ + 3, h => omega))
      have HQ := Lib.hid hq
      clear hq
      have hlt' : (t : Int) < 3 := by omega
      by_cases hmt : ar k ≤ t
      · have d1 : decide (ar k ≤ t) = true := by simpa using hmt
        have d2 : decide (t < ar k) = false := by simp; omega
        cases hz : (q == 0)
        · have hz' : (q != 0) = true := by rw [bne, hz]; rfl
          have HF := Lib.hid (validG_f (g := ⟨k, a, b, c⟩) (n := n) (t := t) (vstep_hi_f hmt (by rw [← hz, HQ.out]; rfl)) hlt)
          go_wp2_with fail
          go_quiet (fail)
          go_wp2_with fail
          go_ret
          exact ⟨by rw [HF.out]; rfl, ((b0.trans (b1.mono (by have := S0.out; omega))).trans (b2.mono (by have := S0.out; omega))).trans (below_drewN (hbel.mono (by have := S0.out; have := S2.out; omega)) _), by have := hbel.size; have := S0.out; have := S2.out; simp; omega⟩
        · have hz' : (q != 0) = false := by rw [bne, hz]; rfl
          go_wp2_with fail
          go_quiet (fail)
          go_wp2_with fail
          go_roundw
          case rel => exact ⟨t + 1, by omega, by go_num, by simp [vupto, HV.out]; exact vstep_hi_t hmt (by rw [← hz, HQ.out]), below_drewN hbel _⟩
          case measure => simp [intOf]; omega
      · have hmt' : t < ar k := by omega
        have d1 : decide (ar k ≤ t) = false := by simp; omega
        have d2 : decide (t < ar k) = true := by simp; omega
        obtain ⟨b', off', rfl, hl', _⟩ := R1.out.2 (by omega)
        have RT : Hid (Rd wr 1 (some ⟨b', off', none⟩) t (([a, b, c].take t).map (Value.int .i64))) := by
          have h := (R1.out.below hbel).take (t := t) (by omega)
          rw [← List.map_take, List.take_take, show min t (ar k) = t from by omega] at h
          exact h
        have HL : Hid (([a, b, c].take t).length = t) := by
          show ([a, b, c].take t).length = t
          rw [List.length_take]; simp; omega
        have tc : t ≤ c1 := by omega
        cases h1 : inB q 0 (n - 1)
        · have HF := Lib.hid (validG_f (g := ⟨k, a, b, c⟩) (n := n) (t := t) (vstep_in_f hmt' (by rw [← h1, HQ.out]; rfl)) hlt)
          clear hmt
          go_wp2_with fail
          go_quiet (first | (go_at_call 29; exact quiet_left (l1In_any _ _ _ _)) | (go_at_call 30; exact quiet_left (l1HasInt_any _ _ _ ([a, b, c].take t) _ _ (RT.out.drewN _) HL.out (by omega))))
          go_wp2_with fail
          go_ret
          exact ⟨by rw [HF.out]; rfl, ((b0.trans (b1.mono (by have := S0.out; omega))).trans (b2.mono (by have := S0.out; omega))).trans (below_drewN (hbel.mono (by have := S0.out; have := S2.out; omega)) _), by have := hbel.size; have := S0.out; have := S2.out; simp; omega⟩
        · cases h2 : hasI ([a, b, c].take t) q
          · have HV2 := Lib.hid (vstep_lo_t (n := n) (qs := [a, b, c]) hmt' (by rw [← h1, HQ.out]) (by rw [← h2, HQ.out]; rfl))
            clear hmt
            go_wp2_with fail
            go_quiet (first | (go_at_call 29; exact quiet_left (l1In_any _ _ _ _)) | (go_at_call 30; exact quiet_left (l1HasInt_any _ _ _ ([a, b, c].take t) _ _ (RT.out.drewN _) HL.out (by omega))))
            go_wp2_with fail
            go_roundw
            case rel => exact ⟨t + 1, by omega, by go_num, by simp [vupto, HV.out, HV2.out], below_drewN hbel _⟩
            case measure => simp [intOf]; omega
          · have HF := Lib.hid (validG_f (g := ⟨k, a, b, c⟩) (n := n) (t := t) (vstep_seen_f hmt' (by rw [← h2, HQ.out]; rfl)) hlt)
            clear hmt
            go_wp2_with fail
            go_quiet (first | (go_at_call 29; exact quiet_left (l1In_any _ _ _ _)) | (go_at_call 30; exact quiet_left (l1HasInt_any _ _ _ ([a, b, c].take t) _ _ (RT.out.drewN _) HL.out (by omega))))
            go_wp2_with fail
            go_ret
            exact ⟨by rw [HF.out]; rfl, ((b0.trans (b1.mono (by have := S0.out; omega))).trans (b2.mono (by have := S0.out; omega))).trans (below_drewN (hbel.mono (by have := S0.out; have := S2.out; omega)) _), by have := hbel.size; have := S0.out; have := S2.out; simp; omega⟩
    · obtain rfl : t = 3 := by omega
      by_cases hk : ar k = 0
      · have HF := Lib.hid (validG_k (g := ⟨k, a, b, c⟩) (n := n) hk)
        have hk' : decide (0 < ar k) = false := by simp [hk]
        have HK := Lib.hid hk
        clear hk
        go_wp2_with (go_at_call 29; refine (l1In_any _ _ _ _).mono ?_; rintro e w' ⟨rfl, rfl⟩)
        go_ret
        exact ⟨by rw [HF.out]; rfl, ((b0.trans (b1.mono (by have := S0.out; omega))).trans (b2.mono (by have := S0.out; omega))).trans (hbel.mono (by have := S0.out; have := S2.out; omega)), by have := hbel.size; have := S0.out; have := S2.out; omega⟩
      · have HF := Lib.hid (validG_t (g := ⟨k, a, b, c⟩) hn hk HV.out)
        have hk' : decide (0 < ar k) = true := by simp; omega
        have HK := Lib.hid hk
        clear hk
        go_wp2_with (go_at_call 29; refine (l1In_any _ _ _ _).mono ?_; rintro e w' ⟨rfl, rfl⟩)
        go_ret
        exact ⟨by rw [HF.out]; rfl, ((b0.trans (b1.mono (by have := S0.out; omega))).trans (b2.mono (by have := S0.out; omega))).trans (hbel.mono (by have := S0.out; have := S2.out; omega)), by have := hbel.size; have := S0.out; have := S2.out; omega⟩
set_option maxRecDepth 100000 in
set_option maxHeartbeats 2000000 in
theorem IsValidGate_spec_out (k a b c n : Int) (w : World) (hn : inB n 1 4 = false) : Calls Try.prog 45 #[.agg #[.int .i64 k, .int .i64 a, .int .i64 b, .int .i64 c], .int .i64 n] w fun e w' =>
    e = .returned (.bool (validG ⟨k, a, b, c⟩ n)) ∧ Below w.heap.size w w' ∧ w.heap.size ≤ w'.heap.size := by
  have har := ar_le k
  have HF := Lib.hid (validG_n (g := ⟨k, a, b, c⟩) hn)
  go_enter Try.func45, Try.ntmps45
  go_wp2_with fail
  obtain ⟨w0, hw0⟩ : ∃ w0, w0 = w.alloc (.cells #[.int .i64 k, .int .i64 a, .int .i64 b, .int .i64 c] 72) := ⟨_, rfl⟩
  rw [← hw0]
  have X0 : Hid (w0.heap[w.heap.size]? = some (.cells #[.int .i64 k, .int .i64 a, .int .i64 b, .int .i64 c] 72 (0, 0))) := by rw [hw0]; exact boxed1_0 _ _
  have b0 : Below w.heap.size w w0 := by rw [hw0]; exact (by repeat (first | exact Below.refl _ _ | assumption | (refine Below.trans ?_ (Below.mono (by assumption) (by first | omega | (simp; done) | (simp; omega)))) | (with_reducible refine Below.drew ?_) | (with_reducible refine Below.alloc ?_ (by first | omega | (simp; done) | (simp; omega)) _) | (with_reducible refine Below.setCell ?_ (by first | omega | (simp; done) | (simp; omega)) _)))
  have s0 : w.heap.size + 1 = w0.heap.size := by rw [hw0]; simp
  have S0 := Lib.hid s0
  clear hw0 s0
  refine (GateQubits_spec _ _ _ _ _).mono ?_
  rintro e w1 ⟨v1, rfl, own1, b1, s1⟩
  obtain ⟨A1, c1, rfl, hc1, hc1m, r1⟩ := rd_of_own own1
  obtain ⟨p0, p1, p2, p3⟩ := boxcells4 (lay := b1) X0.out
  go_wp2_with fail
  clear p0 p1 p2 p3
  obtain ⟨w2, hw2⟩ : ∃ w2, w2 = w1.alloc (.cells #[.int .i64 a, .int .i64 b, .int .i64 c] 3) := ⟨_, rfl⟩
  rw [← hw2]
  have X2 : Hid (w2.heap[w1.heap.size]? = some (.cells #[.int .i64 a, .int .i64 b, .int .i64 c] 3 (0, 0))) := by rw [hw2]; exact boxed1_0 _ _
  have b2 : Below w1.heap.size w1 w2 := by rw [hw2]; exact (by repeat (first | exact Below.refl _ _ | assumption | (refine Below.trans ?_ (Below.mono (by assumption) (by first | omega | (simp; done) | (simp; omega)))) | (with_reducible refine Below.drew ?_) | (with_reducible refine Below.alloc ?_ (by first | omega | (simp; done) | (simp; omega)) _) | (with_reducible refine Below.setCell ?_ (by first | omega | (simp; done) | (simp; omega)) _)))
  have s2 : w1.heap.size + 1 = w2.heap.size := by rw [hw2]; simp
  have S2 := Lib.hid s2
  have R1 := Lib.hid (r1.below b2)
  have HC := Lib.hid hc1m
  clear hw2 s2 r1 own1
  go_loopw [7] (fun i wr => ∃ t : Nat, t ≤ 3 ∧ i = .int .i64 t ∧ Below w2.heap.size w2 wr) (fun i _ => 3 - (intOf i).toNat)
  case atStart => exact ⟨0, by omega, rfl, Below.refl _ _⟩
  case round =>
    obtain ⟨t, ht, rfl, hbel⟩ := hrel
    by_cases hlt : t < 3
    · obtain ⟨q, hq⟩ : ∃ q, q = [a, b, c].getD t 0 := ⟨_, rfl⟩
      have q0 : wr.cell? ⟨w1.heap.size, t, none⟩ = some (.int .i64 q) := (hbel.cell (by have := S2.out; simp; omega)).trans (cell_at X2.out (by
        rw [hq]
        match t, hlt with
        | 0, _ => rfl
        | 1, _ => rfl
        | 2, _ => rfl
        | _ + 3, h => omega))
      have HQ := Lib.hid hq
      clear hq
      have hlt' : (t : Int) < 3 := by omega
      by_cases hmt : ar k ≤ t
      · have d1 : decide (ar k ≤ t) = true := by simpa using hmt
        have d2 : decide (t < ar k) = false := by simp; omega
        cases hz : (q == 0)
        · have hz' : (q != 0) = true := by rw [bne, hz]; rfl
          go_wp2_with fail
          go_quiet (fail)
          go_wp2_with fail
          go_ret
          exact ⟨by rw [HF.out]; rfl, ((b0.trans (b1.mono (by have := S0.out; omega))).trans (b2.mono (by have := S0.out; omega))).trans (below_drewN (hbel.mono (by have := S0.out; have := S2.out; omega)) _), by have := hbel.size; have := S0.out; have := S2.out; simp; omega⟩
        · have hz' : (q != 0) = false := by rw [bne, hz]; rfl
          go_wp2_with fail
          go_quiet (fail)
          go_wp2_with fail
          go_roundw
          case rel => exact ⟨t + 1, by omega, by go_num, below_drewN hbel _⟩
          case measure => simp [intOf]; omega
      · have hmt' : t < ar k := by omega
        have d1 : decide (ar k ≤ t) = false := by simp; omega
        have d2 : decide (t < ar k) = true := by simp; omega
        obtain ⟨b', off', rfl, hl', _⟩ := R1.out.2 (by omega)
        have RT : Hid (Rd wr 1 (some ⟨b', off', none⟩) t (([a, b, c].take t).map (Value.int .i64))) := by
          have h := (R1.out.below hbel).take (t := t) (by omega)
          rw [← List.map_take, List.take_take, show min t (ar k) = t from by omega] at h
          exact h
        have HL : Hid (([a, b, c].take t).length = t) := by
          show ([a, b, c].take t).length = t
          rw [List.length_take]; simp; omega
        have tc : t ≤ c1 := by omega
        cases h1 : inB q 0 (wrap64 (n - 1))
        · clear hmt
          go_wp2_with fail
          go_quiet (first | (go_at_call 29; exact quiet_left (l1In_any _ _ _ _)) | (go_at_call 30; exact quiet_left (l1HasInt_any _ _ _ ([a, b, c].take t) _ _ (RT.out.drewN _) HL.out (by omega))))
          go_wp2_with fail
          go_ret
          exact ⟨by rw [HF.out]; rfl, ((b0.trans (b1.mono (by have := S0.out; omega))).trans (b2.mono (by have := S0.out; omega))).trans (below_drewN (hbel.mono (by have := S0.out; have := S2.out; omega)) _), by have := hbel.size; have := S0.out; have := S2.out; simp; omega⟩
        · cases h2 : hasI ([a, b, c].take t) q
          · clear hmt
            go_wp2_with fail
            go_quiet (first | (go_at_call 29; exact quiet_left (l1In_any _ _ _ _)) | (go_at_call 30; exact quiet_left (l1HasInt_any _ _ _ ([a, b, c].take t) _ _ (RT.out.drewN _) HL.out (by omega))))
            go_wp2_with fail
            go_roundw
            case rel => exact ⟨t + 1, by omega, by go_num, below_drewN hbel _⟩
            case measure => simp [intOf]; omega
          · clear hmt
            go_wp2_with fail
            go_quiet (first | (go_at_call 29; exact quiet_left (l1In_any _ _ _ _)) | (go_at_call 30; exact quiet_left (l1HasInt_any _ _ _ ([a, b, c].take t) _ _ (RT.out.drewN _) HL.out (by omega))))
            go_wp2_with fail
            go_ret
            exact ⟨by rw [HF.out]; rfl, ((b0.trans (b1.mono (by have := S0.out; omega))).trans (b2.mono (by have := S0.out; omega))).trans (below_drewN (hbel.mono (by have := S0.out; have := S2.out; omega)) _), by have := hbel.size; have := S0.out; have := S2.out; simp; omega⟩
    · obtain rfl : t = 3 := by omega
      by_cases hk : ar k = 0
      · have hk' : decide (0 < ar k) = false := by simp [hk]
        have HK := Lib.hid hk
        clear hk
        go_wp2_with (go_at_call 29; refine (l1In_any _ _ _ _).mono ?_; rintro e w' ⟨rfl, rfl⟩)
        go_ret
        exact ⟨by rw [HF.out]; rfl, ((b0.trans (b1.mono (by have := S0.out; omega))).trans (b2.mono (by have := S0.out; omega))).trans (hbel.mono (by have := S0.out; have := S2.out; omega)), by have := hbel.size; have := S0.out; have := S2.out; omega⟩
      · have hk' : decide (0 < ar k) = true := by simp; omega
        have HK := Lib.hid hk
        clear hk
        go_wp2_with (go_at_call 29; refine (l1In_any _ _ _ _).mono ?_; rintro e w' ⟨rfl, rfl⟩)
        go_ret
        exact ⟨by rw [HF.out]; rfl, ((b0.trans (b1.mono (by have := S0.out; omega))).trans (b2.mono (by have := S0.out; omega))).trans (hbel.mono (by have := S0.out; have := S2.out; omega)), by have := hbel.size; have := S0.out; have := S2.out; omega⟩
theorem IsValidGate_spec (k a b c n : Int) (w : World) : Calls Try.prog 45 #[.agg #[.int .i64 k, .int .i64 a, .int .i64 b, .int .i64 c], .int .i64 n] w fun e w' =>
    e = .returned (.bool (validG ⟨k, a, b, c⟩ n)) ∧ Below w.heap.size w w' ∧ w.heap.size ≤ w'.heap.size := by
  cases hn : inB n 1 4
  · exact IsValidGate_spec_out k a b c n w hn
  · exact IsValidGate_spec_in k a b c n w hn
end Go.Proofs.Ytgjpicekdbemiac
namespace Go.Proofs.Ytgjpicekdbemiac
open Go.RowKit
set_option linter.unusedVariables false
def bt (i q : Nat) : Bool := (i / 2 ^ q) % 2 == 1
def fl (i q : Nat) : Nat := if bt i q = true then i - 2 ^ q else i + 2 ^ q
def zph : Nat → Zw
  | 0 => ⟨1, 0, 0, 0⟩
  | 1 => ⟨0, 1, 0, 0⟩
  | 2 => ⟨0, 0, 1, 0⟩
  | 3 => ⟨0, 0, 0, 1⟩
  | 4 => ⟨-1, 0, 0, 0⟩
  | 5 => ⟨0, -1, 0, 0⟩
  | 6 => ⟨0, 0, -1, 0⟩
  | _ => ⟨0, 0, 0, -1⟩
/-- Where an amplitude at i goes: places, each with a factor y / sqrt(2)^e. -/
structure Snt where
  j : Nat
  y : Zw
  e : Nat
def goes (g : Gt) (i : Nat) : List Snt :=
  if g.k = 1 then [⟨fl i g.a.toNat, zph 0, 0⟩]
  else if g.k = 2 then [⟨fl i g.a.toNat, zph (if bt i g.a.toNat = true then 6 else 2), 0⟩]
  else if g.k = 3 then [⟨i, zph (if bt i g.a.toNat = true then 4 else 0), 0⟩]
  else if g.k = 5 then [⟨i, zph (if bt i g.a.toNat = true then 2 else 0), 0⟩]
  else if g.k = 6 then [⟨i, zph (if bt i g.a.toNat = true then 6 else 0), 0⟩]
  else if g.k = 7 then [⟨i, zph (if bt i g.a.toNat = true then 1 else 0), 0⟩]
  else if g.k = 8 then [⟨i, zph (if bt i g.a.toNat = true then 7 else 0), 0⟩]
  else if g.k = 9 then [⟨if bt i g.a.toNat = true then fl i g.b.toNat else i, zph 0, 0⟩]
  else if g.k = 10 then [⟨i, zph (if (bt i g.a.toNat && bt i g.b.toNat) = true then 4 else 0), 0⟩]
  else if g.k = 12 then [⟨if (bt i g.a.toNat && bt i g.b.toNat) = true then fl i g.c.toNat else i, zph 0, 0⟩]
  else if g.k = 11 then [⟨if bt i g.a.toNat != bt i g.b.toNat then fl (fl i g.a.toNat) g.b.toNat else i, zph 0, 0⟩]
  else [⟨if bt i g.a.toNat = true then fl i g.a.toNat else i, zph 0, 1⟩, ⟨if bt i g.a.toNat = true then i else fl i g.a.toNat, zph (if bt i g.a.toNat = true then 4 else 0), 1⟩]
def sby (s : Snt) : Dm := dmk s.y s.e
/-- Adding to one place. -/
def put1 (x : Dm) (o : List Dm) (s : Snt) : Option (List Dm) := match mulD x (sby s) with
  | none => none
  | some p => match addD (o.getD s.j d0) p with
    | none => none
    | some y => some (o.set s.j y)
def puts (x : Dm) : List Dm → List Snt → Option (List Dm)
  | o, [] => some o
  | o, s :: r => match put1 x o s with
    | none => none
    | some o' => puts x o' r
def isZ (x : Dm) : Bool := x.a == 0 && (x.b == 0 && (x.c == 0 && (x.d == 0 && x.e == 0)))
def apS (g : Gt) (v : List Dm) : Nat → Option (List Dm)
  | 0 => some (List.replicate v.length d0)
  | i + 1 => match apS g v i with
    | none => none
    | some o => if isZ (v.getD i d0) = true then some o else puts (v.getD i d0) o (goes g i)
/-- How many qubits a state has, by its length. -/
def qc (n : Nat) : Nat := if n = 2 then 1 else if n = 4 then 2 else if n = 8 then 3 else if n = 16 then 4 else 0
def stOk (v : List Dm) : Bool := v.all dOk && decide (0 < qc v.length)
def apG (g : Gt) (v : List Dm) : Option (List Dm) := if (stOk v && validG g (qc v.length)) = true then apS g v v.length else none
theorem put1_len {x : Dm} {o o' : List Dm} {s : Snt} (h : put1 x o s = some o') : o'.length = o.length := by
  unfold put1 at h
  cases h1 : mulD x (sby s) with
  | none => rw [h1] at h; cases h
  | some p =>
    rw [h1] at h
    cases h2 : addD (o.getD s.j d0) p with
    | none => simp only [h2] at h; cases h
    | some y =>
      simp only [h2] at h
      injection h with h
      subst h
      simp
theorem puts_len {x : Dm} : ∀ {L : List Snt} {o o' : List Dm}, puts x o L = some o' → o'.length = o.length
  | [], o, o', h => by
    rw [puts] at h
    injection h with h
    rw [h]
  | s :: r, o, o', h => by
    rw [puts] at h
    cases h1 : put1 x o s with
    | none => rw [h1] at h; cases h
    | some o1 =>
      rw [h1] at h
      exact (puts_len h).trans (put1_len h1)
theorem apS_len {g : Gt} {v : List Dm} : ∀ {i : Nat} {o : List Dm}, apS g v i = some o → o.length = v.length
  | 0, o, h => by
    rw [apS] at h
    injection h with h
    rw [← h]; simp
  | i + 1, o, h => by
    rw [apS] at h
    cases h1 : apS g v i with
    | none => rw [h1] at h; cases h
    | some o1 =>
      rw [h1] at h
      simp only at h
      split at h
      · injection h with h
        rw [← h]
        exact apS_len h1
      · exact (puts_len h).trans (apS_len h1)
theorem apG_len {g : Gt} {v o : List Dm} (h : apG g v = some o) : o.length = v.length := by
  unfold apG at h
  split at h
  · exact apS_len h
  · cases h
theorem apS_none {g : Gt} {v : List Dm} {i : Nat} (h : apS g v i = none) : ∀ k, apS g v (i + k) = none
  | 0 => h
  | k + 1 => by
    rw [← Nat.add_assoc, apS, apS_none h k]
theorem qc_iff {m : Nat} : 0 < qc m ↔ m = 2 ∨ m = 4 ∨ m = 8 ∨ m = 16 := by
  unfold qc
  repeat' split
  all_goals omega
end Go.Proofs.Ytgjpicekdbemiac
namespace Go.Proofs.Ytgjpicekdbemiac
open Go.RowKit
set_option linter.unusedVariables false
def scells (s : Snt) : List Value := [.int .i64 s.j, .int .i64 s.y.a, .int .i64 s.y.b, .int .i64 s.y.c, .int .i64 s.y.d, .int .i64 s.e]
theorem scells_len (s : Snt) : (scells s).length = 6 := rfl
set_option maxRecDepth 100000 in
set_option maxHeartbeats 4000000 in
theorem PhaseFactor_any (p : Nat) (hp : p < 8) (w : World) : Calls Try.prog 56 #[.int .i64 p] w (Ret (.agg #[.int .i64 (zph p).a, .int .i64 (zph p).b, .int .i64 (zph p).c, .int .i64 (zph p).d, .int .i64 0]) w) := by
  obtain rfl | rfl | rfl | rfl | rfl | rfl | rfl | rfl : p = 0 ∨ p = 1 ∨ p = 2 ∨ p = 3 ∨ p = 4 ∨ p = 5 ∨ p = 6 ∨ p = 7 := by omega
  · go_enter Try.func56, Try.ntmps56
    go_wp2_with fail
    exact bodyPost_ret (v := .agg #[.int .i64 (1), .int .i64 (0), .int .i64 (0), .int .i64 (0), .int .i64 0]) (by simp [results, Try.results56, go_sem]) rfl ⟨rfl, (by repeat (first | exact Below.refl _ _ | assumption | (refine Below.trans ?_ (Below.mono (by assumption) (by first | omega | (simp; done) | (simp; omega)))) | (with_reducible refine Below.drew ?_) | (with_reducible refine Below.alloc ?_ (by first | omega | (simp; done) | (simp; omega)) _) | (with_reducible refine Below.setCell ?_ (by first | omega | (simp; done) | (simp; omega)) _))), (by first | omega | (simp; done) | (simp; omega))⟩
  · go_enter Try.func56, Try.ntmps56
    go_wp2_with fail
    exact bodyPost_ret (v := .agg #[.int .i64 (0), .int .i64 (1), .int .i64 (0), .int .i64 (0), .int .i64 0]) (by simp [results, Try.results56, go_sem]) rfl ⟨rfl, (by repeat (first | exact Below.refl _ _ | assumption | (refine Below.trans ?_ (Below.mono (by assumption) (by first | omega | (simp; done) | (simp; omega)))) | (with_reducible refine Below.drew ?_) | (with_reducible refine Below.alloc ?_ (by first | omega | (simp; done) | (simp; omega)) _) | (with_reducible refine Below.setCell ?_ (by first | omega | (simp; done) | (simp; omega)) _))), (by first | omega | (simp; done) | (simp; omega))⟩
  · go_enter Try.func56, Try.ntmps56
    go_wp2_with fail
    exact bodyPost_ret (v := .agg #[.int .i64 (0), .int .i64 (0), .int .i64 (1), .int .i64 (0), .int .i64 0]) (by simp [results, Try.results56, go_sem]) rfl ⟨rfl, (by repeat (first | exact Below.refl _ _ | assumption | (refine Below.trans ?_ (Below.mono (by assumption) (by first | omega | (simp; done) | (simp; omega)))) | (with_reducible refine Below.drew ?_) | (with_reducible refine Below.alloc ?_ (by first | omega | (simp; done) | (simp; omega)) _) | (with_reducible refine Below.setCell ?_ (by first | omega | (simp; done) | (simp; omega)) _))), (by first | omega | (simp; done) | (simp; omega))⟩
  · go_enter Try.func56, Try.ntmps56
    go_wp2_with fail
    exact bodyPost_ret (v := .agg #[.int .i64 (0), .int .i64 (0), .int .i64 (0), .int .i64 (1), .int .i64 0]) (by simp [results, Try.results56, go_sem]) rfl ⟨rfl, (by repeat (first | exact Below.refl _ _ | assumption | (refine Below.trans ?_ (Below.mono (by assumption) (by first | omega | (simp; done) | (simp; omega)))) | (with_reducible refine Below.drew ?_) | (with_reducible refine Below.alloc ?_ (by first | omega | (simp; done) | (simp; omega)) _) | (with_reducible refine Below.setCell ?_ (by first | omega | (simp; done) | (simp; omega)) _))), (by first | omega | (simp; done) | (simp; omega))⟩
  · go_enter Try.func56, Try.ntmps56
    go_wp2_with fail
    exact bodyPost_ret (v := .agg #[.int .i64 (-1), .int .i64 (0), .int .i64 (0), .int .i64 (0), .int .i64 0]) (by simp [results, Try.results56, go_sem]) rfl ⟨rfl, (by repeat (first | exact Below.refl _ _ | assumption | (refine Below.trans ?_ (Below.mono (by assumption) (by first | omega | (simp; done) | (simp; omega)))) | (with_reducible refine Below.drew ?_) | (with_reducible refine Below.alloc ?_ (by first | omega | (simp; done) | (simp; omega)) _) | (with_reducible refine Below.setCell ?_ (by first | omega | (simp; done) | (simp; omega)) _))), (by first | omega | (simp; done) | (simp; omega))⟩
  · go_enter Try.func56, Try.ntmps56
    go_wp2_with fail
    exact bodyPost_ret (v := .agg #[.int .i64 (0), .int .i64 (-1), .int .i64 (0), .int .i64 (0), .int .i64 0]) (by simp [results, Try.results56, go_sem]) rfl ⟨rfl, (by repeat (first | exact Below.refl _ _ | assumption | (refine Below.trans ?_ (Below.mono (by assumption) (by first | omega | (simp; done) | (simp; omega)))) | (with_reducible refine Below.drew ?_) | (with_reducible refine Below.alloc ?_ (by first | omega | (simp; done) | (simp; omega)) _) | (with_reducible refine Below.setCell ?_ (by first | omega | (simp; done) | (simp; omega)) _))), (by first | omega | (simp; done) | (simp; omega))⟩
  · go_enter Try.func56, Try.ntmps56
    go_wp2_with fail
    exact bodyPost_ret (v := .agg #[.int .i64 (0), .int .i64 (0), .int .i64 (-1), .int .i64 (0), .int .i64 0]) (by simp [results, Try.results56, go_sem]) rfl ⟨rfl, (by repeat (first | exact Below.refl _ _ | assumption | (refine Below.trans ?_ (Below.mono (by assumption) (by first | omega | (simp; done) | (simp; omega)))) | (with_reducible refine Below.drew ?_) | (with_reducible refine Below.alloc ?_ (by first | omega | (simp; done) | (simp; omega)) _) | (with_reducible refine Below.setCell ?_ (by first | omega | (simp; done) | (simp; omega)) _))), (by first | omega | (simp; done) | (simp; omega))⟩
  · go_enter Try.func56, Try.ntmps56
    go_wp2_with fail
    exact bodyPost_ret (v := .agg #[.int .i64 (0), .int .i64 (0), .int .i64 (0), .int .i64 (-1), .int .i64 0]) (by simp [results, Try.results56, go_sem]) rfl ⟨rfl, (by repeat (first | exact Below.refl _ _ | assumption | (refine Below.trans ?_ (Below.mono (by assumption) (by first | omega | (simp; done) | (simp; omega)))) | (with_reducible refine Below.drew ?_) | (with_reducible refine Below.alloc ?_ (by first | omega | (simp; done) | (simp; omega)) _) | (with_reducible refine Below.setCell ?_ (by first | omega | (simp; done) | (simp; omega)) _))), (by first | omega | (simp; done) | (simp; omega))⟩
set_option maxRecDepth 100000 in
theorem InvSqrt2Power_1 (w : World) : Calls Try.prog 58 #[.int .i64 1] w (Ret (.agg #[.int .i64 1, .int .i64 0, .int .i64 0, .int .i64 0, .int .i64 1]) w) := by
  have h : inB 1 0 60 = true := by decide
  go_enter Try.func58, Try.ntmps58
  go_wp2_with (go_at_call 29; refine (l1In_any _ _ _ _).mono ?_; rw [h]; rintro e w' ⟨rfl, rfl⟩)
  exact bodyPost_ret (v := .agg #[.int .i64 1, .int .i64 0, .int .i64 0, .int .i64 0, .int .i64 1]) (by simp [results, Try.results58, go_sem]) rfl ⟨rfl, (by repeat (first | exact Below.refl _ _ | assumption | (refine Below.trans ?_ (Below.mono (by assumption) (by first | omega | (simp; done) | (simp; omega)))) | (with_reducible refine Below.drew ?_) | (with_reducible refine Below.alloc ?_ (by first | omega | (simp; done) | (simp; omega)) _) | (with_reducible refine Below.setCell ?_ (by first | omega | (simp; done) | (simp; omega)) _))), (by first | omega | (simp; done) | (simp; omega))⟩
set_option maxRecDepth 100000 in
set_option maxHeartbeats 2000000 in
theorem NegZOmega_1 (w : World) : Calls Try.prog 67 #[.agg #[.int .i64 1, .int .i64 0, .int .i64 0, .int .i64 0]] w (Ret (.agg #[.int .i64 (-1), .int .i64 0, .int .i64 0, .int .i64 0]) w) := by
  have h : zOk ⟨1, 0, 0, 0⟩ = true := by decide
  go_enter Try.func67, Try.ntmps67
  go_wp2_with (go_at_call 66; refine (IsValidZOmega_any _ _ _ _ _).mono ?_; rw [h]; rintro e w1 ⟨rfl, rfl⟩)
  exact bodyPost_ret (v := .agg #[.int .i64 (-1), .int .i64 0, .int .i64 0, .int .i64 0]) (by simp [results, Try.results67, go_sem]) rfl ⟨rfl, (by repeat (first | exact Below.refl _ _ | assumption | (refine Below.trans ?_ (Below.mono (by assumption) (by first | omega | (simp; done) | (simp; omega)))) | (with_reducible refine Below.drew ?_) | (with_reducible refine Below.alloc ?_ (by first | omega | (simp; done) | (simp; omega)) _) | (with_reducible refine Below.setCell ?_ (by first | omega | (simp; done) | (simp; omega)) _))), (by first | omega | (simp; done) | (simp; omega))⟩
end Go.Proofs.Ytgjpicekdbemiac
namespace Go.Proofs.Ytgjpicekdbemiac
open Go.RowKit
set_option linter.unusedVariables false
def icells (i : Int) (y : Zw) : List Value := [.int .i64 i, .int .i64 y.a, .int .i64 y.b, .int .i64 y.c, .int .i64 y.d, .int .i64 0]
def xfl (i : Int) (q : Nat) : Int := bits BinOp.xor IntKind.i64 i (wrap64 (2 ^ q))
def bti (i q : Nat) : Bool := bits BinOp.and IntKind.i64 ((i : Int) / 2 ^ q) 1 == 1
theorem xfl_all : ((List.range 16).all fun i => (List.range 4).all fun q => decide (xfl (i : Nat) q = (fl i q : Nat)) && decide (bti i q = bt i q)) = true := by decide +kernel
theorem xfl_nat {i q : Nat} (hi : i < 16) (hq : q < 4) : xfl (i : Nat) q = (fl i q : Nat) := by
  have h := List.all_eq_true.1 (List.all_eq_true.1 xfl_all i (List.mem_range.2 hi)) q (List.mem_range.2 hq)
  simp only [Bool.and_eq_true, decide_eq_true_eq] at h
  exact h.1
theorem bti_nat {i q : Nat} (hi : i < 16) (hq : q < 4) : bti i q = bt i q := by
  have h := List.all_eq_true.1 (List.all_eq_true.1 xfl_all i (List.mem_range.2 hi)) q (List.mem_range.2 hq)
  simp only [Bool.and_eq_true, decide_eq_true_eq] at h
  exact h.2
theorem own_lowS {w : World} {B B' e size n : Nat} {v : Value} {xs : List Value} (h : w.ownsRow B e size v n xs) (hB : B' ≤ B) : w.ownsRow B' e size v n xs := by
  refine ⟨h.1, ?_⟩
  rcases h.2 with h2 | ⟨g, cap, cur, h1, h2, h3⟩
  · exact .inl h2
  · exact .inr ⟨g, cap, cur, h1, Nat.le_trans hB h2, h3⟩
set_option maxRecDepth 100000 in
set_option maxHeartbeats 2000000 in
theorem l10Phase_any (i : Int) (turn : Bool) (p : Nat) (hp : p < 8) (w : World) : Calls Try.prog 57 #[.int .i64 i, .bool turn, .int .i64 p] w (RetRow 98 6 w 1 (icells i (zph (if turn = true then p else 0)))) := by
  cases turn
  · rw [if_neg (by decide)]
    go_enter Try.func57, Try.ntmps57
    go_wp2_with fail
    refine (PhaseFactor_any 0 (by decide) _).mono ?_
    rintro e w1 ⟨rfl, hb, hs⟩
    go_wp2_with fail
    go_ret
    refine retRow_lit ?_ ?_ ?_ ?_ ?_ ?_
    · exact (by first | omega | (simp; done) | (simp; omega))
    · exact (by repeat (first | exact Below.refl _ _ | assumption | (refine Below.trans ?_ (Below.mono (by assumption) (by first | omega | (simp; done) | (simp; omega)))) | (with_reducible refine Below.drew ?_) | (with_reducible refine Below.alloc ?_ (by first | omega | (simp; done) | (simp; omega)) _) | (with_reducible refine Below.setCell ?_ (by first | omega | (simp; done) | (simp; omega)) _)))
    · rfl
    · decide
    · rfl
    · first | rfl | simp
  · rw [if_pos rfl]
    go_enter Try.func57, Try.ntmps57
    go_wp2_with fail
    refine (PhaseFactor_any p hp _).mono ?_
    rintro e w1 ⟨rfl, hb, hs⟩
    go_wp2_with fail
    go_ret
    refine retRow_lit ?_ ?_ ?_ ?_ ?_ ?_
    · exact (by first | omega | (simp; done) | (simp; omega))
    · exact (by repeat (first | exact Below.refl _ _ | assumption | (refine Below.trans ?_ (Below.mono (by assumption) (by first | omega | (simp; done) | (simp; omega)))) | (with_reducible refine Below.drew ?_) | (with_reducible refine Below.alloc ?_ (by first | omega | (simp; done) | (simp; omega)) _) | (with_reducible refine Below.setCell ?_ (by first | omega | (simp; done) | (simp; omega)) _)))
    · rfl
    · decide
    · rfl
    · first | rfl | simp
set_option maxRecDepth 100000 in
set_option maxHeartbeats 2000000 in
theorem l10Flip_any (i : Int) (turn : Bool) (q : Nat) (hq : q < 4) (w : World) : Calls Try.prog 55 #[.int .i64 i, .int .i64 q, .bool turn] w (RetRow 98 6 w 1 (icells (if turn = true then xfl i q else i) (zph 0))) := by
  cases turn
  · rw [if_neg (by decide)]
    go_enter Try.func55, Try.ntmps55
    go_wp2_with fail
    refine (PhaseFactor_any 0 (by decide) _).mono ?_
    rintro e w1 ⟨rfl, hb, hs⟩
    go_wp2_with fail
    go_ret
    refine retRow_lit ?_ ?_ ?_ ?_ ?_ ?_
    · exact (by first | omega | (simp; done) | (simp; omega))
    · exact (by repeat (first | exact Below.refl _ _ | assumption | (refine Below.trans ?_ (Below.mono (by assumption) (by first | omega | (simp; done) | (simp; omega)))) | (with_reducible refine Below.drew ?_) | (with_reducible refine Below.alloc ?_ (by first | omega | (simp; done) | (simp; omega)) _) | (with_reducible refine Below.setCell ?_ (by first | omega | (simp; done) | (simp; omega)) _)))
    · rfl
    · decide
    · rfl
    · first | rfl | simp
  · rw [if_pos rfl]
    go_enter Try.func55, Try.ntmps55
    go_wp2_with fail
    refine (PhaseFactor_any 0 (by decide) _).mono ?_
    rintro e w1 ⟨rfl, hb, hs⟩
    go_wp2_with fail
    go_ret
    refine retRow_lit ?_ ?_ ?_ ?_ ?_ ?_
    · exact (by first | omega | (simp; done) | (simp; omega))
    · exact (by repeat (first | exact Below.refl _ _ | assumption | (refine Below.trans ?_ (Below.mono (by assumption) (by first | omega | (simp; done) | (simp; omega)))) | (with_reducible refine Below.drew ?_) | (with_reducible refine Below.alloc ?_ (by first | omega | (simp; done) | (simp; omega)) _) | (with_reducible refine Below.setCell ?_ (by first | omega | (simp; done) | (simp; omega)) _)))
    · rfl
    · decide
    · rfl
    · first | rfl | simp
end Go.Proofs.Ytgjpicekdbemiac
