/- The reference's sums in D[omega]. -/
import Derived.Test.YtgjpicekdbemiaaDwV
namespace Go.Proofs.Ytgjpicekdbemiaa
open Go.RowKit
set_option linter.unusedVariables false
theorem wp_nameA {P : Program} {a : Act} {Q : Exit → Act → World → Prop} {c : Code} {w : World} (h : ∀ w' : World, w' = w → c.wp P Q a w') : c.wp P Q a w := h w rfl
set_option maxRecDepth 100000 in
set_option maxHeartbeats 60000000 in
theorem AddDOmega_any (a b c d e p q r s t : Int) (w : World) : Calls Try.prog 49 #[.agg #[.int .i64 a, .int .i64 b, .int .i64 c, .int .i64 d, .int .i64 e], .agg #[.int .i64 p, .int .i64 q, .int .i64 r, .int .i64 s, .int .i64 t]] w (Ret (dres (addD ⟨a, b, c, d, e⟩ ⟨p, q, r, s, t⟩)) w) := by
  obtain ⟨R, hR⟩ : ∃ R, R = addD ⟨a, b, c, d, e⟩ ⟨p, q, r, s, t⟩ := ⟨_, rfl⟩
  rw [← hR]
  have HR := Lib.hid hR
  clear hR
  go_enter Try.func49, Try.ntmps49
  go_wp2_with fail
  obtain ⟨w0, hw0⟩ : ∃ w0, w0 = ((w.alloc (.cells #[.int .i64 a, .int .i64 b, .int .i64 c, .int .i64 d, .int .i64 e] 67)).alloc (.cells #[.int .i64 p, .int .i64 q, .int .i64 r, .int .i64 s, .int .i64 t] 67)).alloc (.cells #[.int .i64 0, .int .i64 0, .int .i64 0, .int .i64 0, .int .i64 0] 67) := ⟨_, rfl⟩
  rw [← hw0]
  have x0 := Lib.hid (show w0.heap[w.heap.size]? = some (.cells #[.int .i64 a, .int .i64 b, .int .i64 c, .int .i64 d, .int .i64 e] 67 (0, 0)) by rw [hw0]; exact boxed3_0 _ _ _ _)
  have y0 := Lib.hid (show w0.heap[w.heap.size + 1]? = some (.cells #[.int .i64 p, .int .i64 q, .int .i64 r, .int .i64 s, .int .i64 t] 67 (0, 0)) by rw [hw0]; exact boxed3_1 _ _ _ _)
  have r0 := Lib.hid (show w0.heap[w.heap.size + 2]? = some (.cells #[.int .i64 0, .int .i64 0, .int .i64 0, .int .i64 0, .int .i64 0] 67 (0, 0)) by rw [hw0]; exact boxed3_2 _ _ _ _)
  have b0 : Below w.heap.size w w0 := by rw [hw0]; exact (by repeat (first | exact Below.refl _ _ | assumption | (refine Below.trans ?_ (Below.mono (by assumption) (by first | omega | (simp; done) | (simp; omega)))) | (with_reducible refine Below.drew ?_) | (with_reducible refine Below.alloc ?_ (by first | omega | (simp; done) | (simp; omega)) _) | (with_reducible refine Below.setCell ?_ (by first | omega | (simp; done) | (simp; omega)) _)))
  have s0 : w.heap.size + 3 ≤ w0.heap.size := by rw [hw0]; simp
  clear hw0
  have kx0 := cell_at (j := 0) x0.out rfl
  have kx1 := cell_at (j := 1) x0.out rfl
  have kx2 := cell_at (j := 2) x0.out rfl
  have kx3 := cell_at (j := 3) x0.out rfl
  have kx4 := cell_at (j := 4) x0.out rfl
  go_wp2_with fail
  clear kx0 kx1 kx2 kx3 kx4
  cases hx : dOk ⟨a, b, c, d, e⟩
  · refine (IsValidDOmega_any _ _ _ _ _ _).mono ?_
    rw [hx]
    rintro e1 w1 ⟨rfl, hb1, hs1⟩
    have x1 := Lib.hid ((hb1.block _ (by omega)).trans x0.out)
    have y1 := Lib.hid ((hb1.block _ (by omega)).trans y0.out)
    have r1 := Lib.hid ((hb1.block _ (by omega)).trans r0.out)
    have b1 := b0.trans (hb1.mono b0.size)
    have s1 : w.heap.size + 3 ≤ w1.heap.size := by omega
    have kr0 := cell_at (j := 0) r1.out rfl
    have fr0 := free_b (j := 0) r1.out
    have kr1 := cell_at (j := 1) r1.out rfl
    have fr1 := free_b (j := 1) r1.out
    have kr2 := cell_at (j := 2) r1.out rfl
    have fr2 := free_b (j := 2) r1.out
    have kr3 := cell_at (j := 3) r1.out rfl
    have fr3 := free_b (j := 3) r1.out
    have kr4 := cell_at (j := 4) r1.out rfl
    have fr4 := free_b (j := 4) r1.out
    have E := Lib.hid (show R = none by rw [HR.out]; exact addD_1 hx)
    go_wp2_with fail
    exact bodyPost_ret (v := dres R) (by rw [E.out]; simp [results, Try.results49, go_sem, dres, kr0, kr1, kr2, kr3, kr4]) rfl (ret_set5 b1 (by omega))
  refine (IsValidDOmega_any _ _ _ _ _ _).mono ?_
  rw [hx]
  rintro e1 w1 ⟨rfl, hb1, hs1⟩
  have x1 := Lib.hid ((hb1.block _ (by omega)).trans x0.out)
  have y1 := Lib.hid ((hb1.block _ (by omega)).trans y0.out)
  have r1 := Lib.hid ((hb1.block _ (by omega)).trans r0.out)
  have b1 := b0.trans (hb1.mono b0.size)
  have s1 : w.heap.size + 3 ≤ w1.heap.size := by omega
  have ky0 := cell_at (j := 0) y1.out rfl
  have ky1 := cell_at (j := 1) y1.out rfl
  have ky2 := cell_at (j := 2) y1.out rfl
  have ky3 := cell_at (j := 3) y1.out rfl
  have ky4 := cell_at (j := 4) y1.out rfl
  go_wp2_with fail
  clear ky0 ky1 ky2 ky3 ky4
  cases hy : dOk ⟨p, q, r, s, t⟩
  · refine (IsValidDOmega_any _ _ _ _ _ _).mono ?_
    rw [hy]
    rintro e2 w2 ⟨rfl, hb2, hs2⟩
    have x2 := Lib.hid ((hb2.block _ (by omega)).trans x1.out)
    have y2 := Lib.hid ((hb2.block _ (by omega)).trans y1.out)
    have r2 := Lib.hid ((hb2.block _ (by omega)).trans r1.out)
    have b2 := b1.trans (hb2.mono b1.size)
    have s2 : w.heap.size + 3 ≤ w2.heap.size := by omega
    have kr0 := cell_at (j := 0) r2.out rfl
    have fr0 := free_b (j := 0) r2.out
    have kr1 := cell_at (j := 1) r2.out rfl
    have fr1 := free_b (j := 1) r2.out
    have kr2 := cell_at (j := 2) r2.out rfl
    have fr2 := free_b (j := 2) r2.out
    have kr3 := cell_at (j := 3) r2.out rfl
    have fr3 := free_b (j := 3) r2.out
    have kr4 := cell_at (j := 4) r2.out rfl
    have fr4 := free_b (j := 4) r2.out
    have E := Lib.hid (show R = none by rw [HR.out]; exact addD_2 hy)
    go_wp2_with fail
    exact bodyPost_ret (v := dres R) (by rw [E.out]; simp [results, Try.results49, go_sem, dres, kr0, kr1, kr2, kr3, kr4]) rfl (ret_set5 b2 (by omega))
  refine (IsValidDOmega_any _ _ _ _ _ _).mono ?_
  rw [hy]
  rintro e2 w2 ⟨rfl, hb2, hs2⟩
  have x2 := Lib.hid ((hb2.block _ (by omega)).trans x1.out)
  have y2 := Lib.hid ((hb2.block _ (by omega)).trans y1.out)
  have r2 := Lib.hid ((hb2.block _ (by omega)).trans r1.out)
  have b2 := b1.trans (hb2.mono b1.size)
  have s2 : w.heap.size + 3 ≤ w2.heap.size := by omega
  have hex := dOk_e hx
  have hey := dOk_e hy
  simp only at hex hey
  obtain ⟨E1, rfl⟩ : ∃ n : Nat, e = n := ⟨e.toNat, by omega⟩
  obtain ⟨E2, rfl⟩ : ∃ n : Nat, t = n := ⟨t.toNat, by omega⟩
  obtain ⟨K, hK⟩ : ∃ K : Nat, K = max E1 E2 := ⟨_, rfl⟩
  have hK1 : E1 ≤ K := by omega
  have hK2 : E2 ≤ K := by omega
  have hK6 : K ≤ 60 := by omega
  have hKI : max (E1 : Int) (E2 : Int) = (K : Int) := by omega
  have hn1 : (max (E1 : Int) (E2 : Int) - E1).toNat = K - E1 := by omega
  have hn2 : (max (E1 : Int) (E2 : Int) - E2).toNat = K - E2 := by omega
  have HN1 := Lib.hid hn1
  have HN2 := Lib.hid hn2
  have HKI := Lib.hid hKI
  have i1 : (K : Int) - E1 = ((K - E1 : Nat) : Int) := by omega
  have i2 : (K : Int) - E2 = ((K - E2 : Nat) : Int) := by omega
  have I1 := Lib.hid i1
  have I2 := Lib.hid i2
  clear hK hKI hn1 hn2 i1 i2
  have kx0 := cell_at (j := 0) x2.out rfl
  have kx1 := cell_at (j := 1) x2.out rfl
  have kx2 := cell_at (j := 2) x2.out rfl
  have kx3 := cell_at (j := 3) x2.out rfl
  have kx4 := cell_at (j := 4) x2.out rfl
  have ky0 := cell_at (j := 0) y2.out rfl
  have ky1 := cell_at (j := 1) y2.out rfl
  have ky2 := cell_at (j := 2) y2.out rfl
  have ky3 := cell_at (j := 3) y2.out rfl
  have ky4 := cell_at (j := 4) y2.out rfl
  go_wp2_with (go_at_call 27; refine (l1MaxD_any _ _ _).mono ?_; rw [HKI.out]; rintro e' w' ⟨rfl, rfl⟩)
  clear kx0 kx1 kx2 kx3 kx4
  clear ky0 ky1 ky2 ky3 ky4
  obtain ⟨za, oka, hza, hzra⟩ := zres_form (up (K - E1) ⟨a, b, c, d⟩)
  have HZA := Lib.hid hzra
  clear hzra
  rw [I1.out]
  refine (l3Up_any _ _ _ _ (K - E1) _ (by omega)).mono ?_
  rw [hza]
  rintro e3 w3 ⟨rfl, hb3, hs3⟩
  have x3 := Lib.hid ((hb3.block _ (by omega)).trans x2.out)
  have y3 := Lib.hid ((hb3.block _ (by omega)).trans y2.out)
  have r3 := Lib.hid ((hb3.block _ (by omega)).trans r2.out)
  have b3 := b2.trans (hb3.mono b2.size)
  have s3 : w.heap.size + 3 ≤ w3.heap.size := by omega
  have l3 : w.heap.size + 1 < w3.heap.size := by omega
  have ky0 := cell_at (j := 0) y3.out rfl
  have ky1 := cell_at (j := 1) y3.out rfl
  have ky2 := cell_at (j := 2) y3.out rfl
  have ky3 := cell_at (j := 3) y3.out rfl
  have ky4 := cell_at (j := 4) y3.out rfl
  go_wp2_with fail
  clear ky0 ky1 ky2 ky3 ky4
  obtain ⟨w4, hw4⟩ : ∃ w', w' = w3.alloc (.cells #[.int .i64 za.a, .int .i64 za.b, .int .i64 za.c, .int .i64 za.d] 65) := ⟨_, rfl⟩
  rw [← hw4]
  have x4 := Lib.hid (show w4.heap[w.heap.size]? = some (.cells #[.int .i64 a, .int .i64 b, .int .i64 c, .int .i64 d, .int .i64 (E1 : Int)] 67 (0, 0)) by rw [hw4]; exact (Below.heap_alloc _ _ _ (by omega)).trans x3.out)
  have y4 := Lib.hid (show w4.heap[w.heap.size + 1]? = some (.cells #[.int .i64 p, .int .i64 q, .int .i64 r, .int .i64 s, .int .i64 (E2 : Int)] 67 (0, 0)) by rw [hw4]; exact (Below.heap_alloc _ _ _ (by omega)).trans y3.out)
  have r4 := Lib.hid (show w4.heap[w.heap.size + 2]? = some (.cells #[.int .i64 0, .int .i64 0, .int .i64 0, .int .i64 0, .int .i64 0] 67 (0, 0)) by rw [hw4]; exact (Below.heap_alloc _ _ _ (by omega)).trans r3.out)
  have m4 := Lib.hid (show w4.heap[w3.heap.size]? = some (.cells #[.int .i64 za.a, .int .i64 za.b, .int .i64 za.c, .int .i64 za.d] 65 (0, 0)) by rw [hw4]; exact heap_alloc_new _ _)
  have b4 : Below w.heap.size w w4 := by rw [hw4]; exact b3.alloc b3.size _
  have s4 : w.heap.size + 3 ≤ w4.heap.size := by rw [hw4]; simp; omega
  have g4 : w3.heap.size + 1 = w4.heap.size := by rw [hw4]; simp
  obtain ⟨zb, okb, hzb, hzrb⟩ := zres_form (up (K - E2) ⟨p, q, r, s⟩)
  have HZB := Lib.hid hzrb
  clear hzrb
  rw [I2.out]
  refine (l3Up_any _ _ _ _ (K - E2) _ (by omega)).mono ?_
  rw [hzb]
  rintro e5 w5 ⟨rfl, hb5, hs5⟩
  have x5 := Lib.hid ((hb5.block _ (by omega)).trans x4.out)
  have y5 := Lib.hid ((hb5.block _ (by omega)).trans y4.out)
  have r5 := Lib.hid ((hb5.block _ (by omega)).trans r4.out)
  have m5 := Lib.hid ((hb5.block _ (by omega)).trans m4.out)
  have b5 := b4.trans (hb5.mono b4.size)
  have s5 : w.heap.size + 3 ≤ w5.heap.size := by omega
  have km0 := cell_at (j := 0) m5.out rfl
  have km1 := cell_at (j := 1) m5.out rfl
  have km2 := cell_at (j := 2) m5.out rfl
  have km3 := cell_at (j := 3) m5.out rfl
  have l5 : w3.heap.size < w5.heap.size := by omega
  go_wp2_with fail
  clear km0 km1 km2 km3
  obtain ⟨w6, hw6⟩ : ∃ w', w' = w5.alloc (.cells #[.int .i64 zb.a, .int .i64 zb.b, .int .i64 zb.c, .int .i64 zb.d] 65) := ⟨_, rfl⟩
  rw [← hw6]
  have r6 := Lib.hid (show w6.heap[w.heap.size + 2]? = some (.cells #[.int .i64 0, .int .i64 0, .int .i64 0, .int .i64 0, .int .i64 0] 67 (0, 0)) by rw [hw6]; exact (Below.heap_alloc _ _ _ (by omega)).trans r5.out)
  have n6 := Lib.hid (show w6.heap[w5.heap.size]? = some (.cells #[.int .i64 zb.a, .int .i64 zb.b, .int .i64 zb.c, .int .i64 zb.d] 65 (0, 0)) by rw [hw6]; exact heap_alloc_new _ _)
  have b6 : Below w.heap.size w w6 := by rw [hw6]; exact b5.alloc b5.size _
  have s6 : w.heap.size + 3 ≤ w6.heap.size := by rw [hw6]; simp; omega
  have g6 : w5.heap.size + 1 = w6.heap.size := by rw [hw6]; simp
  obtain ⟨zn, okn, hzn, hzrn⟩ := zres_form (zadd za zb)
  have HZN := Lib.hid hzrn
  clear hzrn
  have hzn' : zres (zadd ⟨za.a, za.b, za.c, za.d⟩ ⟨zb.a, zb.b, zb.c, zb.d⟩) = _ := hzn
  refine (AddZOmega_any _ _ _ _ _ _ _ _ _).mono ?_
  rw [hzn']
  rintro e7 w7 ⟨rfl, hb7, hs7⟩
  have r7 := Lib.hid ((hb7.block _ (by omega)).trans r6.out)
  have b7 := b6.trans (hb7.mono b6.size)
  have s7 : w.heap.size + 3 ≤ w7.heap.size := by omega
  go_upto_region 7 with (fail)
  refine wp_nameA (fun w8 hw8 => ?_)
  have r8 := Lib.hid (show w8.heap[w.heap.size + 2]? = some (.cells #[.int .i64 0, .int .i64 0, .int .i64 0, .int .i64 0, .int .i64 0] 67 (0, 0)) by rw [hw8]; exact (Below.heap_alloc _ _ _ (by omega)).trans r7.out)
  have n8 := Lib.hid (show w8.heap[w7.heap.size]? = some (.cells #[.int .i64 zn.a, .int .i64 zn.b, .int .i64 zn.c, .int .i64 zn.d] 65 (0, 0)) by rw [hw8]; exact heap_alloc_new _ _)
  have b8 : Below w.heap.size w w8 := by rw [hw8]; exact b7.alloc b7.size _
  have s8 : w.heap.size + 3 ≤ w8.heap.size := by rw [hw8]; simp; omega
  have HRX := Lib.hid (And.intro hx hy)
  clear hw8 b0 b1 b2 b3 b4 b5 b6 b7 s0 s1 s2 s3 s4 s5 s6 s7 hb1 hb2 hb3 hb5 hb7 hs1 hs2 hs3 hs5 hs7 hza hzb hzn hzn' hx hy l3 l5 g4 g6 hw4 hw6 x0 x1 x2 x3 x4 y0 y1 y2 y3 y4 r0 r1 r2 r3 r4 r5 r6 r7 m4 m5 n6
  rcases HZA.out with ⟨rfl, ha⟩ | ⟨rfl, ha, _⟩
  · rcases HZB.out with ⟨rfl, hb⟩ | ⟨rfl, hb, _⟩
    · rcases HZN.out with ⟨rfl, hn⟩ | ⟨rfl, hn, _⟩
      · have E := Lib.hid (show R = newD zn K by rw [HR.out]; exact (addD_6 HRX.out.1 HRX.out.2 (by rw [HN1.out]; exact ha) (by rw [HN2.out]; exact hb) hn).trans (by rw [HKI.out]))
        clear ha hb hn
        have kn0 := cell_at (j := 0) n8.out rfl
        have kn1 := cell_at (j := 1) n8.out rfl
        have kn2 := cell_at (j := 2) n8.out rfl
        have kn3 := cell_at (j := 3) n8.out rfl
        go_wp2_with fail
        clear kn0 kn1 kn2 kn3
        obtain ⟨v, ok, hv, hvr⟩ := dres_form (newD zn K)
        rw [← E.out] at hv hvr
        refine (NewDOmega_any _ _ _ _ _ _).mono ?_
        rintro e9 w9 ⟨rfl, hb9, hs9⟩
        have r9 := Lib.hid ((hb9.block _ (by omega)).trans r8.out)
        have b9 := b8.trans (hb9.mono b8.size)
        have s9 : w.heap.size + 3 ≤ w9.heap.size := by omega
        rw [show newD ⟨zn.a, zn.b, zn.c, zn.d⟩ K = R from E.out.symm, hv]
        have kr0 := cell_at (j := 0) r9.out rfl
        have fr0 := free_b (j := 0) r9.out
        have kr1 := cell_at (j := 1) r9.out rfl
        have fr1 := free_b (j := 1) r9.out
        have kr2 := cell_at (j := 2) r9.out rfl
        have fr2 := free_b (j := 2) r9.out
        have kr3 := cell_at (j := 3) r9.out rfl
        have fr3 := free_b (j := 3) r9.out
        have kr4 := cell_at (j := 4) r9.out rfl
        have fr4 := free_b (j := 4) r9.out
        go_wp2_with fail
        exact bodyPost_ret (v := dres R) (by rw [hv]; simp [results, Try.results49, go_sem, kr0, kr1, kr2, kr3, kr4]) rfl (ret_set5 b9 (by omega))
      · have kr0 := cell_at (j := 0) r8.out rfl
        have fr0 := free_b (j := 0) r8.out
        have kr1 := cell_at (j := 1) r8.out rfl
        have fr1 := free_b (j := 1) r8.out
        have kr2 := cell_at (j := 2) r8.out rfl
        have fr2 := free_b (j := 2) r8.out
        have kr3 := cell_at (j := 3) r8.out rfl
        have fr3 := free_b (j := 3) r8.out
        have kr4 := cell_at (j := 4) r8.out rfl
        have fr4 := free_b (j := 4) r8.out
        have E := Lib.hid (show R = none by rw [HR.out]; exact addD_5 HRX.out.1 HRX.out.2 (by rw [HN1.out]; exact ha) (by rw [HN2.out]; exact hb) hn)
        go_wp2_with fail
        exact bodyPost_ret (v := dres R) (by rw [E.out]; simp [results, Try.results49, go_sem, dres, kr0, kr1, kr2, kr3, kr4]) rfl (ret_set5 b8 (by omega))
    · have kr0 := cell_at (j := 0) r8.out rfl
      have fr0 := free_b (j := 0) r8.out
      have kr1 := cell_at (j := 1) r8.out rfl
      have fr1 := free_b (j := 1) r8.out
      have kr2 := cell_at (j := 2) r8.out rfl
      have fr2 := free_b (j := 2) r8.out
      have kr3 := cell_at (j := 3) r8.out rfl
      have fr3 := free_b (j := 3) r8.out
      have kr4 := cell_at (j := 4) r8.out rfl
      have fr4 := free_b (j := 4) r8.out
      have E := Lib.hid (show R = none by rw [HR.out]; exact addD_4 HRX.out.1 HRX.out.2 (by rw [HN1.out]; exact ha) (by rw [HN2.out]; exact hb))
      go_wp2_with fail
      exact bodyPost_ret (v := dres R) (by rw [E.out]; simp [results, Try.results49, go_sem, dres, kr0, kr1, kr2, kr3, kr4]) rfl (ret_set5 b8 (by omega))
  · have kr0 := cell_at (j := 0) r8.out rfl
    have fr0 := free_b (j := 0) r8.out
    have kr1 := cell_at (j := 1) r8.out rfl
    have fr1 := free_b (j := 1) r8.out
    have kr2 := cell_at (j := 2) r8.out rfl
    have fr2 := free_b (j := 2) r8.out
    have kr3 := cell_at (j := 3) r8.out rfl
    have fr3 := free_b (j := 3) r8.out
    have kr4 := cell_at (j := 4) r8.out rfl
    have fr4 := free_b (j := 4) r8.out
    have E := Lib.hid (show R = none by rw [HR.out]; exact addD_3 HRX.out.1 HRX.out.2 (by rw [HN1.out]; exact ha))
    go_wp2_with fail
    exact bodyPost_ret (v := dres R) (by rw [E.out]; simp [results, Try.results49, go_sem, dres, kr0, kr1, kr2, kr3, kr4]) rfl (ret_set5 b8 (by omega))
end Go.Proofs.Ytgjpicekdbemiaa
