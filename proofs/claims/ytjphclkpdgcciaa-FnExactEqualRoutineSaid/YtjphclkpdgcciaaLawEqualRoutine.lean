/- The program's EqualRoutine returns what the reference's returns, for every two routines. -/
import Derived.Test.YtjphclkpdgcciaaFrame
import Derived.Test.YtjphclkpdgcciaaRoutine
import Derived.Test.YtjphclkpdgcciaaOpenOp
namespace Go.Proofs.Ytjphclkpdgcciaa
open Go.ChangeShapes Go.WideShapes Go.ChangeAt Go.RowKit
set_option linter.unusedVariables false
set_option maxRecDepth 100000 in
set_option maxHeartbeats 4000000 in
theorem law_EqualRoutine (N I B : Int) (A : Option Addr) (n c : Nat) (l : List Opt) (N' I' B' : Int) (A' : Option Addr) (n' c' : Nat) (l' : List Opt) (w : World) (h : Rd w 8 A n (l.flatMap ocells)) (hl : l.length = n) (hnc : n ≤ c) (hc : c ≤ maxLen) (h' : Rd w 8 A' n' (l'.flatMap ocells)) (hl' : l'.length = n') (hnc' : n' ≤ c') (hc' : c' ≤ maxLen) :
    Calls Try.prog 9 #[.agg #[.int .i64 N, .int .i64 I, .int .i64 B, .slice A n c], .agg #[.int .i64 N', .int .i64 I', .int .i64 B', .slice A' n' c']] w fun e w' => e = .returned (.bool true) ∧ Below w.heap.size w w' := by
  have hn0 : n ≤ 9223372036854775807 := by simp only [maxLen] at hc; omega
  have hn0' : n' ≤ 9223372036854775807 := by simp only [maxLen] at hc'; omega
  by_cases hbig : (1048576 : Int) - n < 0
  · go_enter Try.func9, Try.ntmps9
    go_wp2_with fail
    refine (szRoutine_any _ _ _ _ _ _ _ _ hn0 (by omega) (by omega)).mono ?_
    rintro e w1 ⟨rfl, b1, s1⟩
    rw [if_pos hbig]
    go_wp2_with fail
    go_ret
    exact ⟨rfl, (by repeat (first | exact Below.refl _ _ | assumption | (refine Below.trans ?_ (Below.mono (by assumption) (by first | omega | (simp; done) | (simp; omega)))) | (with_reducible refine Below.drew ?_) | (with_reducible refine Below.alloc ?_ (by first | omega | (simp; done) | (simp; omega)) _) | (with_reducible refine Below.setCell ?_ (by first | omega | (simp; done) | (simp; omega)) _)))⟩
  have hn : n ≤ 1048576 := by omega
  go_enter Try.func9, Try.ntmps9
  go_wp2_with fail
  obtain ⟨w0, hw0⟩ : ∃ w0, w0 = (World.alloc (World.alloc w (.cells #[.int .i64 N, .int .i64 I, .int .i64 B, .slice A n c] 42)) (.cells #[.int .i64 N', .int .i64 I', .int .i64 B', .slice A' n' c'] 42)) := ⟨_, rfl⟩
  rw [← hw0]
  have b0 : Below w.heap.size w w0 := by rw [hw0]; exact (by repeat (first | exact Below.refl _ _ | assumption | (refine Below.trans ?_ (Below.mono (by assumption) (by first | omega | (simp; done) | (simp; omega)))) | (with_reducible refine Below.drew ?_) | (with_reducible refine Below.alloc ?_ (by first | omega | (simp; done) | (simp; omega)) _) | (with_reducible refine Below.setCell ?_ (by first | omega | (simp; done) | (simp; omega)) _)))
  have s0 : w.heap.size + 2 = w0.heap.size := by rw [hw0]; simp
  have x0_0 : w0.heap[w.heap.size]? = some (.cells #[.int .i64 N, .int .i64 I, .int .i64 B, .slice A n c] 42 (0, 0)) := by rw [hw0]; exact boxed2_0 _ _ _
  have X0_0 := Lib.hid x0_0
  clear x0_0
  have x1_0 : w0.heap[w.heap.size + 1]? = some (.cells #[.int .i64 N', .int .i64 I', .int .i64 B', .slice A' n' c'] 42 (0, 0)) := by rw [hw0]; exact boxed2_1 _ _ _
  have X1_0 := Lib.hid x1_0
  clear x1_0
  have S0 : w.heap.size ≤ w0.heap.size := by omega
  clear hw0
  have rA := h.below b0
  have rB := h'.below b0
  clear h h'
  refine (szRoutine_any _ _ _ _ _ _ _ _ hn0 (by omega) (by omega)).mono ?_
  rintro e w1 ⟨rfl, b1, s1⟩
  rw [if_neg (by omega)]
  clear hbig
  obtain ⟨bx1_0, bx1_1, bx1_2, bx1_3⟩ := boxcells4 (lay := (b1.mono (by omega))) X1_0.out
  have lt1 : w.heap.size + 1 < w1.heap.size := by omega
  go_wp2_with fail
  clear bx1_0 bx1_1 bx1_2 bx1_3 lt1
  by_cases hbig : (1048576 : Int) - n - n' < 0
  · refine (szRoutine_any _ _ _ _ _ _ _ _ hn0' (by omega) (by omega)).mono ?_
    rintro e w2 ⟨rfl, b2, s2⟩
    rw [if_pos hbig]
    go_wp2_with fail
    go_ret
    exact ⟨rfl, b0.trans ((b1.mono (by omega)).trans (b2.mono (by omega)))⟩
  have hn' : n' ≤ 1048576 := by omega
  have hnn : n + n' ≤ 1048576 := by omega
  refine (szRoutine_any _ _ _ _ _ _ _ _ hn0' (by omega) (by omega)).mono ?_
  rintro e w2 ⟨rfl, b2, s2⟩
  rw [if_neg (by omega)]
  clear hbig
  have k2 := boxcells4 (lay := ((b1.mono (by omega)).trans (b2.mono (by omega)))) X0_0.out
  have k2' := boxcells4 (lay := ((b1.mono (by omega)).trans (b2.mono (by omega)))) X1_0.out
  obtain ⟨m0, m1, m2, m3⟩ := k2
  obtain ⟨m4, m5, m6, m7⟩ := k2'
  have rA2 := (rA.below ((b1.mono (by omega)).trans (b2.mono (by omega))))
  have rB2 := (rB.below ((b1.mono (by omega)).trans (b2.mono (by omega))))
  have v2 : Below w0.heap.size w0 w2 := ((b1.mono (by omega)).trans (b2.mono (by omega)))
  have z2 : w0.heap.size ≤ w2.heap.size := by omega
  go_wp2_with fail
  go_region_held3 (fun W => W.cell? ⟨w.heap.size, 0, none⟩ = some (.int .i64 N) ∧ W.cell? ⟨w.heap.size, 1, none⟩ = some (.int .i64 I) ∧ W.cell? ⟨w.heap.size, 2, none⟩ = some (.int .i64 B) ∧ W.cell? ⟨w.heap.size, 3, none⟩ = some (.slice A n c) ∧ W.cell? ⟨w.heap.size + 1, 0, none⟩ = some (.int .i64 N') ∧ W.cell? ⟨w.heap.size + 1, 1, none⟩ = some (.int .i64 I') ∧ W.cell? ⟨w.heap.size + 1, 2, none⟩ = some (.int .i64 B') ∧ W.cell? ⟨w.heap.size + 1, 3, none⟩ = some (.slice A' n' c')) (first | exact ⟨m0, m1, m2, m3, m4, m5, m6, m7⟩ | exact ⟨n0, n1, n2, n3, n4, n5, n6, n7⟩ | exact ⟨o0, o1, o2, o3, o4, o5, o6, o7⟩ | exact ⟨q0, q1, q2, q3, q4, q5, q6, q7⟩) (first | (go_at_call 30; (with_reducible refine (toRoutine_any N I B A n c l _ rA2.drew hl (by omega)).mono ?_); rintro e w3 ⟨At, ct, rfl, ot, bt, st⟩; have b3 := below_of_drew bt; have s3 := b3.size; obtain ⟨n0, n1, n2, n3⟩ := boxcells4 (lay := v2.trans (b3.mono z2)) X0_0.out; obtain ⟨n4, n5, n6, n7⟩ := boxcells4 (lay := v2.trans (b3.mono z2)) X1_0.out) | (go_at_call 30; (with_reducible refine (toRoutine_any N' I' B' A' n' c' l' _ (rB2.below b3) hl' (by omega)).mono ?_); rintro e w4 ⟨Au, cu, rfl, ou, b4, s4⟩; obtain ⟨o0, o1, o2, o3⟩ := boxcells4 (lay := v2.trans ((b3.mono z2).trans (b4.mono (by omega)))) X0_0.out; obtain ⟨o4, o5, o6, o7⟩ := boxcells4 (lay := v2.trans ((b3.mono z2).trans (b4.mono (by omega)))) X1_0.out) | (go_at_call 37; (with_reducible refine (EqualRoutine_spec _ _ _ _ _ _ _ _ _ _ _ _ l l' _ hl hl' (by omega) ((rd_own ot).below b4) (rd_own ou)).mono ?_); rintro e w5 ⟨rfl, b5, s5⟩; obtain ⟨q0, q1, q2, q3⟩ := boxcells4 (lay := v2.trans ((b3.mono z2).trans ((b4.mono (by omega)).trans (b5.mono (by omega))))) X0_0.out; obtain ⟨q4, q5, q6, q7⟩ := boxcells4 (lay := v2.trans ((b3.mono z2).trans ((b4.mono (by omega)).trans (b5.mono (by omega))))) X1_0.out))
  clear m0 m1 m2 m3 m4 m5 m6 m7 n0 n1 n2 n3 n4 n5 n6 n7 o0 o1 o2 o3 o4 o5 o6 o7
  go_wp2_with fail
  clear q0 q1 q2 q3 q4 q5 q6 q7
  refine (toRoutine_any N I B A n c l _ (rA.below (((((b1.mono (by omega)).trans (b2.mono (by omega))).trans (b3.mono (by omega))).trans (b4.mono (by omega))).trans (b5.mono (by omega)))) hl (by omega)).mono ?_
  rintro e w6 ⟨Ax, cx, rfl, ox, b6, s6⟩
  have rx := rd_own ox
  have ocx := ox
  obtain ⟨bx2_0, bx2_1, bx2_2, bx2_3⟩ := boxcells4 (lay := ((((((b1.mono (by omega)).trans (b2.mono (by omega))).trans (b3.mono (by omega))).trans (b4.mono (by omega))).trans (b5.mono (by omega))).trans (b6.mono (by omega)))) X1_0.out
  have lt2 : w.heap.size + 1 < w6.heap.size := by omega
  go_wp2_with fail
  clear bx2_0 bx2_1 bx2_2 bx2_3 lt2
  obtain ⟨w7, hw7⟩ : ∃ w7, w7 = w6.alloc (.cells #[.int .i64 N, .int .i64 I, .int .i64 B, .slice Ax n cx] 47) := ⟨_, rfl⟩
  rw [← hw7]
  have b7 : Below w6.heap.size w6 w7 := by rw [hw7]; exact (by repeat (first | exact Below.refl _ _ | assumption | (refine Below.trans ?_ (Below.mono (by assumption) (by first | omega | (simp; done) | (simp; omega)))) | (with_reducible refine Below.drew ?_) | (with_reducible refine Below.alloc ?_ (by first | omega | (simp; done) | (simp; omega)) _) | (with_reducible refine Below.setCell ?_ (by first | omega | (simp; done) | (simp; omega)) _)))
  have s7 : w6.heap.size + 1 = w7.heap.size := by rw [hw7]; simp
  have Xx := Lib.hid (show w7.heap[w6.heap.size]? = some (.cells #[.int .i64 N, .int .i64 I, .int .i64 B, .slice Ax n cx] 47 (0, 0)) by rw [hw7]; exact boxed1_0 _ _)
  have s7' := s7
  clear hw7
  refine (toRoutine_any N' I' B' A' n' c' l' _ (rB.below (((((((b1.mono (by omega)).trans (b2.mono (by omega))).trans (b3.mono (by omega))).trans (b4.mono (by omega))).trans (b5.mono (by omega))).trans (b6.mono (by omega))).trans (b7.mono (by omega)))) hl' (by omega)).mono ?_
  rintro e w8 ⟨Ay, cy, rfl, oy, b8, s8⟩
  have ry := rd_own oy
  have ocy := oy
  obtain ⟨bx3_0, bx3_1, bx3_2, bx3_3⟩ := boxcells4 (lay := (b8.mono (by omega))) Xx.out
  have lt3 : w6.heap.size < w8.heap.size := by omega
  go_wp2_with fail
  clear bx3_0 bx3_1 bx3_2 bx3_3 lt3
  obtain ⟨w9, hw9⟩ : ∃ w9, w9 = w8.alloc (.cells #[.int .i64 N', .int .i64 I', .int .i64 B', .slice Ay n' cy] 47) := ⟨_, rfl⟩
  rw [← hw9]
  have b9 : Below w8.heap.size w8 w9 := by rw [hw9]; exact (by repeat (first | exact Below.refl _ _ | assumption | (refine Below.trans ?_ (Below.mono (by assumption) (by first | omega | (simp; done) | (simp; omega)))) | (with_reducible refine Below.drew ?_) | (with_reducible refine Below.alloc ?_ (by first | omega | (simp; done) | (simp; omega)) _) | (with_reducible refine Below.setCell ?_ (by first | omega | (simp; done) | (simp; omega)) _)))
  have s9 : w8.heap.size + 1 = w9.heap.size := by rw [hw9]; simp
  have Xy := Lib.hid (show w9.heap[w8.heap.size]? = some (.cells #[.int .i64 N', .int .i64 I', .int .i64 B', .slice Ay n' cy] 47 (0, 0)) by rw [hw9]; exact boxed1_0 _ _)
  have s9' := s9
  clear hw9
  refine (EqualRoutine_impl _ _ _ _ _ _ _ _ _ _ _ _ l l' _ hl hl' (by omega) (rx.below (((b7.mono (by omega)).trans (b8.mono (by omega))).trans (b9.mono (by omega)))) (ry.below (b9.mono (by omega)))).mono ?_
  rintro e w10 ⟨rfl, b10, s10⟩
  go_wp2_with fail
  obtain ⟨fa0, fa1, fa2, fa3⟩ := boxcells4 (lay := (((b8.mono (by omega)).trans (b9.mono (by omega))).trans (b10.mono (by omega)))) Xx.out
  obtain ⟨fb0, fb1, fb2, fb3⟩ := boxcells4 (lay := ((((((((((b1.mono (by omega)).trans (b2.mono (by omega))).trans (b3.mono (by omega))).trans (b4.mono (by omega))).trans (b5.mono (by omega))).trans (b6.mono (by omega))).trans (b7.mono (by omega))).trans (b8.mono (by omega))).trans (b9.mono (by omega))).trans (b10.mono (by omega)))) X0_0.out
  have rrf := (rA.below ((((((((((b1.mono (by omega)).trans (b2.mono (by omega))).trans (b3.mono (by omega))).trans (b4.mono (by omega))).trans (b5.mono (by omega))).trans (b6.mono (by omega))).trans (b7.mono (by omega))).trans (b8.mono (by omega))).trans (b9.mono (by omega))).trans (b10.mono (by omega))))
  have rvf := (rx.below ((((b7.mono (by omega)).trans (b8.mono (by omega))).trans (b9.mono (by omega))).trans (b10.mono (by omega))))
  have lvf : Below w7.heap.size w7 w10 := (((b8.mono (by omega)).trans (b9.mono (by omega))).trans (b10.mono (by omega)))
  have zvf : w7.heap.size ≤ w10.heap.size := by omega
  have lbf : Below w0.heap.size w0 w10 := ((((((((((b1.mono (by omega)).trans (b2.mono (by omega))).trans (b3.mono (by omega))).trans (b4.mono (by omega))).trans (b5.mono (by omega))).trans (b6.mono (by omega))).trans (b7.mono (by omega))).trans (b8.mono (by omega))).trans (b9.mono (by omega))).trans (b10.mono (by omega)))
  have zbf : w0.heap.size ≤ w10.heap.size := by omega
  go_region_held3 (fun W => W.cell? ⟨w6.heap.size, 0, none⟩ = some (.int .i64 N) ∧ W.cell? ⟨w6.heap.size, 1, none⟩ = some (.int .i64 I) ∧ W.cell? ⟨w6.heap.size, 2, none⟩ = some (.int .i64 B) ∧ W.cell? ⟨w6.heap.size, 3, none⟩ = some (.slice Ax n cx) ∧ W.cell? ⟨w.heap.size, 0, none⟩ = some (.int .i64 N) ∧ W.cell? ⟨w.heap.size, 1, none⟩ = some (.int .i64 I) ∧ W.cell? ⟨w.heap.size, 2, none⟩ = some (.int .i64 B) ∧ W.cell? ⟨w.heap.size, 3, none⟩ = some (.slice A n c)) (first | exact ⟨fa0, fa1, fa2, fa3, fb0, fb1, fb2, fb3⟩ | exact ⟨fpa0, fpa1, fpa2, fpa3, fpb0, fpb1, fpb2, fpb3⟩ | exact ⟨fqa0, fqa1, fqa2, fqa3, fqb0, fqb1, fqb2, fqb3⟩) (first | (go_at_call 30; (with_reducible refine (toRoutine_any N I B A n c l _ rrf.drew hl (by omega)).mono ?_); rintro e w11 ⟨Af, cf, rfl, of, btf, stf⟩; have b11 := below_of_drew btf; have s11 := b11.size; obtain ⟨fpa0, fpa1, fpa2, fpa3⟩ := boxcells4 (lay := lvf.trans (b11.mono zvf)) Xx.out; obtain ⟨fpb0, fpb1, fpb2, fpb3⟩ := boxcells4 (lay := lbf.trans (b11.mono zbf)) X0_0.out) | (go_at_call 32; (with_reducible refine (eqRoutine_same _ _ _ _ _ _ _ _ l _ hl (by omega) (rvf.below b11) (rd_own of)).mono ?_); rintro e w12 ⟨rfl, b12, s12⟩; obtain ⟨fqa0, fqa1, fqa2, fqa3⟩ := boxcells4 (lay := lvf.trans ((b11.mono zvf).trans (b12.mono (by omega)))) Xx.out; obtain ⟨fqb0, fqb1, fqb2, fqb3⟩ := boxcells4 (lay := lbf.trans ((b11.mono zbf).trans (b12.mono (by omega)))) X0_0.out))
  clear fa0 fa1 fa2 fa3 fb0 fb1 fb2 fb3 fpa0 fpa1 fpa2 fpa3 fpb0 fpb1 fpb2 fpb3 fqa0 fqa1 fqa2 fqa3 fqb0 fqb1 fqb2 fqb3
  go_wp2_with fail
  obtain ⟨ga0, ga1, ga2, ga3⟩ := boxcells4 (lay := (((b10.mono (by omega)).trans (b11.mono (by omega))).trans (b12.mono (by omega)))) Xy.out
  obtain ⟨gb0, gb1, gb2, gb3⟩ := boxcells4 (lay := ((((((((((((b1.mono (by omega)).trans (b2.mono (by omega))).trans (b3.mono (by omega))).trans (b4.mono (by omega))).trans (b5.mono (by omega))).trans (b6.mono (by omega))).trans (b7.mono (by omega))).trans (b8.mono (by omega))).trans (b9.mono (by omega))).trans (b10.mono (by omega))).trans (b11.mono (by omega))).trans (b12.mono (by omega)))) X1_0.out
  have rrg := (rB.below ((((((((((((b1.mono (by omega)).trans (b2.mono (by omega))).trans (b3.mono (by omega))).trans (b4.mono (by omega))).trans (b5.mono (by omega))).trans (b6.mono (by omega))).trans (b7.mono (by omega))).trans (b8.mono (by omega))).trans (b9.mono (by omega))).trans (b10.mono (by omega))).trans (b11.mono (by omega))).trans (b12.mono (by omega))))
  have rvg := (ry.below ((((b9.mono (by omega)).trans (b10.mono (by omega))).trans (b11.mono (by omega))).trans (b12.mono (by omega))))
  have lvg : Below w9.heap.size w9 w12 := (((b10.mono (by omega)).trans (b11.mono (by omega))).trans (b12.mono (by omega)))
  have zvg : w9.heap.size ≤ w12.heap.size := by omega
  have lbg : Below w0.heap.size w0 w12 := ((((((((((((b1.mono (by omega)).trans (b2.mono (by omega))).trans (b3.mono (by omega))).trans (b4.mono (by omega))).trans (b5.mono (by omega))).trans (b6.mono (by omega))).trans (b7.mono (by omega))).trans (b8.mono (by omega))).trans (b9.mono (by omega))).trans (b10.mono (by omega))).trans (b11.mono (by omega))).trans (b12.mono (by omega)))
  have zbg : w0.heap.size ≤ w12.heap.size := by omega
  go_region_held3 (fun W => W.cell? ⟨w8.heap.size, 0, none⟩ = some (.int .i64 N') ∧ W.cell? ⟨w8.heap.size, 1, none⟩ = some (.int .i64 I') ∧ W.cell? ⟨w8.heap.size, 2, none⟩ = some (.int .i64 B') ∧ W.cell? ⟨w8.heap.size, 3, none⟩ = some (.slice Ay n' cy) ∧ W.cell? ⟨w.heap.size + 1, 0, none⟩ = some (.int .i64 N') ∧ W.cell? ⟨w.heap.size + 1, 1, none⟩ = some (.int .i64 I') ∧ W.cell? ⟨w.heap.size + 1, 2, none⟩ = some (.int .i64 B') ∧ W.cell? ⟨w.heap.size + 1, 3, none⟩ = some (.slice A' n' c')) (first | exact ⟨ga0, ga1, ga2, ga3, gb0, gb1, gb2, gb3⟩ | exact ⟨gpa0, gpa1, gpa2, gpa3, gpb0, gpb1, gpb2, gpb3⟩ | exact ⟨gqa0, gqa1, gqa2, gqa3, gqb0, gqb1, gqb2, gqb3⟩) (first | (go_at_call 30; (with_reducible refine (toRoutine_any N' I' B' A' n' c' l' _ rrg.drew hl' (by omega)).mono ?_); rintro e w13 ⟨Ag, cg, rfl, og, btg, stg⟩; have b13 := below_of_drew btg; have s13 := b13.size; obtain ⟨gpa0, gpa1, gpa2, gpa3⟩ := boxcells4 (lay := lvg.trans (b13.mono zvg)) Xy.out; obtain ⟨gpb0, gpb1, gpb2, gpb3⟩ := boxcells4 (lay := lbg.trans (b13.mono zbg)) X1_0.out) | (go_at_call 32; (with_reducible refine (eqRoutine_same _ _ _ _ _ _ _ _ l' _ hl' (by omega) (rvg.below b13) (rd_own og)).mono ?_); rintro e w14 ⟨rfl, b14, s14⟩; obtain ⟨gqa0, gqa1, gqa2, gqa3⟩ := boxcells4 (lay := lvg.trans ((b13.mono zvg).trans (b14.mono (by omega)))) Xy.out; obtain ⟨gqb0, gqb1, gqb2, gqb3⟩ := boxcells4 (lay := lbg.trans ((b13.mono zbg).trans (b14.mono (by omega)))) X1_0.out))
  clear ga0 ga1 ga2 ga3 gb0 gb1 gb2 gb3 gpa0 gpa1 gpa2 gpa3 gpb0 gpb1 gpb2 gpb3 gqa0 gqa1 gqa2 gqa3 gqb0 gqb1 gqb2 gqb3
  go_wp2_with fail
  go_ret
  exact ⟨rfl, ((((((((((((((b0.trans (b1.mono (by omega))).trans (b2.mono (by omega))).trans (b3.mono (by omega))).trans (b4.mono (by omega))).trans (b5.mono (by omega))).trans (b6.mono (by omega))).trans (b7.mono (by omega))).trans (b8.mono (by omega))).trans (b9.mono (by omega))).trans (b10.mono (by omega))).trans (b11.mono (by omega))).trans (b12.mono (by omega))).trans (b13.mono (by omega))).trans (b14.mono (by omega)))⟩
set_option maxRecDepth 100000 in
theorem lifted_fnExactEqualRoutine (os : Os) (started : os.Started) (H : Type) (enc : TypeId × Value → H) :
    ReturnsInHanded {} Try.checked os 9 .any (Rows.fnExactEqualRoutineSpec.pre6 enc Try.prog Try.f9 Rows.fnExactEqualRoutineRow.domain false) (Rows.fnExactEqualRoutineSpec.post enc Try.prog Try.f9 false true false false) := by
  refine returnsInHanded_of_change (C := Try.checked) own started (by kernel_rfl) Try.func9
    (ChangeSpec.witness6 (enc := enc) (C := Try.checked) false ⟨#[], #[.agg #[.int .i64 0, .int .i64 0, .int .i64 0, .slice none 0 0], .agg #[.int .i64 0, .int .i64 0, .int .i64 0, .slice none 0 0]], []⟩ 8 (by kernel_rfl) (by kernel_rfl) (by kernel_rfl) (by kernel_rfl)) ?_
  intro W base args ds gs before hval0 hW hcnd _
  have hval : ∀ (j : Nat) t v, Try.f9.params[j]? = some t → args[j]? = some v → Value.okWide Try.prog W .any base t v := hval0
  have hW' := hW
  obtain ⟨p, q, hA0, hV, rfl, hfz, hnd⟩ := hW
  have hA : DataW.TrodAll enc Try.prog W 0 (fun _ => true) true Try.f9.params.toList args.toList ds p := hA0
  obtain ⟨rfl, rfl⟩ := trodVars_none hV
  have hlt : ∀ x ∈ p, x.block < W.heap.size := fun x hx => hW'.lt x (by simp [hx])
  have key : Calls Try.prog 9 args W fun e W' => e = .returned (.bool true) ∧ Below W.heap.size W W' := by
    rw [Try.params9] at hA hval
    obtain ⟨v0, vs0, d0, ds0, p0, q0, hargs, rfl, rfl, h0, r0⟩ := trodAll_cons hA
    obtain ⟨v1, vs1, d1, ds1, p1, q1, rfl, rfl, rfl, h1, r1⟩ := trodAll_cons r0
    obtain ⟨rfl, rfl, rfl⟩ := trodAll_nil r1
    obtain rfl : args = #[v0, v1] := by cases args; simp_all
    clear hA0 hval0 hW' hA
    obtain ⟨ca0, ca1, ca2, ca3, ya0, ya1, ya2, ya3, ma, rfl, _, _, hya0, hya1, hya2, hya3⟩ := Joins.open_agg4 Try.underlying42 (by kernel_rfl) (show Try.prog.cellsOf 42 = 4 by kernel_rfl) (hval 0 42 v0 rfl rfl) h0
    obtain ⟨Na, ea0, _, _⟩ := DataW.trod_int Try.underlying3 hya0
    obtain ⟨Ia, ea1, _, _⟩ := DataW.trod_int Try.underlying3 hya1
    obtain ⟨Ba, ea2, _, _⟩ := DataW.trod_int Try.underlying3 hya2
    simp at ea0 ea1 ea2
    subst ea0 ea1 ea2
    obtain ⟨Aa, na, cca, la, rfl, hnca, hcma, hla, hrda⟩ := rd_of_slice (cellsf := ocells) Try.underlying40 cells_Op (by decide) trod_Op ocells_len hya3
    obtain ⟨cb0, cb1, cb2, cb3, yb0, yb1, yb2, yb3, mb, rfl, _, _, hyb0, hyb1, hyb2, hyb3⟩ := Joins.open_agg4 Try.underlying42 (by kernel_rfl) (show Try.prog.cellsOf 42 = 4 by kernel_rfl) (hval 1 42 v1 rfl rfl) h1
    obtain ⟨Nb, eb0, _, _⟩ := DataW.trod_int Try.underlying3 hyb0
    obtain ⟨Ib, eb1, _, _⟩ := DataW.trod_int Try.underlying3 hyb1
    obtain ⟨Bb, eb2, _, _⟩ := DataW.trod_int Try.underlying3 hyb2
    simp at eb0 eb1 eb2
    subst eb0 eb1 eb2
    obtain ⟨Ab, nb, ccb, lb, rfl, hncb, hcmb, hlb, hrdb⟩ := rd_of_slice (cellsf := ocells) Try.underlying40 cells_Op (by decide) trod_Op ocells_len hyb3
    exact law_EqualRoutine Na Ia Ba Aa na cca la Nb Ib Bb Ab nb ccb lb W hrda hla hnca hcma hrdb hlb hncb hcmb
  refine key.mono fun e W' ⟨he, hb⟩ => ?_
  subst he
  have hrd : (Try.f9.params.toList.all fun t => Try.prog.readableRec t && decide (t < Try.prog.types.size)) = true := by kernel_rfl
  have hst : ∀ sp : Nat → Bool, (∀ x ∈ p ++ [], sp x.block = true) → DataW.TrodAll enc Try.prog W' 0 sp true Try.f9.params.toList args.toList ds p := fun sp hsp => trodAll_stays (sp := sp) (W' := W') laidOut (fun t ht => by simpa using List.all_eq_true.1 hrd t ht) hA (fun x hx => hb.same (hlt x hx)) (fun x hx => hsp x (by simp [hx]))
  have hds : ds.length = 2 := by
    rw [Try.params9] at hA
    obtain ⟨v0, vs0, d0, ds0, p0, q0, _, rfl, rfl, h0, r0⟩ := trodAll_cons hA
    obtain ⟨v1, vs1, d1, ds1, p1, q1, _, rfl, rfl, h1, r1⟩ := trodAll_cons r0
    obtain ⟨_, rfl, _⟩ := trodAll_nil r1
    rfl
  clear hA hA0 hval hval0
  obtain ⟨e0, e1, rfl⟩ : ∃ e0 e1, ds = [e0, e1] := by match ds, hds with | [e0, e1], _ => exact ⟨e0, e1, rfl⟩
  exact ⟨_, rfl, post_of_below (pa := p) (pv := []) hW' (fun _ _ _ => (trodAll_cons_mk (shut_bool Try.underlying4 _) trodAll_mk0)) hst (fun _ _ => rfl) rfl hb (ok_one (by kernel_rfl) rfl (okWide_bool_mk Try.underlying4 _))⟩
theorem over_fnExactEqualRoutine : Rows.fnExactEqualRoutineRow.holds Try.pinned (OpenSpec.ofChange Rows.fnExactEqualRoutineSpec) :=
  OpenClaim.holds_of_wide 9 Try.f9 rfl rfl rfl rfl rfl rfl rfl ⟨rfl, rfl, rfl, rfl, rfl⟩ rfl rfl rfl rfl rfl (by kernel_rfl) Try.func9 (by kernel_rfl)
    (of_decide_eq_true (by kernel_rfl)) (by unfold Func.isWrapper; first | (rw [if_pos (by decide +kernel)]; kernel_rfl) | (rw [if_neg (by decide +kernel)]; exact ⟨rfl, rfl⟩))
    (fun os started H enc _ => lifted_fnExactEqualRoutine os started H enc)
/-- The statement. -/
theorem fnExactEqualRoutine_holds : Rows.FnExactEqualRoutineSaid := over_fnExactEqualRoutine
end Go.Proofs.Ytjphclkpdgcciaa
