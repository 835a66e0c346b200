/- The program's PermuteBranch returns what the reference's returns, for all branches and lists of numbers, in new memory. -/
import Derived.Test.YtgmaokpebaebkaaFrame
import Derived.Test.YtgmaokpebaebkaaPermS
import Derived.Test.YtgmaokpebaebkaaBranch
import Derived.Test.YtgmaokpebaebkaaIntS
import Derived.Test.YtgmaokpebaebkaaBrsOpen
import Derived.Test.YtgmaokpebaebkaaBrsS
namespace Go.Proofs.Ytgmaokpebaebkaa
open Go.ChangeShapes Go.WideShapes Go.ChangeAt Go.RowKit
set_option linter.unusedVariables false
theorem icell_map (l : List Int) : l.flatMap icell = l.map (Value.int .i64) := by
  induction l with
  | nil => rfl
  | cons x l ih => rw [List.flatMap_cons, ih]; rfl
theorem ints_of {w : World} {A : Option Addr} {n : Nat} {l : List Int} (h : Rd w 1 A n (l.flatMap icell)) : Rd w 1 A n (l.map (Value.int .i64)) := by rw [← icell_map]; exact h
theorem cap_of {w : World} {B e size n c : Nat} {A : Option Addr} {xs : List Value} (h : w.ownsRow B e size (.slice A n c) n xs) : n ≤ c := by
  obtain ⟨A', c', e, hc, _, _⟩ := rd_of_own h
  injection e with _ _ e3
  omega
theorem cells_IntP : Try.prog.cellsOf 3 = 1 := by kernel_rfl
theorem trod_IntP {H : Type} {enc : TypeId × Value → H} {w : World} {base : Nat} {spare : Nat → Bool} {held : Bool} (n : Nat) (cs : List Value) (y : DataW H × List MemPlace) (h : DataW.trod enc Try.prog w base spare held n 3 cs = some y) : ∃ x : Int, cs = icell x := by
  obtain ⟨x, e, _, _⟩ := DataW.trod_int Try.underlying3 h
  exact ⟨x, e⟩
set_option maxRecDepth 100000 in
set_option maxHeartbeats 8000000 in
theorem law_PermuteBranch (b : Int) (A : Option Addr) (n c : Nat) (M : List (List Dm)) (Ap : Option Addr) (m cp : Nat) (P : List Int) (w : World) (rA : RdM w A n M) (rP : Rd w 1 Ap m (P.flatMap icell)) (hpl : P.length = m) (hn : n ≤ 9223372036854775807) (hm : m ≤ 9223372036854775807) :
    Calls Try.prog 4 #[.agg #[.int .i64 b, .slice A n c], .slice Ap m cp] w fun e w' => e = .returned (.bool true) ∧ Below w.heap.size w w' := by
  by_cases hpb : 1048576 < m
  · have hi : decide ((1048576 : Int) < (m : Int)) = true := by simp; omega
    have hi2 : decide (1048576 < m) = true := by simp; omega
    clear rA rP hpl
    go_enter Try.func4, Try.ntmps4
    go_wp2_with fail
    go_ret
    exact ⟨rfl, (by repeat (first | exact Below.refl _ _ | assumption | (refine Below.trans ?_ (Below.mono (by assumption) (by first | omega | (simp; done) | (simp; omega)))) | (with_reducible refine Below.drew ?_) | (with_reducible refine Below.alloc ?_ (by first | omega | (simp; done) | (simp; omega)) _) | (with_reducible refine Below.setCell ?_ (by first | omega | (simp; done) | (simp; omega)) _)))⟩
  have hi : decide ((1048576 : Int) < (m : Int)) = false := by simp; omega
  have hi2 : decide (1048576 < m) = false := by simp; omega
  have hm2 : m ≤ 1048576 := by omega
  clear hpb
  by_cases hbig : (1048576 : Int) - (M.length + szM M) < 0
  · have b0 : Below w.heap.size w (w.alloc (.cells #[.int .i64 b, .slice A n c] 32)) := (by repeat (first | exact Below.refl _ _ | assumption | (refine Below.trans ?_ (Below.mono (by assumption) (by first | omega | (simp; done) | (simp; omega)))) | (with_reducible refine Below.drew ?_) | (with_reducible refine Below.alloc ?_ (by first | omega | (simp; done) | (simp; omega)) _) | (with_reducible refine Below.setCell ?_ (by first | omega | (simp; done) | (simp; omega)) _)))
    have H := Lib.hid (rA.below b0)
    have B0 := Lib.hid b0
    clear rA b0 rP hpl
    go_enter Try.func4, Try.ntmps4
    go_wp2_with fail
    refine (szBranch_any _ _ _ _ M _ _ H.out hn (by omega) (by omega)).mono ?_
    rintro e w1 ⟨rfl, b1, s1⟩
    rw [szV_neg hbig]
    go_wp2_with fail
    go_ret
    exact ⟨rfl, B0.out.trans (b1.mono (by simp))⟩
  obtain ⟨z, hz⟩ : ∃ z : Int, z = 1048576 - (M.length + szM M) := ⟨_, rfl⟩
  have HP := Lib.hid (szV_pos hbig)
  rw [← hz] at HP hbig
  have hz1 : (M.length : Int) + szM M ≤ 1048576 := by omega
  clear hz
  have hl := Lib.hid rA.len
  have hn2 : n ≤ 1048576 := by have := hl.out; omega
  have hoz := szM_perm P M
  have hpl := Lib.hid hpl
  have HCI := Lib.hid (fun A c w Ap cp h hp => PermuteBranch_impl b A n c M Ap m cp P w h (ints_of hp) hpl.out (by omega) (by omega) (by omega))
  have HCS := Lib.hid (fun A c w Ap cp h hp hcp => PermuteBranch_spec b A n c M Ap m cp P w h (ints_of hp) hpl.out hcp (by omega) (by omega) (by omega))
  obtain ⟨O, hO⟩ : ∃ O, O = permM P M := ⟨_, rfl⟩
  rw [← hO] at hoz HCI HCS
  have hoz2 : szM O ≤ 1048576 := by omega
  clear hO hoz
  go_enter Try.func4, Try.ntmps4
  go_wp2_with fail
  obtain ⟨w0, hw0⟩ : ∃ w0, w0 = (World.alloc w (.cells #[.int .i64 b, .slice A n c] 32)) := ⟨_, rfl⟩
  rw [← hw0]
  have b0 : Below w.heap.size w w0 := by rw [hw0]; exact (by repeat (first | exact Below.refl _ _ | assumption | (refine Below.trans ?_ (Below.mono (by assumption) (by first | omega | (simp; done) | (simp; omega)))) | (with_reducible refine Below.drew ?_) | (with_reducible refine Below.alloc ?_ (by first | omega | (simp; done) | (simp; omega)) _) | (with_reducible refine Below.setCell ?_ (by first | omega | (simp; done) | (simp; omega)) _)))
  have s0 : w.heap.size + 1 = w0.heap.size := by rw [hw0]; simp
  have x0_0 : w0.heap[w.heap.size]? = some (.cells #[.int .i64 b, .slice A n c] 32 (0, 0)) := by rw [hw0]; exact boxed1_0 _ _
  have X0_0 := Lib.hid x0_0
  clear x0_0
  have S0 : w.heap.size ≤ w0.heap.size := by omega
  clear hw0
  have rA := rA.below b0
  have rP := rP.below b0
  refine (szBranch_any _ _ _ _ M _ _ rA hn (by omega) (by omega)).mono ?_
  rintro e w1 ⟨rfl, b1, s1⟩
  rw [HP.out]
  obtain ⟨bx1_0, bx1_1⟩ := boxcells2 (lay := (b1.mono (by omega))) X0_0.out
  have lt1 : w.heap.size < w1.heap.size := by omega
  go_wp2_with fail
  clear bx1_0 bx1_1 lt1
  refine (toBranch_any _ _ _ _ M _ (rA.below (b1.mono (by omega))) (by omega) (by omega)).mono ?_
  rintro e w2 ⟨At, ct, Ft, rfl, ot, b2, s2⟩
  have rt := ot.rd'
  have oct := ot
  go_wp2_with fail
  refine (toIntS_any _ _ _ P _ (rP.below ((b1.mono (by omega)).trans (b2.mono (by omega)))) hpl.out (by omega)).mono ?_
  rintro e w3 ⟨vpt, rfl, opt, b3, s3⟩
  obtain ⟨Apt, cpt, rfl, _, _, rpt⟩ := rd_of_own opt
  have ocpt := opt
  have hcpt := cap_of ocpt
  go_wp2_with fail
  refine (HCS.out _ _ _ _ _ (rt.below (b3.mono (by omega))) (rpt.below (Below.refl _ _)) hcpt).mono ?_
  rintro e w4 ⟨Aw, cw, Fw, rfl, ow, b4, s4⟩
  have rw := ow.rd'
  have ocw := ow
  obtain ⟨bx2_0, bx2_1⟩ := boxcells2 (lay := ((((b1.mono (by omega)).trans (b2.mono (by omega))).trans (b3.mono (by omega))).trans (b4.mono (by omega)))) X0_0.out
  have lt2 : w.heap.size < w4.heap.size := by omega
  go_wp2_with fail
  clear bx2_0 bx2_1 lt2
  obtain ⟨w5, hw5⟩ : ∃ w5, w5 = w4.alloc (.cells #[.int .i64 b, .slice Aw n cw] 37) := ⟨_, rfl⟩
  rw [← hw5]
  have b5 : Below w4.heap.size w4 w5 := by rw [hw5]; exact (by repeat (first | exact Below.refl _ _ | assumption | (refine Below.trans ?_ (Below.mono (by assumption) (by first | omega | (simp; done) | (simp; omega)))) | (with_reducible refine Below.drew ?_) | (with_reducible refine Below.alloc ?_ (by first | omega | (simp; done) | (simp; omega)) _) | (with_reducible refine Below.setCell ?_ (by first | omega | (simp; done) | (simp; omega)) _)))
  have s5 : w4.heap.size + 1 = w5.heap.size := by rw [hw5]; simp
  have Xw := Lib.hid (show w5.heap[w4.heap.size]? = some (.cells #[.int .i64 b, .slice Aw n cw] 37 (0, 0)) by rw [hw5]; exact boxed1_0 _ _)
  have s5' := s5
  clear hw5
  refine (toBranch_any _ _ _ _ M _ (rA.below (((((b1.mono (by omega)).trans (b2.mono (by omega))).trans (b3.mono (by omega))).trans (b4.mono (by omega))).trans (b5.mono (by omega)))) (by omega) (by omega)).mono ?_
  rintro e w6 ⟨Ax, cx, Fx, rfl, ox, b6, s6⟩
  have rx := ox.rd'
  have ocx := ox
  go_wp2_with fail
  obtain ⟨w7, hw7⟩ : ∃ w7, w7 = w6.alloc (.cells #[.int .i64 b, .slice Ax n cx] 37) := ⟨_, rfl⟩
  rw [← hw7]
  have b7 : Below w6.heap.size w6 w7 := by rw [hw7]; exact (by repeat (first | exact Below.refl _ _ | assumption | (refine Below.trans ?_ (Below.mono (by assumption) (by first | omega | (simp; done) | (simp; omega)))) | (with_reducible refine Below.drew ?_) | (with_reducible refine Below.alloc ?_ (by first | omega | (simp; done) | (simp; omega)) _) | (with_reducible refine Below.setCell ?_ (by first | omega | (simp; done) | (simp; omega)) _)))
  have s7 : w6.heap.size + 1 = w7.heap.size := by rw [hw7]; simp
  have Xx := Lib.hid (show w7.heap[w6.heap.size]? = some (.cells #[.int .i64 b, .slice Ax n cx] 37 (0, 0)) by rw [hw7]; exact boxed1_0 _ _)
  have s7' := s7
  clear hw7
  refine (toIntS_any _ _ _ P _ (rP.below (((((((b1.mono (by omega)).trans (b2.mono (by omega))).trans (b3.mono (by omega))).trans (b4.mono (by omega))).trans (b5.mono (by omega))).trans (b6.mono (by omega))).trans (b7.mono (by omega)))) hpl.out (by omega)).mono ?_
  rintro e w8 ⟨vpx, rfl, opx, b8, s8⟩
  obtain ⟨Apx, cpx, rfl, _, _, rpx⟩ := rd_of_own opx
  have ocpx := opx
  have hcpx := cap_of ocpx
  obtain ⟨bx3_0, bx3_1⟩ := boxcells2 (lay := (b8.mono (by omega))) Xx.out
  have lt3 : w6.heap.size < w8.heap.size := by omega
  go_wp2_with fail
  clear bx3_0 bx3_1 lt3
  refine (HCI.out _ _ _ _ _ (rx.below ((b7.mono (by omega)).trans (b8.mono (by omega)))) (rpx.below (Below.refl _ _))).mono ?_
  rintro e w9 ⟨Ag, cg, Fg, rfl, og, b9, s9⟩
  have rg := og.rd'
  have ocg := og
  obtain ⟨bx4_0, bx4_1⟩ := boxcells2 (lay := ((((b6.mono (by omega)).trans (b7.mono (by omega))).trans (b8.mono (by omega))).trans (b9.mono (by omega)))) Xw.out
  have lt4 : w4.heap.size < w9.heap.size := by omega
  go_wp2_with fail
  clear bx4_0 bx4_1 lt4
  obtain ⟨w10, hw10⟩ : ∃ w10, w10 = w9.alloc (.cells #[.int .i64 b, .slice Ag n cg] 37) := ⟨_, rfl⟩
  rw [← hw10]
  have b10 : Below w9.heap.size w9 w10 := by rw [hw10]; exact (by repeat (first | exact Below.refl _ _ | assumption | (refine Below.trans ?_ (Below.mono (by assumption) (by first | omega | (simp; done) | (simp; omega)))) | (with_reducible refine Below.drew ?_) | (with_reducible refine Below.alloc ?_ (by first | omega | (simp; done) | (simp; omega)) _) | (with_reducible refine Below.setCell ?_ (by first | omega | (simp; done) | (simp; omega)) _)))
  have s10 : w9.heap.size + 1 = w10.heap.size := by rw [hw10]; simp
  have Xg := Lib.hid (show w10.heap[w9.heap.size]? = some (.cells #[.int .i64 b, .slice Ag n cg] 37 (0, 0)) by rw [hw10]; exact boxed1_0 _ _)
  have s10' := s10
  clear hw10
  refine (eqBranch_same _ _ _ _ _ _ O _ (rg.below (b10.mono (by omega))) (rw.below ((((((b5.mono (by omega)).trans (b6.mono (by omega))).trans (b7.mono (by omega))).trans (b8.mono (by omega))).trans (b9.mono (by omega))).trans (b10.mono (by omega)))) (by omega) (by omega)).mono ?_
  rintro e w11 ⟨rfl, b11, s11⟩
  go_wp2_with fail
  obtain ⟨bx5_0, bx5_1⟩ := boxcells2 (lay := ((((b8.mono (by omega)).trans (b9.mono (by omega))).trans (b10.mono (by omega))).trans (b11.mono (by omega)))) Xx.out
  have lt5 : w6.heap.size < w11.heap.size := by omega
  obtain ⟨bx6_0, bx6_1⟩ := boxcells2 (lay := (((((((((((b1.mono (by omega)).trans (b2.mono (by omega))).trans (b3.mono (by omega))).trans (b4.mono (by omega))).trans (b5.mono (by omega))).trans (b6.mono (by omega))).trans (b7.mono (by omega))).trans (b8.mono (by omega))).trans (b9.mono (by omega))).trans (b10.mono (by omega))).trans (b11.mono (by omega)))) X0_0.out
  have lt6 : w.heap.size < w11.heap.size := by omega
  have rrf := (rA.below (((((((((((b1.mono (by omega)).trans (b2.mono (by omega))).trans (b3.mono (by omega))).trans (b4.mono (by omega))).trans (b5.mono (by omega))).trans (b6.mono (by omega))).trans (b7.mono (by omega))).trans (b8.mono (by omega))).trans (b9.mono (by omega))).trans (b10.mono (by omega))).trans (b11.mono (by omega))))
  have rvf := (rx.below (((((b7.mono (by omega)).trans (b8.mono (by omega))).trans (b9.mono (by omega))).trans (b10.mono (by omega))).trans (b11.mono (by omega))))
  have lvf : Below w7.heap.size w7 w11 := ((((b8.mono (by omega)).trans (b9.mono (by omega))).trans (b10.mono (by omega))).trans (b11.mono (by omega)))
  have lbf : Below w0.heap.size w0 w11 := (((((((((((b1.mono (by omega)).trans (b2.mono (by omega))).trans (b3.mono (by omega))).trans (b4.mono (by omega))).trans (b5.mono (by omega))).trans (b6.mono (by omega))).trans (b7.mono (by omega))).trans (b8.mono (by omega))).trans (b9.mono (by omega))).trans (b10.mono (by omega))).trans (b11.mono (by omega)))
  have zvf : w7.heap.size ≤ w11.heap.size := by omega
  have zbf : w0.heap.size ≤ w11.heap.size := by omega
  go_region_held3 (fun W => W.cell? ⟨w6.heap.size, 0, none⟩ = some (.int .i64 b) ∧ W.cell? ⟨w6.heap.size, 1, none⟩ = some (.slice Ax n cx) ∧ W.cell? ⟨w.heap.size, 0, none⟩ = some (.int .i64 b) ∧ W.cell? ⟨w.heap.size, 1, none⟩ = some (.slice A n c)) (first | exact ⟨bx5_0, bx5_1, bx6_0, bx6_1⟩ | exact ⟨fpa0, fpa1, fpb0, fpb1⟩ | exact ⟨fqa0, fqa1, fqb0, fqb1⟩) (first | (go_at_call 13; (with_reducible refine (toBranch_any b A n c M _ rrf.drew (by omega) (by omega)).mono ?_); rintro e w12 ⟨Af, cf, Ff, rfl, of, btf, stf⟩; have b12 := below_of_drew2 btf; have s12 := b12.size; obtain ⟨fpa0, fpa1⟩ := boxcells2 (lay := lvf.trans (b12.mono zvf)) Xx.out; obtain ⟨fpb0, fpb1⟩ := boxcells2 (lay := lbf.trans (b12.mono zbf)) X0_0.out) | (go_at_call 16; (with_reducible refine (eqBranch_same b _ _ n _ _ M _ (rvf.below b12) of.rd' (by omega) (by omega)).mono ?_); rintro e w13 ⟨rfl, b13, s13⟩; obtain ⟨fqa0, fqa1⟩ := boxcells2 (lay := lvf.trans ((b12.mono zvf).trans (b13.mono (by omega)))) Xx.out; obtain ⟨fqb0, fqb1⟩ := boxcells2 (lay := lbf.trans ((b12.mono zbf).trans (b13.mono (by omega)))) X0_0.out))
  clear bx5_0 bx5_1 lt5 bx6_0 bx6_1 lt6
  all_goals (try clear fpa0 fpa1 fpb0 fpb1 fqa0 fqa1 fqb0 fqb1)
  go_wp2_with fail
  refine (toIntS_any _ _ _ P _ (rP.below (((((((((((((b1.mono (by omega)).trans (b2.mono (by omega))).trans (b3.mono (by omega))).trans (b4.mono (by omega))).trans (b5.mono (by omega))).trans (b6.mono (by omega))).trans (b7.mono (by omega))).trans (b8.mono (by omega))).trans (b9.mono (by omega))).trans (b10.mono (by omega))).trans (b11.mono (by omega))).trans (b12.mono (by omega))).trans (b13.mono (by omega)))) hpl.out (by omega)).mono ?_
  rintro e w14 ⟨vpy, rfl, opy, b14, s14⟩
  obtain ⟨Apy, cpy, rfl, _, _, rpy⟩ := rd_of_own opy
  have ocpy := opy
  have hcpy := cap_of ocpy
  go_wp2_with fail
  refine (eqIntS_same _ _ _ _ _ P _ hpl.out (by omega) (rpx.below ((((((b9.mono (by omega)).trans (b10.mono (by omega))).trans (b11.mono (by omega))).trans (b12.mono (by omega))).trans (b13.mono (by omega))).trans (b14.mono (by omega)))) (rpy.below (Below.refl _ _))).mono ?_
  rintro e w15 ⟨rfl, b15, s15⟩
  obtain ⟨bx7_0, bx7_1⟩ := boxcells2 (lay := ((((((((b8.mono (by omega)).trans (b9.mono (by omega))).trans (b10.mono (by omega))).trans (b11.mono (by omega))).trans (b12.mono (by omega))).trans (b13.mono (by omega))).trans (b14.mono (by omega))).trans (b15.mono (by omega)))) Xx.out
  have lt7 : w6.heap.size < w15.heap.size := by omega
  go_wp2_with fail
  clear bx7_0 bx7_1 lt7
  refine (markBranch_any _ _ _ _ _ M _ 1 _ (ox.below (((((((((b7.mono (by omega)).trans (b8.mono (by omega))).trans (b9.mono (by omega))).trans (b10.mono (by omega))).trans (b11.mono (by omega))).trans (b12.mono (by omega))).trans (b13.mono (by omega))).trans (b14.mono (by omega))).trans (b15.mono (by omega)))) (by omega) (by omega) (by omega) (by omega)).mono ?_
  rintro e w16 ⟨rfl, oxm, k16⟩
  have b16 := k16.below (B := w5.heap.size) (by omega) (fun q hq => (ox.lt q hq).1)
  have s16 := k16.size
  have rxm := oxm.rd'
  have opx := own_kin (ownsRow_below opx (((((((b9.mono (by omega)).trans (b10.mono (by omega))).trans (b11.mono (by omega))).trans (b12.mono (by omega))).trans (b13.mono (by omega))).trans (b14.mono (by omega))).trans (b15.mono (by omega)))) k16 (fun q e hq => by have h1 := (opx.lt q e).1; have h2 := (ocx.lt q hq).2; omega)
  have rpx := rd_own opx
  have og := (og.below ((((((b10.mono (by omega)).trans (b11.mono (by omega))).trans (b12.mono (by omega))).trans (b13.mono (by omega))).trans (b14.mono (by omega))).trans (b15.mono (by omega)))).kin k16 (fun q e hq => by have h1 := (og.lt q e).1; have h2 := (ocx.lt q hq).2; omega)
  have rg := og.rd'
  have opy := own_kin (ownsRow_below opy (b15.mono (by omega))) k16 (fun q e hq => by have h1 := (opy.lt q e).1; have h2 := (ocx.lt q hq).2; omega)
  have rpy := rd_own opy
  have Xx := Lib.hid (show w16.heap[w6.heap.size]? = some (.cells #[.int .i64 b, .slice Ax n cx] 37 (0, 0)) from (k16.block w6.heap.size (by omega) (fun hq => by have := (ocx.lt _ hq).2; omega)).trans (((show Below w7.heap.size w7 w15 from ((((((((b8.mono (by omega)).trans (b9.mono (by omega))).trans (b10.mono (by omega))).trans (b11.mono (by omega))).trans (b12.mono (by omega))).trans (b13.mono (by omega))).trans (b14.mono (by omega))).trans (b15.mono (by omega)))).block _ (by omega)).trans Xx.out))
  have Xg := Lib.hid (show w16.heap[w9.heap.size]? = some (.cells #[.int .i64 b, .slice Ag n cg] 37 (0, 0)) from (k16.block w9.heap.size (by omega) (fun hq => by have := (ocx.lt _ hq).2; omega)).trans (((show Below w10.heap.size w10 w15 from (((((b11.mono (by omega)).trans (b12.mono (by omega))).trans (b13.mono (by omega))).trans (b14.mono (by omega))).trans (b15.mono (by omega)))).block _ (by omega)).trans Xg.out))
  go_wp2_with fail
  refine (markIntS_any _ _ _ _ (1 + 5 * szM M) _ (ownsRow_below opx (Below.refl _ _)) (by omega) (by omega) (by omega)).mono ?_
  rintro e w17 ⟨rfl, opxm, g17⟩
  have k17 := kin_of_grown g17
  have b17 := k17.below (B := w7.heap.size) (by omega) (fun q hq => (opx.lt q (by simpa using hq)).1)
  have s17 := k17.size
  have rpxm := rd_own opxm
  have og := (og.below (Below.refl _ _)).kin k17 (fun q e hq => by have h1 := (og.lt q e).1; have h2 := ((fun q hq => ocpx.lt q (by simpa using hq)) q hq).2; omega)
  have rg := og.rd'
  have opy := own_kin (ownsRow_below opy (Below.refl _ _)) k17 (fun q e hq => by have h1 := (opy.lt q e).1; have h2 := ((fun q hq => ocpx.lt q (by simpa using hq)) q hq).2; omega)
  have rpy := rd_own opy
  have Xg := Lib.hid (show w17.heap[w9.heap.size]? = some (.cells #[.int .i64 b, .slice Ag n cg] 37 (0, 0)) from (k17.block w9.heap.size (by omega) (fun hq => by have := (ocpx.lt _ (by simpa using hq)).2; omega)).trans (((show Below w16.heap.size w16 w16 from (Below.refl _ _)).block _ (by omega)).trans Xg.out))
  have hk0 : decide (1 + 5 * (szM M : Int) + (m : Int) < 0) = false := by simp; omega
  obtain ⟨bx8_0, bx8_1⟩ := boxcells2 (lay := (Below.refl _ _)) Xg.out
  have lt8 : w9.heap.size < w17.heap.size := by omega
  obtain ⟨bx9_0, bx9_1⟩ := boxcells2 (lay := ((((((((((((b6.mono (by omega)).trans (b7.mono (by omega))).trans (b8.mono (by omega))).trans (b9.mono (by omega))).trans (b10.mono (by omega))).trans (b11.mono (by omega))).trans (b12.mono (by omega))).trans (b13.mono (by omega))).trans (b14.mono (by omega))).trans (b15.mono (by omega))).trans (b16.mono (by omega))).trans (b17.mono (by omega)))) Xw.out
  have lt9 : w4.heap.size < w17.heap.size := by omega
  go_wp2_with fail
  clear bx8_0 bx8_1 lt8 bx9_0 bx9_1 lt9
  refine (eqBranch_same _ _ _ _ _ _ O _ (rg.below (Below.refl _ _)) (rw.below (((((((((((((b5.mono (by omega)).trans (b6.mono (by omega))).trans (b7.mono (by omega))).trans (b8.mono (by omega))).trans (b9.mono (by omega))).trans (b10.mono (by omega))).trans (b11.mono (by omega))).trans (b12.mono (by omega))).trans (b13.mono (by omega))).trans (b14.mono (by omega))).trans (b15.mono (by omega))).trans (b16.mono (by omega))).trans (b17.mono (by omega)))) (by omega) (by omega)).mono ?_
  rintro e w18 ⟨rfl, b18, s18⟩
  obtain ⟨bx10_0, bx10_1⟩ := boxcells2 (lay := (b18.mono (by omega))) Xg.out
  have lt10 : w9.heap.size < w18.heap.size := by omega
  go_wp2_with fail
  clear bx10_0 bx10_1 lt10
  refine (markBranch_any _ _ _ _ _ O _ 1 _ (og.below (b18.mono (by omega))) (by omega) (by omega) (by omega) (by omega)).mono ?_
  rintro e w19 ⟨rfl, ogm, k19⟩
  have b19 := k19.below (B := w8.heap.size) (by omega) (fun q hq => (og.lt q hq).1)
  have s19 := k19.size
  have rgm := ogm.rd'
  have opy := own_kin (ownsRow_below opy (b18.mono (by omega))) k19 (fun q e hq => by have h1 := (opy.lt q e).1; have h2 := (ocg.lt q hq).2; omega)
  have rpy := rd_own opy
  have Xg := Lib.hid (show w19.heap[w9.heap.size]? = some (.cells #[.int .i64 b, .slice Ag n cg] 37 (0, 0)) from (k19.block w9.heap.size (by omega) (fun hq => by have := (ocg.lt _ hq).2; omega)).trans (((show Below w17.heap.size w17 w18 from (b18.mono (by omega))).block _ (by omega)).trans Xg.out))
  obtain ⟨bx11_0, bx11_1⟩ := boxcells2 (lay := (Below.refl _ _)) Xg.out
  have lt11 : w9.heap.size < w19.heap.size := by omega
  go_wp2_with fail
  clear bx11_0 bx11_1 lt11
  refine (heldBranch_any _ _ _ _ O 1 _ (rgm.below (Below.refl _ _)) (by omega) (by omega) (by omega) (by omega)).mono ?_
  rintro e w20 ⟨rfl, b20, s20⟩
  have hk1 : decide (1 + 5 * (szM O : Int) < 0) = false := by simp; omega
  obtain ⟨bx12_0, bx12_1⟩ := boxcells2 (lay := ((((((((((((((((((((b1.mono (by omega)).trans (b2.mono (by omega))).trans (b3.mono (by omega))).trans (b4.mono (by omega))).trans (b5.mono (by omega))).trans (b6.mono (by omega))).trans (b7.mono (by omega))).trans (b8.mono (by omega))).trans (b9.mono (by omega))).trans (b10.mono (by omega))).trans (b11.mono (by omega))).trans (b12.mono (by omega))).trans (b13.mono (by omega))).trans (b14.mono (by omega))).trans (b15.mono (by omega))).trans (b16.mono (by omega))).trans (b17.mono (by omega))).trans (b18.mono (by omega))).trans (b19.mono (by omega))).trans (b20.mono (by omega)))) X0_0.out
  have lt12 : w.heap.size < w20.heap.size := by omega
  go_wp2_with fail
  clear bx12_0 bx12_1 lt12
  refine (toBranch_any _ _ _ _ M _ (rA.below ((((((((((((((((((((b1.mono (by omega)).trans (b2.mono (by omega))).trans (b3.mono (by omega))).trans (b4.mono (by omega))).trans (b5.mono (by omega))).trans (b6.mono (by omega))).trans (b7.mono (by omega))).trans (b8.mono (by omega))).trans (b9.mono (by omega))).trans (b10.mono (by omega))).trans (b11.mono (by omega))).trans (b12.mono (by omega))).trans (b13.mono (by omega))).trans (b14.mono (by omega))).trans (b15.mono (by omega))).trans (b16.mono (by omega))).trans (b17.mono (by omega))).trans (b18.mono (by omega))).trans (b19.mono (by omega))).trans (b20.mono (by omega)))) (by omega) (by omega)).mono ?_
  rintro e w21 ⟨Az, cz, Fz, rfl, oz, b21, s21⟩
  have rz := oz.rd'
  have ocz := oz
  go_wp2_with fail
  refine (toIntS_any _ _ _ P _ (rP.below (((((((((((((((((((((b1.mono (by omega)).trans (b2.mono (by omega))).trans (b3.mono (by omega))).trans (b4.mono (by omega))).trans (b5.mono (by omega))).trans (b6.mono (by omega))).trans (b7.mono (by omega))).trans (b8.mono (by omega))).trans (b9.mono (by omega))).trans (b10.mono (by omega))).trans (b11.mono (by omega))).trans (b12.mono (by omega))).trans (b13.mono (by omega))).trans (b14.mono (by omega))).trans (b15.mono (by omega))).trans (b16.mono (by omega))).trans (b17.mono (by omega))).trans (b18.mono (by omega))).trans (b19.mono (by omega))).trans (b20.mono (by omega))).trans (b21.mono (by omega)))) hpl.out (by omega)).mono ?_
  rintro e w22 ⟨vpz, rfl, opz, b22, s22⟩
  obtain ⟨Apz, cpz, rfl, _, _, rpz⟩ := rd_of_own opz
  have ocpz := opz
  have hcpz := cap_of ocpz
  go_wp2_with fail
  refine (HCI.out _ _ _ _ _ (rz.below (b22.mono (by omega))) (rpz.below (Below.refl _ _))).mono ?_
  rintro e w23 ⟨Ah, ch, Fh, rfl, oh, b23, s23⟩
  have rh := oh.rd'
  have och := oh
  obtain ⟨bx13_0, bx13_1⟩ := boxcells2 (lay := ((((((((((((((((((b6.mono (by omega)).trans (b7.mono (by omega))).trans (b8.mono (by omega))).trans (b9.mono (by omega))).trans (b10.mono (by omega))).trans (b11.mono (by omega))).trans (b12.mono (by omega))).trans (b13.mono (by omega))).trans (b14.mono (by omega))).trans (b15.mono (by omega))).trans (b16.mono (by omega))).trans (b17.mono (by omega))).trans (b18.mono (by omega))).trans (b19.mono (by omega))).trans (b20.mono (by omega))).trans (b21.mono (by omega))).trans (b22.mono (by omega))).trans (b23.mono (by omega)))) Xw.out
  have lt13 : w4.heap.size < w23.heap.size := by omega
  go_wp2_with fail
  clear bx13_0 bx13_1 lt13
  obtain ⟨w24, hw24⟩ : ∃ w24, w24 = w23.alloc (.cells #[.int .i64 b, .slice Ah n ch] 37) := ⟨_, rfl⟩
  rw [← hw24]
  have b24 : Below w23.heap.size w23 w24 := by rw [hw24]; exact (by repeat (first | exact Below.refl _ _ | assumption | (refine Below.trans ?_ (Below.mono (by assumption) (by first | omega | (simp; done) | (simp; omega)))) | (with_reducible refine Below.drew ?_) | (with_reducible refine Below.alloc ?_ (by first | omega | (simp; done) | (simp; omega)) _) | (with_reducible refine Below.setCell ?_ (by first | omega | (simp; done) | (simp; omega)) _)))
  have s24 : w23.heap.size + 1 = w24.heap.size := by rw [hw24]; simp
  have Xh := Lib.hid (show w24.heap[w23.heap.size]? = some (.cells #[.int .i64 b, .slice Ah n ch] 37 (0, 0)) by rw [hw24]; exact boxed1_0 _ _)
  have s24' := s24
  clear hw24
  refine (eqBranch_same _ _ _ _ _ _ O _ (rh.below (b24.mono (by omega))) (rw.below ((((((((((((((((((((b5.mono (by omega)).trans (b6.mono (by omega))).trans (b7.mono (by omega))).trans (b8.mono (by omega))).trans (b9.mono (by omega))).trans (b10.mono (by omega))).trans (b11.mono (by omega))).trans (b12.mono (by omega))).trans (b13.mono (by omega))).trans (b14.mono (by omega))).trans (b15.mono (by omega))).trans (b16.mono (by omega))).trans (b17.mono (by omega))).trans (b18.mono (by omega))).trans (b19.mono (by omega))).trans (b20.mono (by omega))).trans (b21.mono (by omega))).trans (b22.mono (by omega))).trans (b23.mono (by omega))).trans (b24.mono (by omega)))) (by omega) (by omega)).mono ?_
  rintro e w25 ⟨rfl, b25, s25⟩
  obtain ⟨bx14_0, bx14_1⟩ := boxcells2 (lay := ((((((b20.mono (by omega)).trans (b21.mono (by omega))).trans (b22.mono (by omega))).trans (b23.mono (by omega))).trans (b24.mono (by omega))).trans (b25.mono (by omega)))) Xg.out
  have lt14 : w9.heap.size < w25.heap.size := by omega
  go_wp2_with fail
  clear bx14_0 bx14_1 lt14
  refine (heldBranch_any _ _ _ _ O 1 _ (rgm.below ((((((b20.mono (by omega)).trans (b21.mono (by omega))).trans (b22.mono (by omega))).trans (b23.mono (by omega))).trans (b24.mono (by omega))).trans (b25.mono (by omega)))) (by omega) (by omega) (by omega) (by omega)).mono ?_
  rintro e w26 ⟨rfl, b26, s26⟩
  go_wp2_with fail
  go_ret
  exact ⟨rfl, ((((((((((((((((((((((((((b0.trans (b1.mono (by omega))).trans (b2.mono (by omega))).trans (b3.mono (by omega))).trans (b4.mono (by omega))).trans (b5.mono (by omega))).trans (b6.mono (by omega))).trans (b7.mono (by omega))).trans (b8.mono (by omega))).trans (b9.mono (by omega))).trans (b10.mono (by omega))).trans (b11.mono (by omega))).trans (b12.mono (by omega))).trans (b13.mono (by omega))).trans (b14.mono (by omega))).trans (b15.mono (by omega))).trans (b16.mono (by omega))).trans (b17.mono (by omega))).trans (b18.mono (by omega))).trans (b19.mono (by omega))).trans (b20.mono (by omega))).trans (b21.mono (by omega))).trans (b22.mono (by omega))).trans (b23.mono (by omega))).trans (b24.mono (by omega))).trans (b25.mono (by omega))).trans (b26.mono (by omega)))⟩
set_option maxRecDepth 100000 in
theorem lifted_fnExactPermuteBranch (os : Os) (started : os.Started) (H : Type) (enc : TypeId × Value → H) :
    ReturnsInHanded {} Try.checked os 4 .any (Rows.fnExactPermuteBranchSpec.pre6 enc Try.prog Try.f4 Rows.fnExactPermuteBranchRow.domain false) (Rows.fnExactPermuteBranchSpec.post enc Try.prog Try.f4 false true false false) := by
  refine returnsInHanded_of_change (C := Try.checked) own started (by kernel_rfl) Try.func4
    (ChangeSpec.witness6 (enc := enc) (C := Try.checked) false ⟨#[], #[.agg #[.int .i64 0, .slice none 0 0], .slice none 0 0], []⟩ 8 (by kernel_rfl) (by kernel_rfl) (by kernel_rfl) (by kernel_rfl)) ?_
  intro W base args ds gs before hval0 hW hcnd _
  have hval : ∀ (j : Nat) t v, Try.f4.params[j]? = some t → args[j]? = some v → Value.okWide Try.prog W .any base t v := hval0
  have hW' := hW
  obtain ⟨p, q, hA0, hV, rfl, hfz, hnd⟩ := hW
  have hA : DataW.TrodAll enc Try.prog W 0 (fun _ => true) true Try.f4.params.toList args.toList ds p := hA0
  obtain ⟨rfl, rfl⟩ := trodVars_none hV
  have hlt : ∀ x ∈ p, x.block < W.heap.size := fun x hx => hW'.lt x (by simp [hx])
  have key : Calls Try.prog 4 args W fun e W' => e = .returned (.bool true) ∧ Below W.heap.size W W' := by
    rw [Try.params4] at hA hval
    obtain ⟨v0, vs0, d0, ds0, p0, q0, hargs, rfl, rfl, h0, r0⟩ := trodAll_cons hA
    obtain ⟨v1, vs1, d1, ds1, p1, q1, rfl, rfl, rfl, h1, r1⟩ := trodAll_cons r0
    obtain ⟨rfl, rfl, rfl⟩ := trodAll_nil r1
    obtain rfl : args = #[v0, v1] := by cases args; simp_all
    clear hA0 hval0 hW' hA
    obtain ⟨c0, c1, y0, y1, ma, rfl, _, _, hy0, hy1⟩ := Joins.open_agg2 Try.underlying32 (by kernel_rfl) (show Try.prog.cellsOf 32 = 2 by kernel_rfl) (hval 0 32 v0 rfl rfl) h0
    obtain ⟨b, e0, _, _⟩ := DataW.trod_int Try.underlying3 hy0
    simp at e0
    subst e0
    obtain ⟨A, c, M, rfl, hnc, hcm, hrd⟩ := open_mat hy1
    obtain ⟨fuel1, hf1⟩ := h1
    obtain ⟨Ap, m, cp, P, hv1, hnp, hcmp, hlp, hrp⟩ := rd_of_slice (cellsf := icell) Try.underlying33 cells_IntP (by decide) trod_IntP icell_len (slice_one (hval 1 33 v1 rfl rfl) Try.underlying33 hf1)
    subst hv1
    exact law_PermuteBranch b A _ c M Ap m cp P W hrd hrp hlp (by simp only [maxLen] at hcm; omega) (by simp only [maxLen] at hcmp; omega)
  refine key.mono fun e W' ⟨he, hb⟩ => ?_
  subst he
  have hrd : (Try.f4.params.toList.all fun t => Try.prog.readableRec t && decide (t < Try.prog.types.size)) = true := by kernel_rfl
  have hst : ∀ sp : Nat → Bool, (∀ x ∈ p ++ [], sp x.block = true) → DataW.TrodAll enc Try.prog W' 0 sp true Try.f4.params.toList args.toList ds p := fun sp hsp => trodAll_stays (sp := sp) (W' := W') laidOut (fun t ht => by simpa using List.all_eq_true.1 hrd t ht) hA (fun x hx => hb.same (hlt x hx)) (fun x hx => hsp x (by simp [hx]))
  have hds : ds.length = 2 := by
    rw [Try.params4] at hA
    obtain ⟨v0, vs0, d0, ds0, p0, q0, _, rfl, rfl, h0, r0⟩ := trodAll_cons hA
    obtain ⟨v1, vs1, d1, ds1, p1, q1, _, rfl, rfl, h1, r1⟩ := trodAll_cons r0
    obtain ⟨_, rfl, _⟩ := trodAll_nil r1
    rfl
  clear hA hA0 hval hval0
  obtain ⟨e0, e1, rfl⟩ : ∃ e0 e1, ds = [e0, e1] := by match ds, hds with | [e0, e1], _ => exact ⟨e0, e1, rfl⟩
  exact ⟨_, rfl, post_of_below (pa := p) (pv := []) hW' (fun _ _ _ => (trodAll_cons_mk (shut_bool Try.underlying4 _) trodAll_mk0)) hst (fun _ _ => rfl) rfl hb (ok_one (by kernel_rfl) rfl (okWide_bool_mk Try.underlying4 _))⟩
theorem over_fnExactPermuteBranch : Rows.fnExactPermuteBranchRow.holds Try.pinned (OpenSpec.ofChange Rows.fnExactPermuteBranchSpec) :=
  OpenClaim.holds_of_wide 4 Try.f4 rfl rfl rfl rfl rfl rfl rfl ⟨rfl, rfl, rfl, rfl, rfl⟩ rfl rfl rfl rfl rfl (by kernel_rfl) Try.func4 (by kernel_rfl)
    (of_decide_eq_true (by kernel_rfl)) (by unfold Func.isWrapper; first | (rw [if_pos (by decide +kernel)]; kernel_rfl) | (rw [if_neg (by decide +kernel)]; exact ⟨rfl, rfl⟩))
    (fun os started H enc _ => lifted_fnExactPermuteBranch os started H enc)
/-- The statement. -/
theorem fnExactPermuteBranch_holds : Rows.FnExactPermuteBranchSaid := over_fnExactPermuteBranch
end Go.Proofs.Ytgmaokpebaebkaa
