/- The program's MeasuredBits returns what the reference's returns, for every program, in new memory. -/
import Derived.Test.YtijocafindbebaaFrame
import Derived.Test.YtijocafindbebaaBitsI
import Derived.Test.YtijocafindbebaaTreeOpen
import Derived.Test.YtijocafindbebaaNFp
import Derived.Test.YtijocafindbebaaStrL
namespace Go.Proofs.Ytijocafindbebaa
open Go.ChangeShapes Go.WideShapes Go.ChangeAt Go.RowKit
set_option linter.unusedVariables false
theorem below_of_drew3 {w w' : World} (h : Below w.drew.heap.size w.drew w') : Below w.heap.size w w' := ⟨h.os, h.tape, h.output, h.size, h.block⟩
set_option maxRecDepth 100000 in
set_option maxHeartbeats 8000000 in
theorem law_MeasuredBits (d : Nat) (qs : List ByteArray) (l : List (Tr d)) (Aq : Option Addr) (cq : Nat) (Ab : Option Addr) (nb cb : Nat) (w : World) (rA : Rd w 1 Aq qs.length (strs qs)) (rB : RdT w 0 d Ab nb l) (hml : qs.length ≤ 9223372036854775807) (hqz : ∀ a ∈ qs, a.size ≤ 9223372036854775807) (hok : OkT d l) :
    Calls Try.prog 3 #[.agg #[.slice Aq qs.length cq, .slice Ab nb cb]] w fun e w' => e = .returned (.bool true) ∧ Below w.heap.size w w' := by
  by_cases hbig : subSz 1048576 (qs.length + szS qs + szT d l) < 0
  · have b0 : Below w.heap.size w (w.alloc (.cells #[.slice Aq qs.length cq, .slice Ab nb cb] 25)) := (by repeat (first | exact Below.refl _ _ | assumption | (refine Below.trans ?_ (Below.mono (by assumption) (by first | omega | (simp; done) | (simp; omega)))) | (with_reducible refine Below.drew ?_) | (with_reducible refine Below.alloc ?_ (by first | omega | (simp; done) | (simp; omega)) _) | (with_reducible refine Below.setCell ?_ (by first | omega | (simp; done) | (simp; omega)) _)))
    have HA := Lib.hid (rA.below b0)
    have HBd := Lib.hid (rB.below b0)
    have B0 := Lib.hid b0
    have HZ := Lib.hid hqz
    clear rA rB b0 hqz
    go_enter Try.func3, Try.ntmps3
    go_wp2_with fail
    refine (szProgram_any d _ _ _ _ qs l _ _ _ _ _ HA.out HBd.out rfl hml HZ.out hok (by omega) (by omega)).mono ?_
    rintro e w1 ⟨rfl, b1, s1⟩
    go_wp2_with fail
    go_ret
    exact ⟨rfl, B0.out.trans (b1.mono (by simp))⟩
  have hn0 := subSz_le hbig
  have hn : szT d l ≤ 1048576 := by omega
  have hmn : qs.length ≤ 1048576 := by omega
  have hmz : szS qs ≤ 1048576 := by omega
  have HCS := Lib.hid (fun Aq m cq Ab nb cb w lo rb => MeasuredBits_spec d lo Aq m cq l Ab nb cb w rb hn)
  have HCI := Lib.hid (fun Aq m cq Ab nb cb w lo rb => MeasuredBits_impl d lo Aq m cq l Ab nb cb w rb hn)
  have hTL := bitsT_len d l []
  have hKL := kT_le d l
  obtain ⟨T, hT⟩ : ∃ T, T = bitsT d l [] := ⟨_, rfl⟩
  rw [← hT] at HCS HCI hTL
  have hTl : T.length ≤ 10485760 := by simp at hTL; omega
  clear hT hTL
  have HZ := Lib.hid hqz
  clear hqz
  go_enter Try.func3, Try.ntmps3
  go_wp2_with fail
  obtain ⟨w0, hw0⟩ : ∃ w0, w0 = (World.alloc w (.cells #[.slice Aq qs.length cq, .slice Ab nb cb] 25)) := ⟨_, rfl⟩
  rw [← hw0]
  have b0 : Below w.heap.size w w0 := by rw [hw0]; exact (by repeat (first | exact Below.refl _ _ | assumption | (refine Below.trans ?_ (Below.mono (by assumption) (by first | omega | (simp; done) | (simp; omega)))) | (with_reducible refine Below.drew ?_) | (with_reducible refine Below.alloc ?_ (by first | omega | (simp; done) | (simp; omega)) _) | (with_reducible refine Below.setCell ?_ (by first | omega | (simp; done) | (simp; omega)) _)))
  have s0 : w.heap.size + 1 = w0.heap.size := by rw [hw0]; simp
  have x0_0 : w0.heap[w.heap.size]? = some (.cells #[.slice Aq qs.length cq, .slice Ab nb cb] 25 (0, 0)) := by rw [hw0]; exact boxed1_0 _ _
  have X0_0 := Lib.hid x0_0
  clear x0_0
  have S0 : w.heap.size ≤ w0.heap.size := by omega
  clear hw0
  have rA := rA.below b0
  have rB := rB.below b0
  refine (szProgram_any d _ _ _ _ qs l _ _ _ _ _ rA rB rfl hml HZ.out hok (by omega) (by omega)).mono ?_
  rintro e w1 ⟨rfl, b1, s1⟩
  obtain ⟨bx1_0, bx1_1⟩ := boxcells2 (lay := (b1.mono (by omega))) X0_0.out
  have lt1 : w.heap.size < w1.heap.size := by omega
  go_wp2_with fail
  clear bx1_0 bx1_1 lt1
  refine (toProgram_any d _ _ _ _ qs l _ _ _ _ (rA.below (b1.mono (by omega))) (rB.below (b1.mono (by omega))) rfl hmn hn).mono ?_
  rintro e w2 ⟨At, ct, Bt, dt, rfl, rat, rbt, b2, s2⟩
  go_wp2_with fail
  refine (HCS.out _ _ _ _ _ _ _ _ (rbt.below (Below.refl _ _))).mono ?_
  rintro e w3 ⟨vw, rfl, ow, b3, s3⟩
  obtain ⟨Aw, cw, rfl, _, _, rw⟩ := rd_of_own ow
  have ocw := ow
  obtain ⟨bx2_0, bx2_1⟩ := boxcells2 (lay := (((b1.mono (by omega)).trans (b2.mono (by omega))).trans (b3.mono (by omega)))) X0_0.out
  have lt2 : w.heap.size < w3.heap.size := by omega
  go_wp2_with fail
  clear bx2_0 bx2_1 lt2
  refine (toProgram_nf d _ _ _ _ qs l _ _ _ _ (rA.below (((b1.mono (by omega)).trans (b2.mono (by omega))).trans (b3.mono (by omega)))) (rB.below (((b1.mono (by omega)).trans (b2.mono (by omega))).trans (b3.mono (by omega)))) rfl hmn hn).mono ?_
  rintro e w4 ⟨⟨Ax, cx, Bx, dx, rfl, rax, rbx, b4, s4⟩, nfx⟩
  have NFx := Lib.hid nfx
  clear nfx
  go_wp2_with fail
  obtain ⟨w5, hw5⟩ : ∃ w5, w5 = w4.alloc (.cells #[.slice Ax qs.length cx, .slice Bx nb dx] 30) := ⟨_, rfl⟩
  rw [← hw5]
  have b5 : Below w4.heap.size w4 w5 := by rw [hw5]; exact (by repeat (first | exact Below.refl _ _ | assumption | (refine Below.trans ?_ (Below.mono (by assumption) (by first | omega | (simp; done) | (simp; omega)))) | (with_reducible refine Below.drew ?_) | (with_reducible refine Below.alloc ?_ (by first | omega | (simp; done) | (simp; omega)) _) | (with_reducible refine Below.setCell ?_ (by first | omega | (simp; done) | (simp; omega)) _)))
  have s5 : w4.heap.size + 1 = w5.heap.size := by rw [hw5]; simp
  have Xx := Lib.hid (show w5.heap[w4.heap.size]? = some (.cells #[.slice Ax qs.length cx, .slice Bx nb dx] 30 (0, 0)) by rw [hw5]; exact boxed1_0 _ _)
  have s5' := s5
  clear hw5
  refine (HCI.out _ _ _ _ _ _ _ _ (rbx.below (b5.mono (by omega)))).mono ?_
  rintro e w6 ⟨vg, rfl, og, b6, s6⟩
  obtain ⟨Ag, cg, rfl, _, _, rg⟩ := rd_of_own og
  have ocg := og
  go_wp2_with fail
  refine (eqStringS_same _ _ _ _ _ T _ rfl (by omega) (rg.below (Below.refl _ _)) (rw.below (((b4.mono (by omega)).trans (b5.mono (by omega))).trans (b6.mono (by omega))))).mono ?_
  rintro e w7 ⟨rfl, b7, s7⟩
  go_wp2_with fail
  obtain ⟨bx3_0, bx3_1⟩ := boxcells2 (lay := ((b6.mono (by omega)).trans (b7.mono (by omega)))) Xx.out
  have lt3 : w4.heap.size < w7.heap.size := by omega
  obtain ⟨bx4_0, bx4_1⟩ := boxcells2 (lay := (((((((b1.mono (by omega)).trans (b2.mono (by omega))).trans (b3.mono (by omega))).trans (b4.mono (by omega))).trans (b5.mono (by omega))).trans (b6.mono (by omega))).trans (b7.mono (by omega)))) X0_0.out
  have lt4 : w.heap.size < w7.heap.size := by omega
  have rrA := rA.below (((((((b1.mono (by omega)).trans (b2.mono (by omega))).trans (b3.mono (by omega))).trans (b4.mono (by omega))).trans (b5.mono (by omega))).trans (b6.mono (by omega))).trans (b7.mono (by omega)))
  have rrB := rB.below (((((((b1.mono (by omega)).trans (b2.mono (by omega))).trans (b3.mono (by omega))).trans (b4.mono (by omega))).trans (b5.mono (by omega))).trans (b6.mono (by omega))).trans (b7.mono (by omega)))
  have rvA := (rax.below (((b5.mono (by omega)).trans (b6.mono (by omega))).trans (b7.mono (by omega))))
  have rvB := (rbx.below (((b5.mono (by omega)).trans (b6.mono (by omega))).trans (b7.mono (by omega))))
  have lvf : Below w5.heap.size w5 w7 := ((b6.mono (by omega)).trans (b7.mono (by omega)))
  have lbf : Below w0.heap.size w0 w7 := (((((((b1.mono (by omega)).trans (b2.mono (by omega))).trans (b3.mono (by omega))).trans (b4.mono (by omega))).trans (b5.mono (by omega))).trans (b6.mono (by omega))).trans (b7.mono (by omega)))
  have zvf : w5.heap.size ≤ w7.heap.size := by omega
  have zbf : w0.heap.size ≤ w7.heap.size := by omega
  go_region_held3 (fun W => W.cell? ⟨w4.heap.size, 0, none⟩ = some (.slice Ax qs.length cx) ∧ W.cell? ⟨w4.heap.size, 1, none⟩ = some (.slice Bx nb dx) ∧ W.cell? ⟨w.heap.size, 0, none⟩ = some (.slice Aq qs.length cq) ∧ W.cell? ⟨w.heap.size, 1, none⟩ = some (.slice Ab nb cb)) (first | exact ⟨bx3_0, bx3_1, bx4_0, bx4_1⟩ | exact ⟨fpa0, fpa1, fpb0, fpb1⟩ | exact ⟨fqa0, fqa1, fqb0, fqb1⟩) (first | (go_at_call 7; (with_reducible refine (toProgram_any d _ _ _ _ qs l _ _ _ _ (Rd.drew rrA) (RdT.drew rrB) rfl hmn hn).mono ?_); rintro e w8 ⟨Af, cf, Bf, df, rfl, raf, rbf, btf, stf⟩; have b8 := below_of_drew3 btf; have s8 := b8.size; obtain ⟨fpa0, fpa1⟩ := boxcells2 (lay := lvf.trans (b8.mono zvf)) Xx.out; obtain ⟨fpb0, fpb1⟩ := boxcells2 (lay := lbf.trans (b8.mono zbf)) X0_0.out) | (go_at_call 10; (with_reducible refine (eqProgram_any d _ _ _ _ qs l _ _ _ _ _ _ _ _ _ (rvA.below b8).rd (rvB.below b8) raf.rd rbf rfl hmn hn).mono ?_); rintro e w9 ⟨rfl, b9, s9⟩; obtain ⟨fqa0, fqa1⟩ := boxcells2 (lay := lvf.trans ((b8.mono zvf).trans (b9.mono (by omega)))) Xx.out; obtain ⟨fqb0, fqb1⟩ := boxcells2 (lay := lbf.trans ((b8.mono zbf).trans (b9.mono (by omega)))) X0_0.out))
  clear bx3_0 bx3_1 lt3 bx4_0 bx4_1 lt4
  all_goals (try clear fpa0 fpa1 fpb0 fpb1 fqa0 fqa1 fqb0 fqb1)
  obtain ⟨bx5_0, bx5_1⟩ := boxcells2 (lay := ((((b6.mono (by omega)).trans (b7.mono (by omega))).trans (b8.mono (by omega))).trans (b9.mono (by omega)))) Xx.out
  have lt5 : w4.heap.size < w9.heap.size := by omega
  go_wp2_with fail
  clear bx5_0 bx5_1 lt5
  have mkx : Mk w3.heap.size w4.heap.size w4 w9 := Mk.of_below (((((b5.mono (by omega)).trans (b6.mono (by omega))).trans (b7.mono (by omega))).trans (b8.mono (by omega))).trans (b9.mono (by omega))) (Nat.le_refl _)
  refine (markProgram_any d w3.heap.size w4.heap.size _ _ l _ _ _ _ 1 _ ((ws_of rax NFx.out).mk mkx) ((wt_of NFx.out rbx).mk mkx) (by omega) (by omega) (by omega) (by omega) (by omega)).mono ?_
  rintro e w10 ⟨rfl, m10⟩
  have b10 := m10.below (by omega)
  have s10 := m10.size
  have og := own_mk (ownsRow_below og (((b7.mono (by omega)).trans (b8.mono (by omega))).trans (b9.mono (by omega)))) m10 (by omega)
  have rg := rd_own og
  go_wp2_with fail
  refine (eqStringS_same _ _ _ _ _ T _ rfl (by omega) (rg.below (Below.refl _ _)) (rw.below (((((((b4.mono (by omega)).trans (b5.mono (by omega))).trans (b6.mono (by omega))).trans (b7.mono (by omega))).trans (b8.mono (by omega))).trans (b9.mono (by omega))).trans (b10.mono (by omega))))).mono ?_
  rintro e w11 ⟨rfl, b11, s11⟩
  go_wp2_with fail
  refine (markStringS_own _ _ _ _ 1 _ (ownsRow_below og (b11.mono (by omega))) (by omega) (by omega) (by omega)).mono ?_
  rintro e w12 ⟨rfl, ogm, gr12⟩
  have b12 := grown_below (B := w5.heap.size) gr12 (by omega) (fun q hq => (og.lt q hq).1)
  have s12 := gr12.size
  have rgm := rd_own ogm
  go_wp2_with fail
  refine (heldStringS_any _ _ _ 1 _ (rgm.below (Below.refl _ _)) (by omega) (by omega) (by omega)).mono ?_
  rintro e w13 ⟨rfl, b13, s13⟩
  obtain ⟨bx6_0, bx6_1⟩ := boxcells2 (lay := (((((((((((((b1.mono (by omega)).trans (b2.mono (by omega))).trans (b3.mono (by omega))).trans (b4.mono (by omega))).trans (b5.mono (by omega))).trans (b6.mono (by omega))).trans (b7.mono (by omega))).trans (b8.mono (by omega))).trans (b9.mono (by omega))).trans (b10.mono (by omega))).trans (b11.mono (by omega))).trans (b12.mono (by omega))).trans (b13.mono (by omega)))) X0_0.out
  have lt6 : w.heap.size < w13.heap.size := by omega
  go_wp2_with fail
  clear bx6_0 bx6_1 lt6
  refine (toProgram_any d _ _ _ _ qs l _ _ _ _ (rA.below (((((((((((((b1.mono (by omega)).trans (b2.mono (by omega))).trans (b3.mono (by omega))).trans (b4.mono (by omega))).trans (b5.mono (by omega))).trans (b6.mono (by omega))).trans (b7.mono (by omega))).trans (b8.mono (by omega))).trans (b9.mono (by omega))).trans (b10.mono (by omega))).trans (b11.mono (by omega))).trans (b12.mono (by omega))).trans (b13.mono (by omega)))) (rB.below (((((((((((((b1.mono (by omega)).trans (b2.mono (by omega))).trans (b3.mono (by omega))).trans (b4.mono (by omega))).trans (b5.mono (by omega))).trans (b6.mono (by omega))).trans (b7.mono (by omega))).trans (b8.mono (by omega))).trans (b9.mono (by omega))).trans (b10.mono (by omega))).trans (b11.mono (by omega))).trans (b12.mono (by omega))).trans (b13.mono (by omega)))) rfl hmn hn).mono ?_
  rintro e w14 ⟨Az, cz, Bz, dz, rfl, raz, rbz, b14, s14⟩
  go_wp2_with fail
  refine (HCI.out _ _ _ _ _ _ _ _ (rbz.below (Below.refl _ _))).mono ?_
  rintro e w15 ⟨vh, rfl, oh, b15, s15⟩
  obtain ⟨Ah, ch, rfl, _, _, rh⟩ := rd_of_own oh
  have och := oh
  go_wp2_with fail
  refine (eqStringS_same _ _ _ _ _ T _ rfl (by omega) (rh.below (Below.refl _ _)) (rw.below ((((((((((((b4.mono (by omega)).trans (b5.mono (by omega))).trans (b6.mono (by omega))).trans (b7.mono (by omega))).trans (b8.mono (by omega))).trans (b9.mono (by omega))).trans (b10.mono (by omega))).trans (b11.mono (by omega))).trans (b12.mono (by omega))).trans (b13.mono (by omega))).trans (b14.mono (by omega))).trans (b15.mono (by omega))))).mono ?_
  rintro e w16 ⟨rfl, b16, s16⟩
  go_wp2_with fail
  refine (heldStringS_any _ _ _ 1 _ (rgm.below ((((b13.mono (by omega)).trans (b14.mono (by omega))).trans (b15.mono (by omega))).trans (b16.mono (by omega)))) (by omega) (by omega) (by omega)).mono ?_
  rintro e w17 ⟨rfl, b17, s17⟩
  go_wp2_with fail
  go_ret
  exact ⟨rfl, (((((((((((((((((b0.trans (b1.mono (by omega))).trans (b2.mono (by omega))).trans (b3.mono (by omega))).trans (b4.mono (by omega))).trans (b5.mono (by omega))).trans (b6.mono (by omega))).trans (b7.mono (by omega))).trans (b8.mono (by omega))).trans (b9.mono (by omega))).trans (b10.mono (by omega))).trans (b11.mono (by omega))).trans (b12.mono (by omega))).trans (b13.mono (by omega))).trans (b14.mono (by omega))).trans (b15.mono (by omega))).trans (b16.mono (by omega))).trans (b17.mono (by omega)))⟩
set_option maxRecDepth 100000 in
theorem lifted_fnExactMeasuredBits (os : Os) (started : os.Started) (H : Type) (enc : TypeId × Value → H) :
    ReturnsInHanded {} Try.checked os 3 .any (Rows.fnExactMeasuredBitsSpec.pre6 enc Try.prog Try.f3 Rows.fnExactMeasuredBitsRow.domain false) (Rows.fnExactMeasuredBitsSpec.post enc Try.prog Try.f3 false true false false) := by
  refine returnsInHanded_of_change (C := Try.checked) own started (by kernel_rfl) Try.func3
    (ChangeSpec.witness6 (enc := enc) (C := Try.checked) false ⟨#[], #[.agg #[.slice none 0 0, .slice none 0 0]], []⟩ 8 (by kernel_rfl) (by kernel_rfl) (by kernel_rfl) (by kernel_rfl)) ?_
  intro W base args ds gs before hval0 hW hcnd _
  have hval : ∀ (j : Nat) t v, Try.f3.params[j]? = some t → args[j]? = some v → Value.okWide Try.prog W .any base t v := hval0
  have hW' := hW
  obtain ⟨p, q, hA0, hV, rfl, hfz, hnd⟩ := hW
  have hA : DataW.TrodAll enc Try.prog W 0 (fun _ => true) true Try.f3.params.toList args.toList ds p := hA0
  obtain ⟨rfl, rfl⟩ := trodVars_none hV
  have hlt : ∀ x ∈ p, x.block < W.heap.size := fun x hx => hW'.lt x (by simp [hx])
  have key : Calls Try.prog 3 args W fun e W' => e = .returned (.bool true) ∧ Below W.heap.size W W' := by
    rw [Try.params3] at hA hval
    obtain ⟨v0, vs0, d0, ds0, p0, q0, hargs, rfl, rfl, h0, r0⟩ := trodAll_cons hA
    obtain ⟨rfl, rfl, rfl⟩ := trodAll_nil r0
    obtain rfl : args = #[v0] := by cases args; simp_all
    clear hA0 hval0 hW' hA
    obtain ⟨u0, u1, y0, y1, ma, rfl, _, _, hy0, hy1⟩ := Joins.open_agg2 Try.underlying25 (by kernel_rfl) (show Try.prog.cellsOf 25 = 2 by kernel_rfl) (hval 0 25 v0 rfl rfl) h0
    obtain ⟨Aq, cq, qs, rfl, hql, hqz, hra⟩ := open_strings hy0
    obtain ⟨Ab, nb, cb, l, rfl, _, _, hrb, hok⟩ := open_stmts ma ma (Nat.le_refl _) _ _ hy1
    exact law_MeasuredBits _ qs l Aq cq Ab nb cb W hra hrb hql hqz hok
  refine key.mono fun e W' ⟨he, hb⟩ => ?_
  subst he
  have hrd : (Try.f3.params.toList.all fun t => Try.prog.readableRec t && decide (t < Try.prog.types.size)) = true := by kernel_rfl
  have hst : ∀ sp : Nat → Bool, (∀ x ∈ p ++ [], sp x.block = true) → DataW.TrodAll enc Try.prog W' 0 sp true Try.f3.params.toList args.toList ds p := fun sp hsp => trodAll_stays (sp := sp) (W' := W') laidOut (fun t ht => by simpa using List.all_eq_true.1 hrd t ht) hA (fun x hx => hb.same (hlt x hx)) (fun x hx => hsp x (by simp [hx]))
  have hds : ds.length = 1 := by
    rw [Try.params3] at hA
    obtain ⟨v0, vs0, d0, ds0, p0, q0, _, rfl, rfl, h0, r0⟩ := trodAll_cons hA
    obtain ⟨_, rfl, _⟩ := trodAll_nil r0
    rfl
  clear hA hA0 hval hval0
  obtain ⟨e0, rfl⟩ : ∃ e0, ds = [e0] := by match ds, hds with | [e0], _ => exact ⟨e0, rfl⟩
  exact ⟨_, rfl, post_of_below (pa := p) (pv := []) hW' (fun _ _ _ => (trodAll_cons_mk (shut_bool Try.underlying4 _) trodAll_mk0)) hst (fun _ _ => rfl) rfl hb (ok_one (by kernel_rfl) rfl (okWide_bool_mk Try.underlying4 _))⟩
theorem over_fnExactMeasuredBits : Rows.fnExactMeasuredBitsRow.holds Try.pinned (OpenSpec.ofChange Rows.fnExactMeasuredBitsSpec) :=
  OpenClaim.holds_of_wide 3 Try.f3 rfl rfl rfl rfl rfl rfl rfl ⟨rfl, rfl, rfl, rfl, rfl⟩ rfl rfl rfl rfl rfl (by kernel_rfl) Try.func3 (by kernel_rfl)
    (of_decide_eq_true (by kernel_rfl)) (by unfold Func.isWrapper; first | (rw [if_pos (by decide +kernel)]; kernel_rfl) | (rw [if_neg (by decide +kernel)]; exact ⟨rfl, rfl⟩))
    (fun os started H enc _ => lifted_fnExactMeasuredBits os started H enc)
/-- The statement. -/
theorem fnExactMeasuredBits_holds : Rows.FnExactMeasuredBitsSaid := over_fnExactMeasuredBits
end Go.Proofs.Ytijocafindbebaa
