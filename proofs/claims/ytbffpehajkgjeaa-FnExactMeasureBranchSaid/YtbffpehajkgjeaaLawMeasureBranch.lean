/- The program's MeasureBranch returns what the reference's returns, for all branches and numbers, in new memory. -/
import Derived.Test.YtbffpehajkgjeaaFrame
import Derived.Test.YtbffpehajkgjeaaBrsOpen
import Derived.Test.YtbffpehajkgjeaaBrsS
import Derived.Test.YtbffpehajkgjeaaMeas
namespace Go.Proofs.Ytbffpehajkgjeaa
open Go.ChangeShapes Go.WideShapes Go.ChangeAt Go.RowKit
set_option linter.unusedVariables false
set_option maxRecDepth 100000 in
set_option maxHeartbeats 8000000 in
theorem law_MeasureBranch (b q bit : Int) (A : Option Addr) (n c : Nat) (M : List (List Dm)) (w : World) (rA : RdM w A n M) (hn : n ≤ 9223372036854775807) :
    Calls Try.prog 10 #[.agg #[.int .i64 b, .slice A n c], .int .i64 q, .int .i64 bit] w fun e w' => e = .returned (.bool true) ∧ Below w.heap.size w w' := by
  by_cases hbig : (1048576 : Int) - (M.length + szM M) < 0
  · have b0 : Below w.heap.size w (w.alloc (.cells #[.int .i64 b, .slice A n c] 72)) := (by repeat (first | exact Below.refl _ _ | assumption | (refine Below.trans ?_ (Below.mono (by assumption) (by first | omega | (simp; done) | (simp; omega)))) | (with_reducible refine Below.drew ?_) | (with_reducible refine Below.alloc ?_ (by first | omega | (simp; done) | (simp; omega)) _) | (with_reducible refine Below.setCell ?_ (by first | omega | (simp; done) | (simp; omega)) _)))
    have H := Lib.hid (rA.below b0)
    have B0 := Lib.hid b0
    clear rA b0
    go_enter Try.func10, Try.ntmps10
    go_wp2_with fail
    refine (szBranch_any _ _ _ _ M _ _ H.out hn (by omega) (by omega)).mono ?_
    rintro e w1 ⟨rfl, b1, s1⟩
    rw [szV_neg hbig]
    go_wp2_with fail
    go_ret
    exact ⟨rfl, B0.out.trans (b1.mono (by simp))⟩
  obtain ⟨z, hz⟩ : ∃ z : Int, z = 1048576 - (M.length + szM M) := ⟨_, rfl⟩
  have HP := Lib.hid (szV_pos hbig)
  rw [← hz] at HP hbig
  have hz1 : (M.length : Int) + szM M ≤ 1048576 := by omega
  clear hz
  have hl := Lib.hid rA.len
  have hn2 : n ≤ 1048576 := by have := hl.out; omega
  have hms := measL_sz b M q bit
  have HCI := Lib.hid (fun A c w h => MeasureBranch_impl b A n c M q bit w h (by omega) (by omega))
  have HCS := Lib.hid (fun A c w h => MeasureBranch_spec b A n c M q bit w h (by omega) (by omega))
  obtain ⟨O, hO⟩ : ∃ O, O = measL b M q bit := ⟨_, rfl⟩
  rw [← hO] at hms HCI HCS
  clear hO
  obtain ⟨m, hm⟩ : ∃ m, m = O.length := ⟨_, rfl⟩
  rw [← hm] at hms HCI HCS
  have HMm := Lib.hid hm
  have hO1 := hms.1
  have hO2 := hms.2
  have hkb : kB O ≤ 20971530 := by have := kB_le O; rw [← hm] at this; omega
  clear hms hm
  go_enter Try.func10, Try.ntmps10
  go_wp2_with fail
  obtain ⟨w0, hw0⟩ : ∃ w0, w0 = (World.alloc w (.cells #[.int .i64 b, .slice A n c] 72)) := ⟨_, rfl⟩
  rw [← hw0]
  have b0 : Below w.heap.size w w0 := by rw [hw0]; exact (by repeat (first | exact Below.refl _ _ | assumption | (refine Below.trans ?_ (Below.mono (by assumption) (by first | omega | (simp; done) | (simp; omega)))) | (with_reducible refine Below.drew ?_) | (with_reducible refine Below.alloc ?_ (by first | omega | (simp; done) | (simp; omega)) _) | (with_reducible refine Below.setCell ?_ (by first | omega | (simp; done) | (simp; omega)) _)))
  have s0 : w.heap.size + 1 = w0.heap.size := by rw [hw0]; simp
  have x0_0 : w0.heap[w.heap.size]? = some (.cells #[.int .i64 b, .slice A n c] 72 (0, 0)) := by rw [hw0]; exact boxed1_0 _ _
  have X0_0 := Lib.hid x0_0
  clear x0_0
  have S0 : w.heap.size ≤ w0.heap.size := by omega
  clear hw0
  have rA := rA.below b0
  refine (szBranch_any _ _ _ _ M _ _ rA hn (by omega) (by omega)).mono ?_
  rintro e w1 ⟨rfl, b1, s1⟩
  rw [HP.out]
  obtain ⟨bx1_0, bx1_1⟩ := boxcells2 (lay := (b1.mono (by omega))) X0_0.out
  have lt1 : w.heap.size < w1.heap.size := by omega
  go_wp2_with fail
  clear bx1_0 bx1_1 lt1
  refine (toBranch_any _ _ _ _ M _ (rA.below (b1.mono (by omega))) (by omega) (by omega)).mono ?_
  rintro e w2 ⟨At, ct, Ft, rfl, ot, b2, s2⟩
  have rt := ot.rd'
  have oct := ot
  go_wp2_with fail
  refine (HCS.out _ _ _ (rt.below (Below.refl _ _))).mono ?_
  rintro e w3 ⟨vw, Fw, rfl, ow, b3, s3⟩
  obtain ⟨Aw, cw, rfl, _, _, rw⟩ := ow.rd
  have ocw := ow
  obtain ⟨bx2_0, bx2_1⟩ := boxcells2 (lay := (((b1.mono (by omega)).trans (b2.mono (by omega))).trans (b3.mono (by omega)))) X0_0.out
  have lt2 : w.heap.size < w3.heap.size := by omega
  go_wp2_with fail
  clear bx2_0 bx2_1 lt2
  refine (toBranch_any _ _ _ _ M _ (rA.below (((b1.mono (by omega)).trans (b2.mono (by omega))).trans (b3.mono (by omega)))) (by omega) (by omega)).mono ?_
  rintro e w4 ⟨Ax, cx, Fx, rfl, ox, b4, s4⟩
  have rx := ox.rd'
  have ocx := ox
  go_wp2_with fail
  obtain ⟨w5, hw5⟩ : ∃ w5, w5 = w4.alloc (.cells #[.int .i64 b, .slice Ax n cx] 59) := ⟨_, rfl⟩
  rw [← hw5]
  have b5 : Below w4.heap.size w4 w5 := by rw [hw5]; exact (by repeat (first | exact Below.refl _ _ | assumption | (refine Below.trans ?_ (Below.mono (by assumption) (by first | omega | (simp; done) | (simp; omega)))) | (with_reducible refine Below.drew ?_) | (with_reducible refine Below.alloc ?_ (by first | omega | (simp; done) | (simp; omega)) _) | (with_reducible refine Below.setCell ?_ (by first | omega | (simp; done) | (simp; omega)) _)))
  have s5 : w4.heap.size + 1 = w5.heap.size := by rw [hw5]; simp
  have Xx := Lib.hid (show w5.heap[w4.heap.size]? = some (.cells #[.int .i64 b, .slice Ax n cx] 59 (0, 0)) by rw [hw5]; exact boxed1_0 _ _)
  have s5' := s5
  clear hw5
  refine (HCI.out _ _ _ (rx.below (b5.mono (by omega)))).mono ?_
  rintro e w6 ⟨vg, Fg, rfl, og, b6, s6⟩
  obtain ⟨Ag, cg, rfl, _, _, rg⟩ := og.rd
  have ocg := og
  go_wp2_with fail
  refine (eqBranchS_same _ _ _ _ _ O _ (rg.below (Below.refl _ _)) (rw.below (((b4.mono (by omega)).trans (b5.mono (by omega))).trans (b6.mono (by omega)))) (by omega) (by omega)).mono ?_
  rintro e w7 ⟨rfl, b7, s7⟩
  go_wp2_with fail
  obtain ⟨bx3_0, bx3_1⟩ := boxcells2 (lay := ((b6.mono (by omega)).trans (b7.mono (by omega)))) Xx.out
  have lt3 : w4.heap.size < w7.heap.size := by omega
  obtain ⟨bx4_0, bx4_1⟩ := boxcells2 (lay := (((((((b1.mono (by omega)).trans (b2.mono (by omega))).trans (b3.mono (by omega))).trans (b4.mono (by omega))).trans (b5.mono (by omega))).trans (b6.mono (by omega))).trans (b7.mono (by omega)))) X0_0.out
  have lt4 : w.heap.size < w7.heap.size := by omega
  have rrf := (rA.below (((((((b1.mono (by omega)).trans (b2.mono (by omega))).trans (b3.mono (by omega))).trans (b4.mono (by omega))).trans (b5.mono (by omega))).trans (b6.mono (by omega))).trans (b7.mono (by omega))))
  have rvf := (rx.below (((b5.mono (by omega)).trans (b6.mono (by omega))).trans (b7.mono (by omega))))
  have lvf : Below w5.heap.size w5 w7 := ((b6.mono (by omega)).trans (b7.mono (by omega)))
  have lbf : Below w0.heap.size w0 w7 := (((((((b1.mono (by omega)).trans (b2.mono (by omega))).trans (b3.mono (by omega))).trans (b4.mono (by omega))).trans (b5.mono (by omega))).trans (b6.mono (by omega))).trans (b7.mono (by omega)))
  have zvf : w5.heap.size ≤ w7.heap.size := by omega
  have zbf : w0.heap.size ≤ w7.heap.size := by omega
  go_region_held3 (fun W => W.cell? ⟨w4.heap.size, 0, none⟩ = some (.int .i64 b) ∧ W.cell? ⟨w4.heap.size, 1, none⟩ = some (.slice Ax n cx) ∧ W.cell? ⟨w.heap.size, 0, none⟩ = some (.int .i64 b) ∧ W.cell? ⟨w.heap.size, 1, none⟩ = some (.slice A n c)) (first | exact ⟨bx3_0, bx3_1, bx4_0, bx4_1⟩ | exact ⟨fpa0, fpa1, fpb0, fpb1⟩ | exact ⟨fqa0, fqa1, fqb0, fqb1⟩) (first | (go_at_call 52; (with_reducible refine (toBranch_any b A n c M _ rrf.drew (by omega) (by omega)).mono ?_); rintro e w8 ⟨Af, cf, Ff, rfl, of, btf, stf⟩; have b8 := below_of_drew2 btf; have s8 := b8.size; obtain ⟨fpa0, fpa1⟩ := boxcells2 (lay := lvf.trans (b8.mono zvf)) Xx.out; obtain ⟨fpb0, fpb1⟩ := boxcells2 (lay := lbf.trans (b8.mono zbf)) X0_0.out) | (go_at_call 42; (with_reducible refine (eqBranch_same b _ _ n _ _ M _ (rvf.below b8) of.rd' (by omega) (by omega)).mono ?_); rintro e w9 ⟨rfl, b9, s9⟩; obtain ⟨fqa0, fqa1⟩ := boxcells2 (lay := lvf.trans ((b8.mono zvf).trans (b9.mono (by omega)))) Xx.out; obtain ⟨fqb0, fqb1⟩ := boxcells2 (lay := lbf.trans ((b8.mono zbf).trans (b9.mono (by omega)))) X0_0.out))
  clear bx3_0 bx3_1 lt3 bx4_0 bx4_1 lt4
  all_goals (try clear fpa0 fpa1 fpb0 fpb1 fqa0 fqa1 fqb0 fqb1)
  obtain ⟨bx5_0, bx5_1⟩ := boxcells2 (lay := ((((b6.mono (by omega)).trans (b7.mono (by omega))).trans (b8.mono (by omega))).trans (b9.mono (by omega)))) Xx.out
  have lt5 : w4.heap.size < w9.heap.size := by omega
  go_wp2_with fail
  clear bx5_0 bx5_1 lt5
  refine (markBranch_any _ _ _ _ _ M _ 1 _ (ox.below (((((b5.mono (by omega)).trans (b6.mono (by omega))).trans (b7.mono (by omega))).trans (b8.mono (by omega))).trans (b9.mono (by omega)))) (by omega) (by omega) (by omega) (by omega)).mono ?_
  rintro e w10 ⟨rfl, oxm, k10⟩
  have b10 := k10.below (B := w3.heap.size) (by omega) (fun q hq => (ox.lt q hq).1)
  have s10 := k10.size
  have rxm := oxm.rd'
  have og := (og.below (((b7.mono (by omega)).trans (b8.mono (by omega))).trans (b9.mono (by omega)))).kin k10 (fun q e hq => by have h1 := (og.lt q e).1; have h2 := (ocx.lt q hq).2; omega)
  have rg := og.rd'
  go_wp2_with fail
  refine (eqBranchS_same _ _ _ _ _ O _ (rg.below (Below.refl _ _)) (rw.below (((((((b4.mono (by omega)).trans (b5.mono (by omega))).trans (b6.mono (by omega))).trans (b7.mono (by omega))).trans (b8.mono (by omega))).trans (b9.mono (by omega))).trans (b10.mono (by omega)))) (by omega) (by omega)).mono ?_
  rintro e w11 ⟨rfl, b11, s11⟩
  go_wp2_with fail
  refine (markBranchS_any _ _ _ O _ 1 _ (og.below (b11.mono (by omega))) (by omega) (by omega) (by omega) (by omega)).mono ?_
  rintro e w12 ⟨rfl, ogm, k12⟩
  have b12 := k12.below (B := w5.heap.size) (by omega) (fun q hq => (og.lt q hq).1)
  have s12 := k12.size
  have rgm := ogm.rd'
  go_wp2_with fail
  refine (heldBranchS_any _ _ _ O 1 _ (rgm.below (Below.refl _ _)) (by omega) (by omega) (by omega) (by omega)).mono ?_
  rintro e w' ⟨rfl, rfl⟩
  obtain ⟨bx6_0, bx6_1⟩ := boxcells2 (lay := ((((((((((((b1.mono (by omega)).trans (b2.mono (by omega))).trans (b3.mono (by omega))).trans (b4.mono (by omega))).trans (b5.mono (by omega))).trans (b6.mono (by omega))).trans (b7.mono (by omega))).trans (b8.mono (by omega))).trans (b9.mono (by omega))).trans (b10.mono (by omega))).trans (b11.mono (by omega))).trans (b12.mono (by omega)))) X0_0.out
  have lt6 : w.heap.size < w12.heap.size := by omega
  go_wp2_with fail
  clear bx6_0 bx6_1 lt6
  refine (toBranch_any _ _ _ _ M _ (rA.below ((((((((((((b1.mono (by omega)).trans (b2.mono (by omega))).trans (b3.mono (by omega))).trans (b4.mono (by omega))).trans (b5.mono (by omega))).trans (b6.mono (by omega))).trans (b7.mono (by omega))).trans (b8.mono (by omega))).trans (b9.mono (by omega))).trans (b10.mono (by omega))).trans (b11.mono (by omega))).trans (b12.mono (by omega)))) (by omega) (by omega)).mono ?_
  rintro e w13 ⟨Az, cz, Fz, rfl, oz, b13, s13⟩
  have rz := oz.rd'
  have ocz := oz
  go_wp2_with fail
  refine (HCI.out _ _ _ (rz.below (Below.refl _ _))).mono ?_
  rintro e w14 ⟨vh, Fh, rfl, oh, b14, s14⟩
  obtain ⟨Ah, ch, rfl, _, _, rh⟩ := oh.rd
  have och := oh
  go_wp2_with fail
  refine (eqBranchS_same _ _ _ _ _ O _ (rh.below (Below.refl _ _)) (rw.below (((((((((((b4.mono (by omega)).trans (b5.mono (by omega))).trans (b6.mono (by omega))).trans (b7.mono (by omega))).trans (b8.mono (by omega))).trans (b9.mono (by omega))).trans (b10.mono (by omega))).trans (b11.mono (by omega))).trans (b12.mono (by omega))).trans (b13.mono (by omega))).trans (b14.mono (by omega)))) (by omega) (by omega)).mono ?_
  rintro e w15 ⟨rfl, b15, s15⟩
  go_wp2_with fail
  refine (heldBranchS_any _ _ _ O 1 _ (rgm.below (((b13.mono (by omega)).trans (b14.mono (by omega))).trans (b15.mono (by omega)))) (by omega) (by omega) (by omega) (by omega)).mono ?_
  rintro e w' ⟨rfl, rfl⟩
  go_wp2_with fail
  go_ret
  exact ⟨rfl, (((((((((((((((b0.trans (b1.mono (by omega))).trans (b2.mono (by omega))).trans (b3.mono (by omega))).trans (b4.mono (by omega))).trans (b5.mono (by omega))).trans (b6.mono (by omega))).trans (b7.mono (by omega))).trans (b8.mono (by omega))).trans (b9.mono (by omega))).trans (b10.mono (by omega))).trans (b11.mono (by omega))).trans (b12.mono (by omega))).trans (b13.mono (by omega))).trans (b14.mono (by omega))).trans (b15.mono (by omega)))⟩
set_option maxRecDepth 100000 in
theorem lifted_fnExactMeasureBranch (os : Os) (started : os.Started) (H : Type) (enc : TypeId × Value → H) :
    ReturnsInHanded {} Try.checked os 10 .any (Rows.fnExactMeasureBranchSpec.pre6 enc Try.prog Try.f10 Rows.fnExactMeasureBranchRow.domain false) (Rows.fnExactMeasureBranchSpec.post enc Try.prog Try.f10 false true false false) := by
  refine returnsInHanded_of_change (C := Try.checked) own started (by kernel_rfl) Try.func10
    (ChangeSpec.witness6 (enc := enc) (C := Try.checked) false ⟨#[], #[.agg #[.int .i64 0, .slice none 0 0], .int .i64 0, .int .i64 0], []⟩ 8 (by kernel_rfl) (by kernel_rfl) (by kernel_rfl) (by kernel_rfl)) ?_
  intro W base args ds gs before hval0 hW hcnd _
  have hval : ∀ (j : Nat) t v, Try.f10.params[j]? = some t → args[j]? = some v → Value.okWide Try.prog W .any base t v := hval0
  have hW' := hW
  obtain ⟨p, q, hA0, hV, rfl, hfz, hnd⟩ := hW
  have hA : DataW.TrodAll enc Try.prog W 0 (fun _ => true) true Try.f10.params.toList args.toList ds p := hA0
  obtain ⟨rfl, rfl⟩ := trodVars_none hV
  have hlt : ∀ x ∈ p, x.block < W.heap.size := fun x hx => hW'.lt x (by simp [hx])
  have key : Calls Try.prog 10 args W fun e W' => e = .returned (.bool true) ∧ Below W.heap.size W W' := by
    rw [Try.params10] at hA hval
    obtain ⟨v0, vs0, d0, ds0, p0, q0, hargs, rfl, rfl, h0, r0⟩ := trodAll_cons hA
    obtain ⟨v1, vs1, d1, ds1, p1, q1, rfl, rfl, rfl, h1, r1⟩ := trodAll_cons r0
    obtain ⟨v2, vs2, d2, ds2, p2, q2, rfl, rfl, rfl, h2, r2⟩ := trodAll_cons r1
    obtain ⟨rfl, rfl, rfl⟩ := trodAll_nil r2
    obtain rfl : args = #[v0, v1, v2] := by cases args; simp_all
    clear hA0 hval0 hW' hA
    obtain ⟨c0, c1, y0, y1, ma, rfl, _, _, hy0, hy1⟩ := Joins.open_agg2 Try.underlying72 (by kernel_rfl) (show Try.prog.cellsOf 72 = 2 by kernel_rfl) (hval 0 72 v0 rfl rfl) h0
    obtain ⟨b, e0, _, _⟩ := DataW.trod_int Try.underlying3 hy0
    simp at e0
    subst e0
    obtain ⟨A, c, M, rfl, hnc, hcm, hrd⟩ := open_mat hy1
    obtain ⟨q, rfl, _, _, _⟩ := open_int Try.underlying3 (hval 1 3 v1 rfl rfl) h1
    obtain ⟨bit, rfl, _, _, _⟩ := open_int Try.underlying3 (hval 2 3 v2 rfl rfl) h2
    exact law_MeasureBranch b q bit A _ c M W hrd (by simp only [maxLen] at hcm; omega)
  refine key.mono fun e W' ⟨he, hb⟩ => ?_
  subst he
  have hrd : (Try.f10.params.toList.all fun t => Try.prog.readableRec t && decide (t < Try.prog.types.size)) = true := by kernel_rfl
  have hst : ∀ sp : Nat → Bool, (∀ x ∈ p ++ [], sp x.block = true) → DataW.TrodAll enc Try.prog W' 0 sp true Try.f10.params.toList args.toList ds p := fun sp hsp => trodAll_stays (sp := sp) (W' := W') laidOut (fun t ht => by simpa using List.all_eq_true.1 hrd t ht) hA (fun x hx => hb.same (hlt x hx)) (fun x hx => hsp x (by simp [hx]))
  have hds : ds.length = 3 := by
    rw [Try.params10] at hA
    obtain ⟨v0, vs0, d0, ds0, p0, q0, _, rfl, rfl, h0, r0⟩ := trodAll_cons hA
    obtain ⟨v1, vs1, d1, ds1, p1, q1, _, rfl, rfl, h1, r1⟩ := trodAll_cons r0
    obtain ⟨v2, vs2, d2, ds2, p2, q2, _, rfl, rfl, h2, r2⟩ := trodAll_cons r1
    obtain ⟨_, rfl, _⟩ := trodAll_nil r2
    rfl
  clear hA hA0 hval hval0
  obtain ⟨e0, e1, e2, rfl⟩ : ∃ e0 e1 e2, ds = [e0, e1, e2] := by match ds, hds with | [e0, e1, e2], _ => exact ⟨e0, e1, e2, rfl⟩
  exact ⟨_, rfl, post_of_below (pa := p) (pv := []) hW' (fun _ _ _ => (trodAll_cons_mk (shut_bool Try.underlying4 _) trodAll_mk0)) hst (fun _ _ => rfl) rfl hb (ok_one (by kernel_rfl) rfl (okWide_bool_mk Try.underlying4 _))⟩
theorem over_fnExactMeasureBranch : Rows.fnExactMeasureBranchRow.holds Try.pinned (OpenSpec.ofChange Rows.fnExactMeasureBranchSpec) :=
  OpenClaim.holds_of_wide 10 Try.f10 rfl rfl rfl rfl rfl rfl rfl ⟨rfl, rfl, rfl, rfl, rfl⟩ rfl rfl rfl rfl rfl (by kernel_rfl) Try.func10 (by kernel_rfl)
    (of_decide_eq_true (by kernel_rfl)) (by unfold Func.isWrapper; first | (rw [if_pos (by decide +kernel)]; kernel_rfl) | (rw [if_neg (by decide +kernel)]; exact ⟨rfl, rfl⟩))
    (fun os started H enc _ => lifted_fnExactMeasureBranch os started H enc)
/-- The statement. -/
theorem fnExactMeasureBranch_holds : Rows.FnExactMeasureBranchSaid := over_fnExactMeasureBranch
end Go.Proofs.Ytbffpehajkgjeaa
