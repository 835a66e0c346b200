/- The program's ControlledOps returns what the reference's returns, for every number and every list of operations, in new memory. -/
import Derived.Test.YtbffpehajkgjeaaFrame
import Derived.Test.YtbffpehajkgjeaaControlOps
import Derived.Test.YtbffpehajkgjeaaOpenOp
namespace Go.Proofs.Ytbffpehajkgjeaa
open Go.ChangeShapes Go.WideShapes Go.ChangeAt Go.RowKit
set_option linter.unusedVariables false
set_option maxRecDepth 100000 in
set_option maxHeartbeats 4000000 in
theorem law_ControlledOps (q : Int) (A : Option Addr) (n c : Nat) (l : List Opt) (w0 : World) (h : Rd w0 8 A n (l.flatMap ocells)) (hl : l.length = n) (hnc : n ≤ c) (hc : c ≤ maxLen) :
    Calls Try.prog 4 #[.int .i64 q, .slice A n c] w0 fun e w' => e = .returned (.bool true) ∧ Below w0.heap.size w0 w' := by
  by_cases hbig : (1048576 : Int) - n < 0
  · go_enter Try.func4, Try.ntmps4
    go_wp2_with fail
    refine (szOpS_any _ _ _ _ _ (by simp only [maxLen] at hc; omega) (by omega) (by omega)).mono ?_
    rintro e w' ⟨rfl, rfl⟩
    rw [if_pos hbig]
    go_wp2_with fail
    go_ret
    exact ⟨rfl, Below.refl _ _⟩
  have hn : n ≤ 1048576 := by omega
  have hres : (osL q l).length ≤ 1099511627776 := by have := osL_le q l; omega
  go_enter Try.func4, Try.ntmps4
  go_wp2_with fail
  have rA := h
  clear h
  refine (szOpS_any _ _ _ _ _ (by omega) (by omega) (by omega)).mono ?_
  rintro e w' ⟨rfl, rfl⟩
  rw [if_neg (by omega)]
  clear hbig
  go_wp2_with fail
  refine (toOpS_any _ _ _ l _ (rA.below (Below.refl _ _)) hl (by omega)).mono ?_
  rintro e w1 ⟨vt, rfl, ot, b1, s1⟩
  obtain ⟨At, ct, rfl, _, _, rt⟩ := rd_of_own ot
  have oct := ot
  go_wp2_with fail
  refine (ControlledOps_spec q _ _ _ l _ (rt.below (Below.refl _ _)) hl (by omega)).mono ?_
  rintro e w2 ⟨vw, rfl, ow, b2, s2⟩
  obtain ⟨Aw, cw, rfl, _, _, rw⟩ := rd_of_own ow
  have ocw := ow
  go_wp2_with fail
  refine (toOpS_any _ _ _ l _ (rA.below ((b1.mono (by omega)).trans (b2.mono (by omega)))) hl (by omega)).mono ?_
  rintro e w3 ⟨vx, rfl, ox, b3, s3⟩
  obtain ⟨Ax, cx, rfl, _, _, rx⟩ := rd_of_own ox
  have ocx := ox
  go_wp2_with fail
  refine (ControlledOps_impl q _ _ _ l _ (rx.below (Below.refl _ _)) hl (by omega)).mono ?_
  rintro e w4 ⟨vg, rfl, og, b4, s4⟩
  obtain ⟨Ag, cg, rfl, _, _, rg⟩ := rd_of_own og
  have ocg := og
  go_wp2_with fail
  refine (eqOpS_same _ _ _ _ _ ((osL q l)) _ rfl (by omega) (rg.below (Below.refl _ _)) (rw.below ((b3.mono (by omega)).trans (b4.mono (by omega))))).mono ?_
  rintro e w5 ⟨rfl, b5, s5⟩
  go_wp2_with fail
  refine (toOpS_any _ _ _ l _ (rA.below (((((b1.mono (by omega)).trans (b2.mono (by omega))).trans (b3.mono (by omega))).trans (b4.mono (by omega))).trans (b5.mono (by omega)))) hl (by omega)).mono ?_
  rintro e w6 ⟨vy, rfl, oy, b6, s6⟩
  obtain ⟨Ay, cy, rfl, _, _, ry⟩ := rd_of_own oy
  have ocy := oy
  go_wp2_with fail
  refine (eqOpS_same _ _ _ _ _ l _ hl (by omega) (rx.below (((b4.mono (by omega)).trans (b5.mono (by omega))).trans (b6.mono (by omega)))) (ry.below (Below.refl _ _))).mono ?_
  rintro e w7 ⟨rfl, b7, s7⟩
  go_wp2_with fail
  refine (markOpS_any _ _ _ _ 1 _ (ownsRow_below ox ((((b4.mono (by omega)).trans (b5.mono (by omega))).trans (b6.mono (by omega))).trans (b7.mono (by omega)))) (by omega) (by omega) (by omega)).mono ?_
  rintro e w8 ⟨rfl, oxm, gr8⟩
  have b8 := grown_below (B := w2.heap.size) gr8 (by omega) (fun q hq => (ox.lt q hq).1)
  have s8 := gr8.size
  have rxm := rd_own oxm
  have og := (ownsRow_below og (((b5.mono (by omega)).trans (b6.mono (by omega))).trans (b7.mono (by omega)))).kept gr8 (own_ne og ocx (by omega))
  have rg := rd_own og
  have oy := (ownsRow_below oy (b7.mono (by omega))).kept gr8 (own_ne oy ocx (by omega))
  have ry := rd_own oy
  go_wp2_with fail
  refine (eqOpS_same _ _ _ _ _ ((osL q l)) _ rfl (by omega) (rg.below (Below.refl _ _)) (rw.below ((((((b3.mono (by omega)).trans (b4.mono (by omega))).trans (b5.mono (by omega))).trans (b6.mono (by omega))).trans (b7.mono (by omega))).trans (b8.mono (by omega))))).mono ?_
  rintro e w9 ⟨rfl, b9, s9⟩
  go_wp2_with fail
  refine (markOpS_any _ _ _ _ 1 _ (ownsRow_below og (b9.mono (by omega))) (by omega) (by omega) (by omega)).mono ?_
  rintro e w10 ⟨rfl, ogm, gr10⟩
  have b10 := grown_below (B := w3.heap.size) gr10 (by omega) (fun q hq => (og.lt q hq).1)
  have s10 := gr10.size
  have rgm := rd_own ogm
  have oy := (ownsRow_below oy (b9.mono (by omega))).kept gr10 (own_ne oy ocg (by omega))
  have ry := rd_own oy
  go_wp2_with fail
  refine (heldOpS_any _ _ _ 1 _ (rgm.below (Below.refl _ _)) (by omega) (by omega) (by omega)).mono ?_
  rintro e w' ⟨rfl, rfl⟩
  go_wp2_with fail
  refine (toOpS_any _ _ _ l _ (rA.below ((((((((((b1.mono (by omega)).trans (b2.mono (by omega))).trans (b3.mono (by omega))).trans (b4.mono (by omega))).trans (b5.mono (by omega))).trans (b6.mono (by omega))).trans (b7.mono (by omega))).trans (b8.mono (by omega))).trans (b9.mono (by omega))).trans (b10.mono (by omega)))) hl (by omega)).mono ?_
  rintro e w11 ⟨vz, rfl, oz, b11, s11⟩
  obtain ⟨Az, cz, rfl, _, _, rz⟩ := rd_of_own oz
  have ocz := oz
  go_wp2_with fail
  refine (ControlledOps_impl q _ _ _ l _ (rz.below (Below.refl _ _)) hl (by omega)).mono ?_
  rintro e w12 ⟨vh, rfl, oh, b12, s12⟩
  obtain ⟨Ah, ch, rfl, _, _, rh⟩ := rd_of_own oh
  have och := oh
  go_wp2_with fail
  refine (eqOpS_same _ _ _ _ _ ((osL q l)) _ rfl (by omega) (rh.below (Below.refl _ _)) (rw.below ((((((((((b3.mono (by omega)).trans (b4.mono (by omega))).trans (b5.mono (by omega))).trans (b6.mono (by omega))).trans (b7.mono (by omega))).trans (b8.mono (by omega))).trans (b9.mono (by omega))).trans (b10.mono (by omega))).trans (b11.mono (by omega))).trans (b12.mono (by omega))))).mono ?_
  rintro e w13 ⟨rfl, b13, s13⟩
  go_wp2_with fail
  refine (heldOpS_any _ _ _ 1 _ (rgm.below (((b11.mono (by omega)).trans (b12.mono (by omega))).trans (b13.mono (by omega)))) (by omega) (by omega) (by omega)).mono ?_
  rintro e w' ⟨rfl, rfl⟩
  go_wp2_with fail
  go_ret
  exact ⟨rfl, (((((((((((((b1.mono (by omega)).trans (b2.mono (by omega))).trans (b3.mono (by omega))).trans (b4.mono (by omega))).trans (b5.mono (by omega))).trans (b6.mono (by omega))).trans (b7.mono (by omega))).trans (b8.mono (by omega))).trans (b9.mono (by omega))).trans (b10.mono (by omega))).trans (b11.mono (by omega))).trans (b12.mono (by omega))).trans (b13.mono (by omega)))⟩
set_option maxRecDepth 100000 in
theorem lifted_fnExactControlledOps (os : Os) (started : os.Started) (H : Type) (enc : TypeId × Value → H) :
    ReturnsInHanded {} Try.checked os 4 .any (Rows.fnExactControlledOpsSpec.pre6 enc Try.prog Try.f4 Rows.fnExactControlledOpsRow.domain false) (Rows.fnExactControlledOpsSpec.post enc Try.prog Try.f4 false true false false) := by
  refine returnsInHanded_of_change (C := Try.checked) own started (by kernel_rfl) Try.func4
    (ChangeSpec.witness6 (enc := enc) (C := Try.checked) false ⟨#[], #[.int .i64 0, .slice none 0 0], []⟩ 8 (by kernel_rfl) (by kernel_rfl) (by kernel_rfl) (by kernel_rfl)) ?_
  intro W base args ds gs before hval0 hW hcnd _
  have hval : ∀ (j : Nat) t v, Try.f4.params[j]? = some t → args[j]? = some v → Value.okWide Try.prog W .any base t v := hval0
  have hW' := hW
  obtain ⟨p, q, hA0, hV, rfl, hfz, hnd⟩ := hW
  have hA : DataW.TrodAll enc Try.prog W 0 (fun _ => true) true Try.f4.params.toList args.toList ds p := hA0
  obtain ⟨rfl, rfl⟩ := trodVars_none hV
  have hlt : ∀ x ∈ p, x.block < W.heap.size := fun x hx => hW'.lt x (by simp [hx])
  have key : Calls Try.prog 4 args W fun e W' => e = .returned (.bool true) ∧ Below W.heap.size W W' := by
    rw [Try.params4] at hA hval
    obtain ⟨v0, vs0, d0, ds0, p0, q0, hargs, rfl, rfl, h0, r0⟩ := trodAll_cons hA
    obtain ⟨v1, vs1, d1, ds1, p1, q1, rfl, rfl, rfl, h1, r1⟩ := trodAll_cons r0
    obtain ⟨rfl, rfl, rfl⟩ := trodAll_nil r1
    obtain rfl : args = #[v0, v1] := by cases args; simp_all
    clear hA0 hval0 hW' hA
    obtain ⟨q, rfl, _, _, _⟩ := open_int Try.underlying3 (hval 0 3 v0 rfl rfl) h0
    obtain ⟨fuel0, hf0⟩ := h1
    obtain ⟨A, n, c, l, hv0, hnc, hcm, hl, hrd⟩ := rd_of_slice (cellsf := ocells) Try.underlying22 cells_Op (by decide) trod_Op ocells_len (slice_one (hval 1 22 v1 rfl rfl) Try.underlying22 hf0)
    subst hv0
    exact law_ControlledOps q A n c l W hrd hl hnc hcm
  refine key.mono fun e W' ⟨he, hb⟩ => ?_
  subst he
  have hrd : (Try.f4.params.toList.all fun t => Try.prog.readableRec t && decide (t < Try.prog.types.size)) = true := by kernel_rfl
  have hst : ∀ sp : Nat → Bool, (∀ x ∈ p ++ [], sp x.block = true) → DataW.TrodAll enc Try.prog W' 0 sp true Try.f4.params.toList args.toList ds p := fun sp hsp => trodAll_stays (sp := sp) (W' := W') laidOut (fun t ht => by simpa using List.all_eq_true.1 hrd t ht) hA (fun x hx => hb.same (hlt x hx)) (fun x hx => hsp x (by simp [hx]))
  have hds : ds.length = 2 := by
    rw [Try.params4] at hA
    obtain ⟨v0, vs0, d0, ds0, p0, q0, _, rfl, rfl, h0, r0⟩ := trodAll_cons hA
    obtain ⟨v1, vs1, d1, ds1, p1, q1, _, rfl, rfl, h1, r1⟩ := trodAll_cons r0
    obtain ⟨_, rfl, _⟩ := trodAll_nil r1
    rfl
  clear hA hA0 hval hval0
  obtain ⟨e0, e1, rfl⟩ : ∃ e0 e1, ds = [e0, e1] := by match ds, hds with | [e0, e1], _ => exact ⟨e0, e1, rfl⟩
  exact ⟨_, rfl, post_of_below (pa := p) (pv := []) hW' (fun _ _ _ => (trodAll_cons_mk (shut_bool Try.underlying4 _) trodAll_mk0)) hst (fun _ _ => rfl) rfl hb (ok_one (by kernel_rfl) rfl (okWide_bool_mk Try.underlying4 _))⟩
theorem over_fnExactControlledOps : Rows.fnExactControlledOpsRow.holds Try.pinned (OpenSpec.ofChange Rows.fnExactControlledOpsSpec) :=
  OpenClaim.holds_of_wide 4 Try.f4 rfl rfl rfl rfl rfl rfl rfl ⟨rfl, rfl, rfl, rfl, rfl⟩ rfl rfl rfl rfl rfl (by kernel_rfl) Try.func4 (by kernel_rfl)
    (of_decide_eq_true (by kernel_rfl)) (by unfold Func.isWrapper; first | (rw [if_pos (by decide +kernel)]; kernel_rfl) | (rw [if_neg (by decide +kernel)]; exact ⟨rfl, rfl⟩))
    (fun os started H enc _ => lifted_fnExactControlledOps os started H enc)
/-- The statement. -/
theorem fnExactControlledOps_holds : Rows.FnExactControlledOpsSaid := over_fnExactControlledOps
end Go.Proofs.Ytbffpehajkgjeaa
