/- The program's Outcomes returns what the reference's returns, for all lists of branches, in new memory. -/
import Derived.Test.YtbffpehajkgjeaaFrame
import Derived.Test.YtbffpehajkgjeaaBrsOpen
import Derived.Test.YtbffpehajkgjeaaBrsS
import Derived.Test.YtbffpehajkgjeaaOutcomes
namespace Go.Proofs.Ytbffpehajkgjeaa
open Go.ChangeShapes Go.WideShapes Go.ChangeAt Go.RowKit
set_option linter.unusedVariables false
set_option maxRecDepth 100000 in
set_option maxHeartbeats 4000000 in
theorem law_Outcomes (A : Option Addr) (n c : Nat) (L : List Br) (w : World) (rA : RdB w A n L) (hn : n ≤ 9223372036854775807) :
    Calls Try.prog 11 #[.slice A n c] w fun e w' => e = .returned (.bool true) ∧ Below w.heap.size w w' := by
  by_cases hbig : (1048576 : Int) - (L.length + szB L) < 0
  · go_enter Try.func11, Try.ntmps11
    go_wp2_with fail
    refine (szBranchS_any _ _ _ L _ _ rA hn (by omega) (by omega)).mono ?_
    rintro e w1 ⟨rfl, b1, s1⟩
    rw [szBV_neg hbig]
    go_wp2_with fail
    go_ret
    exact ⟨rfl, b1⟩
  obtain ⟨z, hz⟩ : ∃ z : Int, z = 1048576 - (L.length + szB L) := ⟨_, rfl⟩
  have HP := Lib.hid (szBV_pos hbig)
  rw [← hz] at HP hbig
  have hz1 : (L.length : Int) + szB L ≤ 1048576 := by omega
  clear hz
  have hl := Lib.hid rA.len
  have hn2 : n ≤ 1048576 := by have := hl.out; omega
  have hol := Lib.hid (show (outs L).length = n by rw [outs_len]; exact hl.out)
  have hkb : kB L ≤ 6291456 := by have := kB_le L; omega
  have HCI := Lib.hid (fun A c w h => Outcomes_impl A n c L w h (by omega))
  have HCS := Lib.hid (fun A c w h => Outcomes_spec A n c L w h (by omega))
  obtain ⟨O, hO⟩ : ∃ O, O = outs L := ⟨_, rfl⟩
  rw [← hO] at hol HCI HCS
  clear hO
  go_enter Try.func11, Try.ntmps11
  go_wp2_with fail
  obtain ⟨w0, hw0⟩ : ∃ w0, w0 = w := ⟨_, rfl⟩
  have b0 : Below w.heap.size w w0 := by rw [hw0]; exact Below.refl _ _
  have S0 : w.heap.size ≤ w0.heap.size := by rw [hw0]; exact Nat.le_refl _
  rw [← hw0] at rA ⊢
  clear hw0
  refine (szBranchS_any _ _ _ L _ _ rA hn (by omega) (by omega)).mono ?_
  rintro e w1 ⟨rfl, b1, s1⟩
  rw [HP.out]
  go_wp2_with fail
  refine (toBranchS_any _ _ _ L _ (rA.below (b1.mono (by omega))) (by omega) (by omega)).mono ?_
  rintro e w2 ⟨vt, Ft, rfl, ot, b2, s2⟩
  obtain ⟨At, ct, rfl, _, _, rt⟩ := ot.rd
  have oct := ot
  go_wp2_with fail
  refine (HCS.out _ _ _ (rt.below (Below.refl _ _))).mono ?_
  rintro e w3 ⟨vw, rfl, ow, b3, s3⟩
  obtain ⟨Aw, cw, rfl, _, _, rw⟩ := rd_of_own ow
  have ocw := ow
  go_wp2_with fail
  refine (toBranchS_any _ _ _ L _ (rA.below (((b1.mono (by omega)).trans (b2.mono (by omega))).trans (b3.mono (by omega)))) (by omega) (by omega)).mono ?_
  rintro e w4 ⟨vx, Fx, rfl, ox, b4, s4⟩
  obtain ⟨Ax, cx, rfl, _, _, rx⟩ := ox.rd
  have ocx := ox
  go_wp2_with fail
  refine (HCI.out _ _ _ (rx.below (Below.refl _ _))).mono ?_
  rintro e w5 ⟨vg, rfl, og, b5, s5⟩
  obtain ⟨Ag, cg, rfl, _, _, rg⟩ := rd_of_own og
  have ocg := og
  go_wp2_with fail
  refine (eqIntS_same _ _ _ _ _ O _ hol.out (by omega) (rg.below (Below.refl _ _)) (rw.below ((b4.mono (by omega)).trans (b5.mono (by omega))))).mono ?_
  rintro e w6 ⟨rfl, b6, s6⟩
  go_wp2_with fail
  refine (toBranchS_any _ _ _ L _ (rA.below ((((((b1.mono (by omega)).trans (b2.mono (by omega))).trans (b3.mono (by omega))).trans (b4.mono (by omega))).trans (b5.mono (by omega))).trans (b6.mono (by omega)))) (by omega) (by omega)).mono ?_
  rintro e w7 ⟨vy, Fy, rfl, oy, b7, s7⟩
  obtain ⟨Ay, cy, rfl, _, _, ry⟩ := oy.rd
  have ocy := oy
  go_wp2_with fail
  refine (eqBranchS_same _ _ _ _ _ L _ (rx.below (((b5.mono (by omega)).trans (b6.mono (by omega))).trans (b7.mono (by omega)))) (ry.below (Below.refl _ _)) (by omega) (by omega)).mono ?_
  rintro e w8 ⟨rfl, b8, s8⟩
  go_wp2_with fail
  refine (markBranchS_any _ _ _ L _ 1 _ (ox.below ((((b5.mono (by omega)).trans (b6.mono (by omega))).trans (b7.mono (by omega))).trans (b8.mono (by omega)))) (by omega) (by omega) (by omega) (by omega)).mono ?_
  rintro e w9 ⟨rfl, oxm, k9⟩
  have b9 := k9.below (B := w3.heap.size) (by omega) (fun q hq => (ox.lt q hq).1)
  have s9 := k9.size
  have rxm := oxm.rd'
  have og := own_kin (ownsRow_below og (((b6.mono (by omega)).trans (b7.mono (by omega))).trans (b8.mono (by omega)))) k9 (fun q e hq => by have h1 := (og.lt q e).1; have h2 := (ocx.lt q hq).2; omega)
  have rg := rd_own og
  have oy := (oy.below (b8.mono (by omega))).kin k9 (fun q e hq => by have h1 := (oy.lt q e).1; have h2 := (ocx.lt q hq).2; omega)
  have ry := oy.rd'
  go_wp2_with fail
  refine (eqIntS_same _ _ _ _ _ O _ hol.out (by omega) (rg.below (Below.refl _ _)) (rw.below ((((((b4.mono (by omega)).trans (b5.mono (by omega))).trans (b6.mono (by omega))).trans (b7.mono (by omega))).trans (b8.mono (by omega))).trans (b9.mono (by omega))))).mono ?_
  rintro e w10 ⟨rfl, b10, s10⟩
  go_wp2_with fail
  refine (markIntS_any _ _ _ _ 1 _ (ownsRow_below og (b10.mono (by omega))) (by omega) (by omega) (by omega)).mono ?_
  rintro e w11 ⟨rfl, ogm, g11⟩
  have k11 := kin_of_grown g11
  have b11 := k11.below (B := w4.heap.size) (by omega) (fun q hq => (og.lt q (by simpa using hq)).1)
  have s11 := k11.size
  have rgm := rd_own ogm
  have oy := (oy.below (b10.mono (by omega))).kin k11 (fun q e hq => by have h1 := (oy.lt q e).1; have h2 := ((fun q hq => ocg.lt q (by simpa using hq)) q hq).2; omega)
  have ry := oy.rd'
  go_wp2_with fail
  refine (heldIntS_any _ _ _ 1 _ (rgm.below (Below.refl _ _)) (by omega) (by omega) (by omega)).mono ?_
  rintro e w' ⟨rfl, rfl⟩
  go_wp2_with fail
  refine (toBranchS_any _ _ _ L _ (rA.below (((((((((((b1.mono (by omega)).trans (b2.mono (by omega))).trans (b3.mono (by omega))).trans (b4.mono (by omega))).trans (b5.mono (by omega))).trans (b6.mono (by omega))).trans (b7.mono (by omega))).trans (b8.mono (by omega))).trans (b9.mono (by omega))).trans (b10.mono (by omega))).trans (b11.mono (by omega)))) (by omega) (by omega)).mono ?_
  rintro e w12 ⟨vz, Fz, rfl, oz, b12, s12⟩
  obtain ⟨Az, cz, rfl, _, _, rz⟩ := oz.rd
  have ocz := oz
  go_wp2_with fail
  refine (HCI.out _ _ _ (rz.below (Below.refl _ _))).mono ?_
  rintro e w13 ⟨vh, rfl, oh, b13, s13⟩
  obtain ⟨Ah, ch, rfl, _, _, rh⟩ := rd_of_own oh
  have och := oh
  go_wp2_with fail
  refine (eqIntS_same _ _ _ _ _ O _ hol.out (by omega) (rh.below (Below.refl _ _)) (rw.below ((((((((((b4.mono (by omega)).trans (b5.mono (by omega))).trans (b6.mono (by omega))).trans (b7.mono (by omega))).trans (b8.mono (by omega))).trans (b9.mono (by omega))).trans (b10.mono (by omega))).trans (b11.mono (by omega))).trans (b12.mono (by omega))).trans (b13.mono (by omega))))).mono ?_
  rintro e w14 ⟨rfl, b14, s14⟩
  go_wp2_with fail
  refine (heldIntS_any _ _ _ 1 _ (rgm.below (((b12.mono (by omega)).trans (b13.mono (by omega))).trans (b14.mono (by omega)))) (by omega) (by omega) (by omega)).mono ?_
  rintro e w' ⟨rfl, rfl⟩
  go_wp2_with fail
  go_ret
  exact ⟨rfl, ((((((((((((((b0.trans (b1.mono (by omega))).trans (b2.mono (by omega))).trans (b3.mono (by omega))).trans (b4.mono (by omega))).trans (b5.mono (by omega))).trans (b6.mono (by omega))).trans (b7.mono (by omega))).trans (b8.mono (by omega))).trans (b9.mono (by omega))).trans (b10.mono (by omega))).trans (b11.mono (by omega))).trans (b12.mono (by omega))).trans (b13.mono (by omega))).trans (b14.mono (by omega)))⟩
set_option maxRecDepth 100000 in
theorem lifted_fnExactOutcomes (os : Os) (started : os.Started) (H : Type) (enc : TypeId × Value → H) :
    ReturnsInHanded {} Try.checked os 11 .any (Rows.fnExactOutcomesSpec.pre6 enc Try.prog Try.f11 Rows.fnExactOutcomesRow.domain false) (Rows.fnExactOutcomesSpec.post enc Try.prog Try.f11 false true false false) := by
  refine returnsInHanded_of_change (C := Try.checked) own started (by kernel_rfl) Try.func11
    (ChangeSpec.witness6 (enc := enc) (C := Try.checked) false ⟨#[], #[.slice none 0 0], []⟩ 8 (by kernel_rfl) (by kernel_rfl) (by kernel_rfl) (by kernel_rfl)) ?_
  intro W base args ds gs before hval0 hW hcnd _
  have hval : ∀ (j : Nat) t v, Try.f11.params[j]? = some t → args[j]? = some v → Value.okWide Try.prog W .any base t v := hval0
  have hW' := hW
  obtain ⟨p, q, hA0, hV, rfl, hfz, hnd⟩ := hW
  have hA : DataW.TrodAll enc Try.prog W 0 (fun _ => true) true Try.f11.params.toList args.toList ds p := hA0
  obtain ⟨rfl, rfl⟩ := trodVars_none hV
  have hlt : ∀ x ∈ p, x.block < W.heap.size := fun x hx => hW'.lt x (by simp [hx])
  have key : Calls Try.prog 11 args W fun e W' => e = .returned (.bool true) ∧ Below W.heap.size W W' := by
    rw [Try.params11] at hA hval
    obtain ⟨v0, vs0, d0, ds0, p0, q0, hargs, rfl, rfl, h0, r0⟩ := trodAll_cons hA
    obtain ⟨rfl, rfl, rfl⟩ := trodAll_nil r0
    obtain rfl : args = #[v0] := by cases args; simp_all
    clear hA0 hval0 hW' hA
    obtain ⟨fuel0, hf0⟩ := h0
    obtain ⟨A, c, L, hv0, hnc, hcm, hrd⟩ := open_brs (slice_one (hval 0 64 v0 rfl rfl) Try.underlying64 hf0)
    subst hv0
    exact law_Outcomes A _ c L W hrd (by simp only [maxLen] at hcm; omega)
  refine key.mono fun e W' ⟨he, hb⟩ => ?_
  subst he
  have hrd : (Try.f11.params.toList.all fun t => Try.prog.readableRec t && decide (t < Try.prog.types.size)) = true := by kernel_rfl
  have hst : ∀ sp : Nat → Bool, (∀ x ∈ p ++ [], sp x.block = true) → DataW.TrodAll enc Try.prog W' 0 sp true Try.f11.params.toList args.toList ds p := fun sp hsp => trodAll_stays (sp := sp) (W' := W') laidOut (fun t ht => by simpa using List.all_eq_true.1 hrd t ht) hA (fun x hx => hb.same (hlt x hx)) (fun x hx => hsp x (by simp [hx]))
  have hds : ds.length = 1 := by
    rw [Try.params11] at hA
    obtain ⟨v0, vs0, d0, ds0, p0, q0, _, rfl, rfl, h0, r0⟩ := trodAll_cons hA
    obtain ⟨_, rfl, _⟩ := trodAll_nil r0
    rfl
  clear hA hA0 hval hval0
  obtain ⟨e0, rfl⟩ : ∃ e0, ds = [e0] := by match ds, hds with | [e0], _ => exact ⟨e0, rfl⟩
  exact ⟨_, rfl, post_of_below (pa := p) (pv := []) hW' (fun _ _ _ => (trodAll_cons_mk (shut_bool Try.underlying4 _) trodAll_mk0)) hst (fun _ _ => rfl) rfl hb (ok_one (by kernel_rfl) rfl (okWide_bool_mk Try.underlying4 _))⟩
theorem over_fnExactOutcomes : Rows.fnExactOutcomesRow.holds Try.pinned (OpenSpec.ofChange Rows.fnExactOutcomesSpec) :=
  OpenClaim.holds_of_wide 11 Try.f11 rfl rfl rfl rfl rfl rfl rfl ⟨rfl, rfl, rfl, rfl, rfl⟩ rfl rfl rfl rfl rfl (by kernel_rfl) Try.func11 (by kernel_rfl)
    (of_decide_eq_true (by kernel_rfl)) (by unfold Func.isWrapper; first | (rw [if_pos (by decide +kernel)]; kernel_rfl) | (rw [if_neg (by decide +kernel)]; exact ⟨rfl, rfl⟩))
    (fun os started H enc _ => lifted_fnExactOutcomes os started H enc)
/-- The statement. -/
theorem fnExactOutcomes_holds : Rows.FnExactOutcomesSaid := over_fnExactOutcomes
end Go.Proofs.Ytbffpehajkgjeaa
