/- The program's EqualBranches returns what the reference's returns, for all lists of branches. -/
import Derived.Test.YtbffpehajkgjeaaFrame
import Derived.Test.YtbffpehajkgjeaaBrsOpen
import Derived.Test.YtbffpehajkgjeaaBrsS
import Derived.Test.YtbffpehajkgjeaaEqD
namespace Go.Proofs.Ytbffpehajkgjeaa
open Go.ChangeShapes Go.WideShapes Go.ChangeAt Go.RowKit
set_option linter.unusedVariables false
set_option maxRecDepth 100000 in
set_option maxHeartbeats 4000000 in
theorem law_EqualBranches (A A' : Option Addr) (n n' c c' : Nat) (L L' : List Br) (w : World) (rA : RdB w A n L) (rB : RdB w A' n' L') (hn : n ≤ 9223372036854775807) (hn' : n' ≤ 9223372036854775807) :
    Calls Try.prog 9 #[.slice A n c, .slice A' n' c'] w fun e w' => e = .returned (.bool true) ∧ Below w.heap.size w w' := by
  by_cases hbig : (1048576 : Int) - (L.length + szB L) < 0
  · go_enter Try.func9, Try.ntmps9
    go_wp2_with fail
    refine (szBranchS_any _ _ _ L _ _ rA hn (by omega) (by omega)).mono ?_
    rintro e w1 ⟨rfl, b1, s1⟩
    rw [szBV_neg hbig]
    go_wp2_with fail
    go_ret
    exact ⟨rfl, b1⟩
  obtain ⟨z, hz⟩ : ∃ z : Int, z = 1048576 - (L.length + szB L) := ⟨_, rfl⟩
  have HP := Lib.hid (szBV_pos hbig)
  rw [← hz] at HP hbig
  have hz1 : (L.length : Int) + szB L ≤ 1048576 := by omega
  have hz2 : z ≤ 1048576 := by omega
  clear hz
  by_cases hbig' : z - (L'.length + szB L') < 0
  · go_enter Try.func9, Try.ntmps9
    go_wp2_with fail
    refine (szBranchS_any _ _ _ L _ _ rA hn (by omega) (by omega)).mono ?_
    rintro e w1 ⟨rfl, b1, s1⟩
    rw [HP.out]
    go_wp2_with fail
    refine (szBranchS_any _ _ _ L' _ _ (rB.below b1) hn' (by omega) (by omega)).mono ?_
    rintro e w2 ⟨rfl, b2, s2⟩
    rw [szBV_neg hbig']
    go_wp2_with fail
    go_ret
    exact ⟨rfl, b1.trans (b2.mono (by omega))⟩
  obtain ⟨z', hz'⟩ : ∃ z' : Int, z' = z - (L'.length + szB L') := ⟨_, rfl⟩
  have HP' := Lib.hid (szBV_pos hbig')
  rw [← hz'] at HP' hbig'
  have hz1' : (L'.length : Int) + szB L' ≤ 1048576 := by omega
  clear hz'
  have hl := Lib.hid rA.len
  have hl' := Lib.hid rB.len
  have hn2 : n ≤ 1048576 := by have := hl.out; omega
  have hn2' : n' ≤ 1048576 := by have := hl'.out; omega
  go_enter Try.func9, Try.ntmps9
  go_wp2_with fail
  obtain ⟨w0, hw0⟩ : ∃ w0, w0 = w := ⟨_, rfl⟩
  have b0 : Below w.heap.size w w0 := by rw [hw0]; exact Below.refl _ _
  have S0 : w.heap.size ≤ w0.heap.size := by rw [hw0]; exact Nat.le_refl _
  rw [← hw0] at rA rB ⊢
  clear hw0
  refine (szBranchS_any _ _ _ L _ _ rA hn (by omega) (by omega)).mono ?_
  rintro e w1 ⟨rfl, b1, s1⟩
  rw [HP.out]
  go_wp2_with fail
  refine (szBranchS_any _ _ _ L' _ _ (rB.below (b1.mono (by omega))) hn' (by omega) (by omega)).mono ?_
  rintro e w2 ⟨rfl, b2, s2⟩
  rw [HP'.out]
  go_wp2_with fail
  refine (toBranchS_any _ _ _ L _ (rA.below ((b1.mono (by omega)).trans (b2.mono (by omega)))) (by omega) (by omega)).mono ?_
  rintro e w3 ⟨vt, Ft, rfl, ot, b3, s3⟩
  obtain ⟨At, ct, rfl, _, _, rt⟩ := ot.rd
  go_wp2_with fail
  refine (toBranchS_any _ _ _ L' _ (rB.below (((b1.mono (by omega)).trans (b2.mono (by omega))).trans (b3.mono (by omega)))) (by omega) (by omega)).mono ?_
  rintro e w4 ⟨vu, Fu, rfl, ou, b4, s4⟩
  obtain ⟨Au, cu, rfl, _, _, ru⟩ := ou.rd
  go_wp2_with fail
  refine (EqualBranches_spec _ _ _ _ _ _ L L' _ (by omega) (by omega) (rt.below (b4.mono (by omega))) (ru.below (Below.refl _ _))).mono ?_
  rintro e w5 ⟨rfl, hq5⟩
  obtain ⟨b5, s5⟩ := below_quiet hq5
  clear hq5
  go_wp2_with fail
  refine (toBranchS_any _ _ _ L _ (rA.below (((((b1.mono (by omega)).trans (b2.mono (by omega))).trans (b3.mono (by omega))).trans (b4.mono (by omega))).trans (b5.mono (by omega)))) (by omega) (by omega)).mono ?_
  rintro e w6 ⟨vx, Fx, rfl, ox, b6, s6⟩
  obtain ⟨Ax, cx, rfl, _, _, rx⟩ := ox.rd
  go_wp2_with fail
  refine (toBranchS_any _ _ _ L' _ (rB.below ((((((b1.mono (by omega)).trans (b2.mono (by omega))).trans (b3.mono (by omega))).trans (b4.mono (by omega))).trans (b5.mono (by omega))).trans (b6.mono (by omega)))) (by omega) (by omega)).mono ?_
  rintro e w7 ⟨vy, Fy, rfl, oy, b7, s7⟩
  obtain ⟨Ay, cy, rfl, _, _, ry⟩ := oy.rd
  go_wp2_with fail
  refine (EqualBranches_impl _ _ _ _ _ _ L L' _ (by omega) (by omega) (rx.below (b7.mono (by omega))) (ry.below (Below.refl _ _))).mono ?_
  rintro e w8 ⟨rfl, hq8⟩
  obtain ⟨b8, s8⟩ := below_quiet hq8
  clear hq8
  go_wp2_with fail
  refine (toBranchS_any _ _ _ L _ (rA.below ((((((((b1.mono (by omega)).trans (b2.mono (by omega))).trans (b3.mono (by omega))).trans (b4.mono (by omega))).trans (b5.mono (by omega))).trans (b6.mono (by omega))).trans (b7.mono (by omega))).trans (b8.mono (by omega)))) (by omega) (by omega)).mono ?_
  rintro e w9 ⟨vp, Fp, rfl, op, b9, s9⟩
  obtain ⟨Ap, cp, rfl, _, _, rp⟩ := op.rd
  go_wp2_with fail
  refine (eqBranchS_same _ _ _ _ _ L _ (rx.below (((b7.mono (by omega)).trans (b8.mono (by omega))).trans (b9.mono (by omega)))) (rp.below (Below.refl _ _)) (by omega) (by omega)).mono ?_
  rintro e w10 ⟨rfl, b10, s10⟩
  go_wp2_with fail
  refine (toBranchS_any _ _ _ L' _ (rB.below ((((((((((b1.mono (by omega)).trans (b2.mono (by omega))).trans (b3.mono (by omega))).trans (b4.mono (by omega))).trans (b5.mono (by omega))).trans (b6.mono (by omega))).trans (b7.mono (by omega))).trans (b8.mono (by omega))).trans (b9.mono (by omega))).trans (b10.mono (by omega)))) (by omega) (by omega)).mono ?_
  rintro e w11 ⟨vq, Fq, rfl, oq, b11, s11⟩
  obtain ⟨Aq, cq, rfl, _, _, rq⟩ := oq.rd
  go_wp2_with fail
  refine (eqBranchS_same _ _ _ _ _ L' _ (ry.below ((((b8.mono (by omega)).trans (b9.mono (by omega))).trans (b10.mono (by omega))).trans (b11.mono (by omega)))) (rq.below (Below.refl _ _)) (by omega) (by omega)).mono ?_
  rintro e w12 ⟨rfl, b12, s12⟩
  go_wp2_with fail
  go_ret
  exact ⟨rfl, ((((((((((((b0.trans (b1.mono (by omega))).trans (b2.mono (by omega))).trans (b3.mono (by omega))).trans (b4.mono (by omega))).trans (b5.mono (by omega))).trans (b6.mono (by omega))).trans (b7.mono (by omega))).trans (b8.mono (by omega))).trans (b9.mono (by omega))).trans (b10.mono (by omega))).trans (b11.mono (by omega))).trans (b12.mono (by omega)))⟩
set_option maxRecDepth 100000 in
theorem lifted_fnExactEqualBranches (os : Os) (started : os.Started) (H : Type) (enc : TypeId × Value → H) :
    ReturnsInHanded {} Try.checked os 9 .any (Rows.fnExactEqualBranchesSpec.pre6 enc Try.prog Try.f9 Rows.fnExactEqualBranchesRow.domain false) (Rows.fnExactEqualBranchesSpec.post enc Try.prog Try.f9 false true false false) := by
  refine returnsInHanded_of_change (C := Try.checked) own started (by kernel_rfl) Try.func9
    (ChangeSpec.witness6 (enc := enc) (C := Try.checked) false ⟨#[], #[.slice none 0 0, .slice none 0 0], []⟩ 8 (by kernel_rfl) (by kernel_rfl) (by kernel_rfl) (by kernel_rfl)) ?_
  intro W base args ds gs before hval0 hW hcnd _
  have hval : ∀ (j : Nat) t v, Try.f9.params[j]? = some t → args[j]? = some v → Value.okWide Try.prog W .any base t v := hval0
  have hW' := hW
  obtain ⟨p, q, hA0, hV, rfl, hfz, hnd⟩ := hW
  have hA : DataW.TrodAll enc Try.prog W 0 (fun _ => true) true Try.f9.params.toList args.toList ds p := hA0
  obtain ⟨rfl, rfl⟩ := trodVars_none hV
  have hlt : ∀ x ∈ p, x.block < W.heap.size := fun x hx => hW'.lt x (by simp [hx])
  have key : Calls Try.prog 9 args W fun e W' => e = .returned (.bool true) ∧ Below W.heap.size W W' := by
    rw [Try.params9] at hA hval
    obtain ⟨v0, vs0, d0, ds0, p0, q0, hargs, rfl, rfl, h0, r0⟩ := trodAll_cons hA
    obtain ⟨v1, vs1, d1, ds1, p1, q1, rfl, rfl, rfl, h1, r1⟩ := trodAll_cons r0
    obtain ⟨rfl, rfl, rfl⟩ := trodAll_nil r1
    obtain rfl : args = #[v0, v1] := by cases args; simp_all
    clear hA0 hval0 hW' hA
    obtain ⟨fuel0, hf0⟩ := h0
    obtain ⟨fuel1, hf1⟩ := h1
    obtain ⟨A, c, L, hv0, hnc, hcm, hrd⟩ := open_brs (slice_one (hval 0 64 v0 rfl rfl) Try.underlying64 hf0)
    obtain ⟨A', c', L', hv1, hnc', hcm', hrd'⟩ := open_brs (slice_one (hval 1 64 v1 rfl rfl) Try.underlying64 hf1)
    subst hv0 hv1
    exact law_EqualBranches A A' _ _ c c' L L' W hrd hrd' (by simp only [maxLen] at hcm; omega) (by simp only [maxLen] at hcm'; omega)
  refine key.mono fun e W' ⟨he, hb⟩ => ?_
  subst he
  have hrd : (Try.f9.params.toList.all fun t => Try.prog.readableRec t && decide (t < Try.prog.types.size)) = true := by kernel_rfl
  have hst : ∀ sp : Nat → Bool, (∀ x ∈ p ++ [], sp x.block = true) → DataW.TrodAll enc Try.prog W' 0 sp true Try.f9.params.toList args.toList ds p := fun sp hsp => trodAll_stays (sp := sp) (W' := W') laidOut (fun t ht => by simpa using List.all_eq_true.1 hrd t ht) hA (fun x hx => hb.same (hlt x hx)) (fun x hx => hsp x (by simp [hx]))
  have hds : ds.length = 2 := by
    rw [Try.params9] at hA
    obtain ⟨v0, vs0, d0, ds0, p0, q0, _, rfl, rfl, h0, r0⟩ := trodAll_cons hA
    obtain ⟨v1, vs1, d1, ds1, p1, q1, _, rfl, rfl, h1, r1⟩ := trodAll_cons r0
    obtain ⟨_, rfl, _⟩ := trodAll_nil r1
    rfl
  clear hA hA0 hval hval0
  obtain ⟨e0, e1, rfl⟩ : ∃ e0 e1, ds = [e0, e1] := by match ds, hds with | [e0, e1], _ => exact ⟨e0, e1, rfl⟩
  exact ⟨_, rfl, post_of_below (pa := p) (pv := []) hW' (fun _ _ _ => (trodAll_cons_mk (shut_bool Try.underlying4 _) trodAll_mk0)) hst (fun _ _ => rfl) rfl hb (ok_one (by kernel_rfl) rfl (okWide_bool_mk Try.underlying4 _))⟩
theorem over_fnExactEqualBranches : Rows.fnExactEqualBranchesRow.holds Try.pinned (OpenSpec.ofChange Rows.fnExactEqualBranchesSpec) :=
  OpenClaim.holds_of_wide 9 Try.f9 rfl rfl rfl rfl rfl rfl rfl ⟨rfl, rfl, rfl, rfl, rfl⟩ rfl rfl rfl rfl rfl (by kernel_rfl) Try.func9 (by kernel_rfl)
    (of_decide_eq_true (by kernel_rfl)) (by unfold Func.isWrapper; first | (rw [if_pos (by decide +kernel)]; kernel_rfl) | (rw [if_neg (by decide +kernel)]; exact ⟨rfl, rfl⟩))
    (fun os started H enc _ => lifted_fnExactEqualBranches os started H enc)
/-- The statement. -/
theorem fnExactEqualBranches_holds : Rows.FnExactEqualBranchesSaid := over_fnExactEqualBranches
end Go.Proofs.Ytbffpehajkgjeaa
