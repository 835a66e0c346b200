/- The program's EqualStmts returns what the reference's returns, for every two lists of statements. -/
import Derived.Test.YtcggnpfjiaimdaaFrame
import Derived.Test.YtcggnpfjiaimdaaEqTI
import Derived.Test.YtcggnpfjiaimdaaEqTS
import Derived.Test.YtcggnpfjiaimdaaTreeEq
import Derived.Test.YtcggnpfjiaimdaaTreeOpen
namespace Go.Proofs.Ytcggnpfjiaimdaa
open Go.ChangeShapes Go.WideShapes Go.ChangeAt Go.RowKit
set_option linter.unusedVariables false
set_option maxRecDepth 100000 in
set_option maxHeartbeats 4000000 in
theorem law_EqualStmts (d : Nat) (A A' : Option Addr) (n n' c c' : Nat) (l l' : List (Tr d)) (w : World) (h : RdT w 0 d A n l) (h' : RdT w 0 d A' n' l') (hok : OkT d l) (hok' : OkT d l') :
    Calls Try.prog 3 #[.slice A n c, .slice A' n' c'] w fun e w' => e = .returned (.bool true) ∧ Below w.heap.size w w' := by
  by_cases hbig : subSz 1048576 (szT d l) < 0
  · go_enter Try.func3, Try.ntmps3
    go_wp2_with fail
    refine (szStmtS_any d _ _ _ _ l _ _ h hok (by omega) (by omega)).mono ?_
    rintro e w1 ⟨rfl, b1, s1⟩
    go_wp2_with fail
    go_ret
    exact ⟨rfl, b1⟩
  have hn : szT d l ≤ 1048576 := subSz_le hbig
  have h1 := subSz_ge hbig
  have h2 : subSz 1048576 (szT d l) ≤ 1099511627776 := by unfold subSz; split <;> omega
  by_cases hbig' : subSz (subSz 1048576 (szT d l)) (szT d l') < 0
  · go_enter Try.func3, Try.ntmps3
    go_wp2_with fail
    refine (szStmtS_any d _ _ _ _ l _ _ h hok (by omega) (by omega)).mono ?_
    rintro e w1 ⟨rfl, b1, s1⟩
    go_wp2_with fail
    refine (szStmtS_any d _ _ _ _ l' _ _ (h'.below b1) hok' (by omega) (by omega)).mono ?_
    rintro e w2 ⟨rfl, b2, s2⟩
    go_wp2_with fail
    go_ret
    exact ⟨rfl, b1.trans (b2.mono (by omega))⟩
  have hn' : szT d l' ≤ 1048576 := by
    have e := hbig'
    unfold subSz at e
    split at e <;> (try split at e) <;> omega
  have h1' : 0 ≤ subSz (subSz 1048576 (szT d l)) (szT d l') := by omega
  go_enter Try.func3, Try.ntmps3
  go_wp2_with fail
  obtain ⟨w0, hw0⟩ : ∃ w0, w0 = w := ⟨_, rfl⟩
  have b0 : Below w.heap.size w w0 := by rw [hw0]; exact Below.refl _ _
  have S0 : w.heap.size ≤ w0.heap.size := by rw [hw0]; exact Nat.le_refl _
  rw [← hw0] at h h' ⊢
  clear hw0
  have rA := h
  have rB := h'
  clear h h'
  refine (szStmtS_any d _ _ _ _ l _ _ rA hok (by omega) (by omega)).mono ?_
  rintro e w1 ⟨rfl, b1, s1⟩
  go_wp2_with fail
  refine (szStmtS_any d _ _ _ _ l' _ _ (rB.below (b1.mono (by omega))) hok' (by omega) (by omega)).mono ?_
  rintro e w2 ⟨rfl, b2, s2⟩
  go_wp2_with fail
  refine (toStmtS_any d _ _ _ _ l _ (rA.below ((b1.mono (by omega)).trans (b2.mono (by omega)))) hn).mono ?_
  rintro e w3 ⟨At, ct, rfl, rt, b3, s3⟩
  go_wp2_with fail
  refine (toStmtS_any d _ _ _ _ l' _ (rB.below (((b1.mono (by omega)).trans (b2.mono (by omega))).trans (b3.mono (by omega)))) hn').mono ?_
  rintro e w4 ⟨Au, cu, rfl, ru, b4, s4⟩
  go_wp2_with fail
  refine (EqualStmts_spec d _ _ _ _ _ _ _ _ l l' _ (rt.below (b4.mono (by omega))) (ru.below (Below.refl _ _)) hn hn').mono ?_
  rintro e w5 ⟨rfl, hq5⟩
  obtain ⟨b5, s5⟩ := below_quiet hq5
  clear hq5
  go_wp2_with fail
  refine (toStmtS_any d _ _ _ _ l _ (rA.below (((((b1.mono (by omega)).trans (b2.mono (by omega))).trans (b3.mono (by omega))).trans (b4.mono (by omega))).trans (b5.mono (by omega)))) hn).mono ?_
  rintro e w6 ⟨Ax, cx, rfl, rx, b6, s6⟩
  go_wp2_with fail
  refine (toStmtS_any d _ _ _ _ l' _ (rB.below ((((((b1.mono (by omega)).trans (b2.mono (by omega))).trans (b3.mono (by omega))).trans (b4.mono (by omega))).trans (b5.mono (by omega))).trans (b6.mono (by omega)))) hn').mono ?_
  rintro e w7 ⟨Ay, cy, rfl, ry, b7, s7⟩
  go_wp2_with fail
  refine (EqualStmts_impl d _ _ _ _ _ _ _ _ l l' _ (rx.below (b7.mono (by omega))) (ry.below (Below.refl _ _)) hn hn').mono ?_
  rintro e w8 ⟨rfl, b8, s8⟩
  go_wp2_with fail
  refine (toStmtS_any d _ _ _ _ l _ (rA.below ((((((((b1.mono (by omega)).trans (b2.mono (by omega))).trans (b3.mono (by omega))).trans (b4.mono (by omega))).trans (b5.mono (by omega))).trans (b6.mono (by omega))).trans (b7.mono (by omega))).trans (b8.mono (by omega)))) hn).mono ?_
  rintro e w9 ⟨Ap, cp, rfl, rp, b9, s9⟩
  go_wp2_with fail
  refine (eqStmtS_any d _ _ _ _ _ _ _ l _ (rx.below (((b7.mono (by omega)).trans (b8.mono (by omega))).trans (b9.mono (by omega)))) (rp.below (Below.refl _ _)) hn).mono ?_
  rintro e w10 ⟨rfl, b10, s10⟩
  go_wp2_with fail
  refine (toStmtS_any d _ _ _ _ l' _ (rB.below ((((((((((b1.mono (by omega)).trans (b2.mono (by omega))).trans (b3.mono (by omega))).trans (b4.mono (by omega))).trans (b5.mono (by omega))).trans (b6.mono (by omega))).trans (b7.mono (by omega))).trans (b8.mono (by omega))).trans (b9.mono (by omega))).trans (b10.mono (by omega)))) hn').mono ?_
  rintro e w11 ⟨Aq, cq, rfl, rq, b11, s11⟩
  go_wp2_with fail
  refine (eqStmtS_any d _ _ _ _ _ _ _ l' _ (ry.below ((((b8.mono (by omega)).trans (b9.mono (by omega))).trans (b10.mono (by omega))).trans (b11.mono (by omega)))) (rq.below (Below.refl _ _)) hn').mono ?_
  rintro e w12 ⟨rfl, b12, s12⟩
  go_wp2_with fail
  go_ret
  exact ⟨rfl, ((((((((((((b0.trans (b1.mono (by omega))).trans (b2.mono (by omega))).trans (b3.mono (by omega))).trans (b4.mono (by omega))).trans (b5.mono (by omega))).trans (b6.mono (by omega))).trans (b7.mono (by omega))).trans (b8.mono (by omega))).trans (b9.mono (by omega))).trans (b10.mono (by omega))).trans (b11.mono (by omega))).trans (b12.mono (by omega)))⟩
set_option maxRecDepth 100000 in
theorem lifted_fnExactEqualStmts (os : Os) (started : os.Started) (H : Type) (enc : TypeId × Value → H) :
    ReturnsInHanded {} Try.checked os 3 .any (Rows.fnExactEqualStmtsSpec.pre6 enc Try.prog Try.f3 Rows.fnExactEqualStmtsRow.domain false) (Rows.fnExactEqualStmtsSpec.post enc Try.prog Try.f3 false true false false) := by
  refine returnsInHanded_of_change (C := Try.checked) own started (by kernel_rfl) Try.func3
    (ChangeSpec.witness6 (enc := enc) (C := Try.checked) false ⟨#[], #[.slice none 0 0, .slice none 0 0], []⟩ 8 (by kernel_rfl) (by kernel_rfl) (by kernel_rfl) (by kernel_rfl)) ?_
  intro W base args ds gs before hval0 hW hcnd _
  have hval : ∀ (j : Nat) t v, Try.f3.params[j]? = some t → args[j]? = some v → Value.okWide Try.prog W .any base t v := hval0
  have hW' := hW
  obtain ⟨p, q, hA0, hV, rfl, hfz, hnd⟩ := hW
  have hA : DataW.TrodAll enc Try.prog W 0 (fun _ => true) true Try.f3.params.toList args.toList ds p := hA0
  obtain ⟨rfl, rfl⟩ := trodVars_none hV
  have hlt : ∀ x ∈ p, x.block < W.heap.size := fun x hx => hW'.lt x (by simp [hx])
  have key : Calls Try.prog 3 args W fun e W' => e = .returned (.bool true) ∧ Below W.heap.size W W' := by
    rw [Try.params3] at hA hval
    obtain ⟨v0, vs0, d0, ds0, p0, q0, hargs, rfl, rfl, h0, r0⟩ := trodAll_cons hA
    obtain ⟨v1, vs1, d1, ds1, p1, q1, rfl, rfl, rfl, h1, r1⟩ := trodAll_cons r0
    obtain ⟨rfl, rfl, rfl⟩ := trodAll_nil r1
    obtain rfl : args = #[v0, v1] := by cases args; simp_all
    clear hA0 hval0 hW' hA
    obtain ⟨fuel0, hf0⟩ := h0
    obtain ⟨fuel1, hf1⟩ := h1
    obtain ⟨A, n, c, l, hv0, hnc, hcm, hrd, hok⟩ := open_stmts (max fuel0 fuel1) fuel0 (Nat.le_max_left _ _) _ _ (slice_one (hval 0 22 v0 rfl rfl) Try.underlying22 hf0)
    obtain ⟨A', n', c', l', hv1, hnc', hcm', hrd', hok'⟩ := open_stmts (max fuel0 fuel1) fuel1 (Nat.le_max_right _ _) _ _ (slice_one (hval 1 22 v1 rfl rfl) Try.underlying22 hf1)
    subst hv0 hv1
    exact law_EqualStmts _ A A' n n' c c' l l' W hrd hrd' hok hok'
  refine key.mono fun e W' ⟨he, hb⟩ => ?_
  subst he
  have hrd : (Try.f3.params.toList.all fun t => Try.prog.readableRec t && decide (t < Try.prog.types.size)) = true := by kernel_rfl
  have hst : ∀ sp : Nat → Bool, (∀ x ∈ p ++ [], sp x.block = true) → DataW.TrodAll enc Try.prog W' 0 sp true Try.f3.params.toList args.toList ds p := fun sp hsp => trodAll_stays (sp := sp) (W' := W') laidOut (fun t ht => by simpa using List.all_eq_true.1 hrd t ht) hA (fun x hx => hb.same (hlt x hx)) (fun x hx => hsp x (by simp [hx]))
  have hds : ds.length = 2 := by
    rw [Try.params3] at hA
    obtain ⟨v0, vs0, d0, ds0, p0, q0, _, rfl, rfl, h0, r0⟩ := trodAll_cons hA
    obtain ⟨v1, vs1, d1, ds1, p1, q1, _, rfl, rfl, h1, r1⟩ := trodAll_cons r0
    obtain ⟨_, rfl, _⟩ := trodAll_nil r1
    rfl
  clear hA hA0 hval hval0
  obtain ⟨e0, e1, rfl⟩ : ∃ e0 e1, ds = [e0, e1] := by match ds, hds with | [e0, e1], _ => exact ⟨e0, e1, rfl⟩
  exact ⟨_, rfl, post_of_below (pa := p) (pv := []) hW' (fun _ _ _ => (trodAll_cons_mk (shut_bool Try.underlying4 _) trodAll_mk0)) hst (fun _ _ => rfl) rfl hb (ok_one (by kernel_rfl) rfl (okWide_bool_mk Try.underlying4 _))⟩
theorem over_fnExactEqualStmts : Rows.fnExactEqualStmtsRow.holds Try.pinned (OpenSpec.ofChange Rows.fnExactEqualStmtsSpec) :=
  OpenClaim.holds_of_wide 3 Try.f3 rfl rfl rfl rfl rfl rfl rfl ⟨rfl, rfl, rfl, rfl, rfl⟩ rfl rfl rfl rfl rfl (by kernel_rfl) Try.func3 (by kernel_rfl)
    (of_decide_eq_true (by kernel_rfl)) (by unfold Func.isWrapper; first | (rw [if_pos (by decide +kernel)]; kernel_rfl) | (rw [if_neg (by decide +kernel)]; exact ⟨rfl, rfl⟩))
    (fun os started H enc _ => lifted_fnExactEqualStmts os started H enc)
/-- The statement. -/
theorem fnExactEqualStmts_holds : Rows.FnExactEqualStmtsSaid := over_fnExactEqualStmts
end Go.Proofs.Ytcggnpfjiaimdaa
