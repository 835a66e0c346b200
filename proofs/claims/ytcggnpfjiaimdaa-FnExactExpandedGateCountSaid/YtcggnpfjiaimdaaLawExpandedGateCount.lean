/- The program's ExpandedGateCount returns what the reference's returns, for every list of statements. -/
import Derived.Test.YtcggnpfjiaimdaaFrame
import Derived.Test.YtcggnpfjiaimdaaExpI
import Derived.Test.YtcggnpfjiaimdaaExpS
import Derived.Test.YtcggnpfjiaimdaaTreeEq
import Derived.Test.YtcggnpfjiaimdaaTreeOpen
namespace Go.Proofs.Ytcggnpfjiaimdaa
open Go.ChangeShapes Go.WideShapes Go.ChangeAt Go.RowKit
set_option linter.unusedVariables false
set_option maxRecDepth 100000 in
set_option maxHeartbeats 4000000 in
theorem law_ExpandedGateCount (d : Nat) (A : Option Addr) (n c : Nat) (l : List (Tr d)) (w : World) (h : RdT w 0 d A n l) (hok : OkT d l) :
    Calls Try.prog 4 #[.slice A n c] w fun e w' => e = .returned (.bool true) ∧ Below w.heap.size w w' := by
  by_cases hbig : subSz 1048576 (szT d l) < 0
  · go_enter Try.func4, Try.ntmps4
    go_wp2_with fail
    refine (szStmtS_any d _ _ _ _ l _ _ h hok (by omega) (by omega)).mono ?_
    rintro e w1 ⟨rfl, b1, s1⟩
    go_wp2_with fail
    go_ret
    exact ⟨rfl, b1⟩
  have hn : szT d l ≤ 1048576 := subSz_le hbig
  have h1 := subSz_ge hbig
  go_enter Try.func4, Try.ntmps4
  go_wp2_with fail
  obtain ⟨w0, hw0⟩ : ∃ w0, w0 = w := ⟨_, rfl⟩
  have b0 : Below w.heap.size w w0 := by rw [hw0]; exact Below.refl _ _
  have S0 : w.heap.size ≤ w0.heap.size := by rw [hw0]; exact Nat.le_refl _
  rw [← hw0] at h ⊢
  clear hw0
  have rA := h
  clear h
  refine (szStmtS_any d _ _ _ _ l _ _ rA hok (by omega) (by omega)).mono ?_
  rintro e w1 ⟨rfl, b1, s1⟩
  go_wp2_with fail
  refine (toStmtS_any d _ _ _ _ l _ (rA.below (b1.mono (by omega))) hn).mono ?_
  rintro e w2 ⟨At, ct, rfl, rt, b2, s2⟩
  go_wp2_with fail
  refine (ExpandedGateCount_spec d _ _ _ _ l _ (rt.below (Below.refl _ _)) hn).mono ?_
  rintro e w3 ⟨rfl, b3, s3⟩
  go_wp2_with fail
  refine (toStmtS_any d _ _ _ _ l _ (rA.below (((b1.mono (by omega)).trans (b2.mono (by omega))).trans (b3.mono (by omega)))) hn).mono ?_
  rintro e w4 ⟨Ax, cx, rfl, rx, b4, s4⟩
  go_wp2_with fail
  refine (ExpandedGateCount_impl d _ _ _ _ l _ (rx.below (Below.refl _ _)) hn).mono ?_
  rintro e w5 ⟨rfl, b5, s5⟩
  go_wp2_with fail
  refine (toStmtS_any d _ _ _ _ l _ (rA.below (((((b1.mono (by omega)).trans (b2.mono (by omega))).trans (b3.mono (by omega))).trans (b4.mono (by omega))).trans (b5.mono (by omega)))) hn).mono ?_
  rintro e w6 ⟨Ay, cy, rfl, ry, b6, s6⟩
  go_wp2_with fail
  refine (eqStmtS_any d _ _ _ _ _ _ _ l _ (rx.below ((b5.mono (by omega)).trans (b6.mono (by omega)))) (ry.below (Below.refl _ _)) hn).mono ?_
  rintro e w7 ⟨rfl, b7, s7⟩
  go_wp2_with fail
  go_ret
  exact ⟨rfl, (((((((b0.trans (b1.mono (by omega))).trans (b2.mono (by omega))).trans (b3.mono (by omega))).trans (b4.mono (by omega))).trans (b5.mono (by omega))).trans (b6.mono (by omega))).trans (b7.mono (by omega)))⟩
set_option maxRecDepth 100000 in
theorem lifted_fnExactExpandedGateCount (os : Os) (started : os.Started) (H : Type) (enc : TypeId × Value → H) :
    ReturnsInHanded {} Try.checked os 4 .any (Rows.fnExactExpandedGateCountSpec.pre6 enc Try.prog Try.f4 Rows.fnExactExpandedGateCountRow.domain false) (Rows.fnExactExpandedGateCountSpec.post enc Try.prog Try.f4 false true false false) := by
  refine returnsInHanded_of_change (C := Try.checked) own started (by kernel_rfl) Try.func4
    (ChangeSpec.witness6 (enc := enc) (C := Try.checked) false ⟨#[], #[.slice none 0 0], []⟩ 8 (by kernel_rfl) (by kernel_rfl) (by kernel_rfl) (by kernel_rfl)) ?_
  intro W base args ds gs before hval0 hW hcnd _
  have hval : ∀ (j : Nat) t v, Try.f4.params[j]? = some t → args[j]? = some v → Value.okWide Try.prog W .any base t v := hval0
  have hW' := hW
  obtain ⟨p, q, hA0, hV, rfl, hfz, hnd⟩ := hW
  have hA : DataW.TrodAll enc Try.prog W 0 (fun _ => true) true Try.f4.params.toList args.toList ds p := hA0
  obtain ⟨rfl, rfl⟩ := trodVars_none hV
  have hlt : ∀ x ∈ p, x.block < W.heap.size := fun x hx => hW'.lt x (by simp [hx])
  have key : Calls Try.prog 4 args W fun e W' => e = .returned (.bool true) ∧ Below W.heap.size W W' := by
    rw [Try.params4] at hA hval
    obtain ⟨v0, vs0, d0, ds0, p0, q0, hargs, rfl, rfl, h0, r0⟩ := trodAll_cons hA
    obtain ⟨rfl, rfl, rfl⟩ := trodAll_nil r0
    obtain rfl : args = #[v0] := by cases args; simp_all
    clear hA0 hval0 hW' hA
    obtain ⟨fuel0, hf0⟩ := h0
    obtain ⟨A, n, c, l, hv0, hnc, hcm, hrd, hok⟩ := open_stmts fuel0 fuel0 (Nat.le_refl _) _ _ (slice_one (hval 0 22 v0 rfl rfl) Try.underlying22 hf0)
    subst hv0
    exact law_ExpandedGateCount fuel0 A n c l W hrd hok
  refine key.mono fun e W' ⟨he, hb⟩ => ?_
  subst he
  have hrd : (Try.f4.params.toList.all fun t => Try.prog.readableRec t && decide (t < Try.prog.types.size)) = true := by kernel_rfl
  have hst : ∀ sp : Nat → Bool, (∀ x ∈ p ++ [], sp x.block = true) → DataW.TrodAll enc Try.prog W' 0 sp true Try.f4.params.toList args.toList ds p := fun sp hsp => trodAll_stays (sp := sp) (W' := W') laidOut (fun t ht => by simpa using List.all_eq_true.1 hrd t ht) hA (fun x hx => hb.same (hlt x hx)) (fun x hx => hsp x (by simp [hx]))
  have hds : ds.length = 1 := by
    rw [Try.params4] at hA
    obtain ⟨v0, vs0, d0, ds0, p0, q0, _, rfl, rfl, h0, r0⟩ := trodAll_cons hA
    obtain ⟨_, rfl, _⟩ := trodAll_nil r0
    rfl
  clear hA hA0 hval hval0
  obtain ⟨e0, rfl⟩ : ∃ e0, ds = [e0] := by match ds, hds with | [e0], _ => exact ⟨e0, rfl⟩
  exact ⟨_, rfl, post_of_below (pa := p) (pv := []) hW' (fun _ _ _ => (trodAll_cons_mk (shut_bool Try.underlying4 _) trodAll_mk0)) hst (fun _ _ => rfl) rfl hb (ok_one (by kernel_rfl) rfl (okWide_bool_mk Try.underlying4 _))⟩
theorem over_fnExactExpandedGateCount : Rows.fnExactExpandedGateCountRow.holds Try.pinned (OpenSpec.ofChange Rows.fnExactExpandedGateCountSpec) :=
  OpenClaim.holds_of_wide 4 Try.f4 rfl rfl rfl rfl rfl rfl rfl ⟨rfl, rfl, rfl, rfl, rfl⟩ rfl rfl rfl rfl rfl (by kernel_rfl) Try.func4 (by kernel_rfl)
    (of_decide_eq_true (by kernel_rfl)) (by unfold Func.isWrapper; first | (rw [if_pos (by decide +kernel)]; kernel_rfl) | (rw [if_neg (by decide +kernel)]; exact ⟨rfl, rfl⟩))
    (fun os started H enc _ => lifted_fnExactExpandedGateCount os started H enc)
/-- The statement. -/
theorem fnExactExpandedGateCount_holds : Rows.FnExactExpandedGateCountSaid := over_fnExactExpandedGateCount
end Go.Proofs.Ytcggnpfjiaimdaa
