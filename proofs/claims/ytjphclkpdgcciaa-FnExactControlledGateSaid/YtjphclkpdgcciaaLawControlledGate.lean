/- The program's ControlledGate returns what the reference's returns, for every number and every gate, in new memory. -/
import Derived.Test.YtjphclkpdgcciaaFrame
import Derived.Test.YtjphclkpdgcciaaControlS
import Derived.Test.YtjphclkpdgcciaaOpenOp
namespace Go.Proofs.Ytjphclkpdgcciaa
open Go.ChangeShapes Go.WideShapes Go.ChangeAt Go.RowKit
set_option linter.unusedVariables false
set_option maxHeartbeats 4000000 in
theorem law_ControlledGate (q k a b c : Int) (w : World) : Calls Try.prog 13 #[.int .i64 q, .agg #[.int .i64 k, .int .i64 a, .int .i64 b, .int .i64 c]] w fun e w' => e = .returned (.bool true) ∧ Below w.heap.size w w' := by
  have hlen := cgL_len q ⟨k, a, b, c⟩
  go_enter Try.func13, Try.ntmps13
  go_wp2_with fail
  obtain ⟨w0, hw0⟩ : ∃ w0, w0 = (World.alloc w (.cells #[.int .i64 k, .int .i64 a, .int .i64 b, .int .i64 c] 25)) := ⟨_, rfl⟩
  rw [← hw0]
  have b0 : Below w.heap.size w w0 := by rw [hw0]; exact (by repeat (first | exact Below.refl _ _ | assumption | (refine Below.trans ?_ (Below.mono (by assumption) (by first | omega | (simp; done) | (simp; omega)))) | (with_reducible refine Below.drew ?_) | (with_reducible refine Below.alloc ?_ (by first | omega | (simp; done) | (simp; omega)) _) | (with_reducible refine Below.setCell ?_ (by first | omega | (simp; done) | (simp; omega)) _)))
  have s0 : w.heap.size + 1 = w0.heap.size := by rw [hw0]; simp
  have x0_0 : w0.heap[w.heap.size]? = some (.cells #[.int .i64 k, .int .i64 a, .int .i64 b, .int .i64 c] 25 (0, 0)) := by rw [hw0]; exact boxed1_0 _ _
  have X0_0 := Lib.hid x0_0
  clear x0_0
  have S0 : w.heap.size ≤ w0.heap.size := by omega
  clear hw0
  refine (toGate_any _ _ _ _ _).mono ?_
  rintro e w1 ⟨rfl, b1, s1⟩
  go_wp2_with fail
  refine (ControlledGate_spec2 _ _ _ _ _ _).mono ?_
  rintro e w2 ⟨vw, rfl, ow, b2, s2⟩
  obtain ⟨Aw, cw, rfl, _, _, rw⟩ := rd_of_own ow
  have ocw := ow
  obtain ⟨bx1_0, bx1_1, bx1_2, bx1_3⟩ := boxcells4 (lay := ((b1.mono (by omega)).trans (b2.mono (by omega)))) X0_0.out
  have lt1 : w.heap.size < w2.heap.size := by omega
  go_wp2_with fail
  clear bx1_0 bx1_1 bx1_2 bx1_3 lt1
  refine (toGate_any _ _ _ _ _).mono ?_
  rintro e w3 ⟨rfl, b3, s3⟩
  go_wp2_with fail
  refine (ControlledGate_impl2 _ _ _ _ _ _).mono ?_
  rintro e w4 ⟨vg, rfl, og, b4, s4⟩
  obtain ⟨Ag, cg, rfl, _, _, rg⟩ := rd_of_own og
  have ocg := og
  go_wp2_with fail
  refine (eqGateS_same _ _ _ _ _ (cgL q ⟨k, a, b, c⟩) _ rfl (by omega) (rg.below (Below.refl _ _)) (rw.below ((b3.mono (by omega)).trans (b4.mono (by omega))))).mono ?_
  rintro e w5 ⟨rfl, b5, s5⟩
  go_wp2_with fail
  refine (markGateS_any _ _ _ _ 1 _ (ownsRow_below og (b5.mono (by omega))) (by omega) (by omega) (by omega)).mono ?_
  rintro e w6 ⟨rfl, ogm, gr6⟩
  have b6 := grown_below (B := w3.heap.size) gr6 (by omega) (fun q hq => (og.lt q hq).1)
  have s6 := gr6.size
  have rgm := rd_own ogm
  go_wp2_with fail
  refine (heldGateS_any _ _ _ 1 _ (rgm.below (Below.refl _ _)) (by omega) (by omega) (by omega)).mono ?_
  rintro e w' ⟨rfl, rfl⟩
  obtain ⟨bx2_0, bx2_1, bx2_2, bx2_3⟩ := boxcells4 (lay := ((((((b1.mono (by omega)).trans (b2.mono (by omega))).trans (b3.mono (by omega))).trans (b4.mono (by omega))).trans (b5.mono (by omega))).trans (b6.mono (by omega)))) X0_0.out
  have lt2 : w.heap.size < w6.heap.size := by omega
  go_wp2_with fail
  clear bx2_0 bx2_1 bx2_2 bx2_3 lt2
  refine (toGate_any _ _ _ _ _).mono ?_
  rintro e w7 ⟨rfl, b7, s7⟩
  go_wp2_with fail
  refine (ControlledGate_impl2 _ _ _ _ _ _).mono ?_
  rintro e w8 ⟨vh, rfl, oh, b8, s8⟩
  obtain ⟨Ah, ch, rfl, _, _, rh⟩ := rd_of_own oh
  have och := oh
  go_wp2_with fail
  refine (eqGateS_same _ _ _ _ _ (cgL q ⟨k, a, b, c⟩) _ rfl (by omega) (rh.below (Below.refl _ _)) (rw.below ((((((b3.mono (by omega)).trans (b4.mono (by omega))).trans (b5.mono (by omega))).trans (b6.mono (by omega))).trans (b7.mono (by omega))).trans (b8.mono (by omega))))).mono ?_
  rintro e w9 ⟨rfl, b9, s9⟩
  go_wp2_with fail
  refine (heldGateS_any _ _ _ 1 _ (rgm.below (((b7.mono (by omega)).trans (b8.mono (by omega))).trans (b9.mono (by omega)))) (by omega) (by omega) (by omega)).mono ?_
  rintro e w' ⟨rfl, rfl⟩
  go_wp2_with fail
  go_ret
  exact ⟨rfl, (((((((((b0.trans (b1.mono (by omega))).trans (b2.mono (by omega))).trans (b3.mono (by omega))).trans (b4.mono (by omega))).trans (b5.mono (by omega))).trans (b6.mono (by omega))).trans (b7.mono (by omega))).trans (b8.mono (by omega))).trans (b9.mono (by omega)))⟩
set_option maxRecDepth 100000 in
theorem lifted_fnExactControlledGate (os : Os) (started : os.Started) (H : Type) (enc : TypeId × Value → H) :
    ReturnsInHanded {} Try.checked os 13 .any (Rows.fnExactControlledGateSpec.pre6 enc Try.prog Try.f13 Rows.fnExactControlledGateRow.domain false) (Rows.fnExactControlledGateSpec.post enc Try.prog Try.f13 false true false false) := by
  refine returnsInHanded_of_change (C := Try.checked) own started (by kernel_rfl) Try.func13
    (ChangeSpec.witness6 (enc := enc) (C := Try.checked) false ⟨#[], #[.int .i64 0, .agg #[.int .i64 0, .int .i64 0, .int .i64 0, .int .i64 0]], []⟩ 8 (by kernel_rfl) (by kernel_rfl) (by kernel_rfl) (by kernel_rfl)) ?_
  intro W base args ds gs before hval0 hW hcnd _
  have hval : ∀ (j : Nat) t v, Try.f13.params[j]? = some t → args[j]? = some v → Value.okWide Try.prog W .any base t v := hval0
  have hW' := hW
  obtain ⟨p, q, hA0, hV, rfl, hfz, hnd⟩ := hW
  have hA : DataW.TrodAll enc Try.prog W 0 (fun _ => true) true Try.f13.params.toList args.toList ds p := hA0
  obtain ⟨rfl, rfl⟩ := trodVars_none hV
  have hlt : ∀ x ∈ p, x.block < W.heap.size := fun x hx => hW'.lt x (by simp [hx])
  have key : Calls Try.prog 13 args W fun e W' => e = .returned (.bool true) ∧ Below W.heap.size W W' := by
    rw [Try.params13] at hA hval
    obtain ⟨v0, vs0, d0, ds0, p0, q0, hargs, rfl, rfl, h0, r0⟩ := trodAll_cons hA
    obtain ⟨v1, vs1, d1, ds1, p1, q1, rfl, rfl, rfl, h1, r1⟩ := trodAll_cons r0
    obtain ⟨rfl, rfl, rfl⟩ := trodAll_nil r1
    obtain rfl : args = #[v0, v1] := by cases args; simp_all
    clear hA0 hval0 hW' hA
    obtain ⟨q, rfl, _, _, _⟩ := open_int Try.underlying3 (hval 0 3 v0 rfl rfl) h0
    obtain ⟨cs0, rfl, hcs0⟩ := okWide_struct Try.underlying25 (hval 1 25 v1 rfl rfl)
    obtain ⟨fuel0, hf0⟩ := h1
    obtain ⟨g, hg⟩ := trod_Gate _ _ _ hf0
    obtain rfl : cs0 = (gcells g).toArray := by rw [← hg]; rfl
    exact law_ControlledGate q g.k g.a g.b g.c W
  refine key.mono fun e W' ⟨he, hb⟩ => ?_
  subst he
  have hrd : (Try.f13.params.toList.all fun t => Try.prog.readableRec t && decide (t < Try.prog.types.size)) = true := by kernel_rfl
  have hst : ∀ sp : Nat → Bool, (∀ x ∈ p ++ [], sp x.block = true) → DataW.TrodAll enc Try.prog W' 0 sp true Try.f13.params.toList args.toList ds p := fun sp hsp => trodAll_stays (sp := sp) (W' := W') laidOut (fun t ht => by simpa using List.all_eq_true.1 hrd t ht) hA (fun x hx => hb.same (hlt x hx)) (fun x hx => hsp x (by simp [hx]))
  have hds : ds.length = 2 := by
    rw [Try.params13] at hA
    obtain ⟨v0, vs0, d0, ds0, p0, q0, _, rfl, rfl, h0, r0⟩ := trodAll_cons hA
    obtain ⟨v1, vs1, d1, ds1, p1, q1, _, rfl, rfl, h1, r1⟩ := trodAll_cons r0
    obtain ⟨_, rfl, _⟩ := trodAll_nil r1
    rfl
  clear hA hA0 hval hval0
  obtain ⟨e0, e1, rfl⟩ : ∃ e0 e1, ds = [e0, e1] := by match ds, hds with | [e0, e1], _ => exact ⟨e0, e1, rfl⟩
  exact ⟨_, rfl, post_of_below (pa := p) (pv := []) hW' (fun _ _ _ => (trodAll_cons_mk (shut_bool Try.underlying4 _) trodAll_mk0)) hst (fun _ _ => rfl) rfl hb (ok_one (by kernel_rfl) rfl (okWide_bool_mk Try.underlying4 _))⟩
theorem over_fnExactControlledGate : Rows.fnExactControlledGateRow.holds Try.pinned (OpenSpec.ofChange Rows.fnExactControlledGateSpec) :=
  OpenClaim.holds_of_wide 13 Try.f13 rfl rfl rfl rfl rfl rfl rfl ⟨rfl, rfl, rfl, rfl, rfl⟩ rfl rfl rfl rfl rfl (by kernel_rfl) Try.func13 (by kernel_rfl)
    (of_decide_eq_true (by kernel_rfl)) (by unfold Func.isWrapper; first | (rw [if_pos (by decide +kernel)]; kernel_rfl) | (rw [if_neg (by decide +kernel)]; exact ⟨rfl, rfl⟩))
    (fun os started H enc _ => lifted_fnExactControlledGate os started H enc)
/-- The statement. -/
theorem fnExactControlledGate_holds : Rows.FnExactControlledGateSaid := over_fnExactControlledGate
end Go.Proofs.Ytjphclkpdgcciaa
