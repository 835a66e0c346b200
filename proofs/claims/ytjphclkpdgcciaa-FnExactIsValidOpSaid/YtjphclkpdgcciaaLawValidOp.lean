/- The program's IsValidOp returns what the reference's returns, for every operation and every two numbers. -/
import Derived.Test.YtjphclkpdgcciaaFrame
import Derived.Test.YtjphclkpdgcciaaOpenOp
import Derived.Test.YtjphclkpdgcciaaOp
namespace Go.Proofs.Ytjphclkpdgcciaa
open Go.ChangeShapes Go.WideShapes Go.ChangeAt Go.RowKit
set_option linter.unusedVariables false
set_option maxHeartbeats 2000000 in
theorem law_IsValidOp (k gk ga gb gc q bit cond n bits : Int) (w : World) : Calls Try.prog 6 #[.agg #[.int .i64 k, .int .i64 gk, .int .i64 ga, .int .i64 gb, .int .i64 gc, .int .i64 q, .int .i64 bit, .int .i64 cond], .int .i64 n, .int .i64 bits] w fun e w' => e = .returned (.bool true) ∧ Below w.heap.size w w' := by
  go_enter Try.func6, Try.ntmps6
  go_wp2_with fail
  obtain ⟨w0, hw0⟩ : ∃ w0, w0 = (World.alloc w (.cells #[.int .i64 k, .int .i64 gk, .int .i64 ga, .int .i64 gb, .int .i64 gc, .int .i64 q, .int .i64 bit, .int .i64 cond] 34)) := ⟨_, rfl⟩
  rw [← hw0]
  have b0 : Below w.heap.size w w0 := by rw [hw0]; exact (by repeat (first | exact Below.refl _ _ | assumption | (refine Below.trans ?_ (Below.mono (by assumption) (by first | omega | (simp; done) | (simp; omega)))) | (with_reducible refine Below.drew ?_) | (with_reducible refine Below.alloc ?_ (by first | omega | (simp; done) | (simp; omega)) _) | (with_reducible refine Below.setCell ?_ (by first | omega | (simp; done) | (simp; omega)) _)))
  have s0 : w.heap.size + 1 = w0.heap.size := by rw [hw0]; simp
  have x0_0 : w0.heap[w.heap.size]? = some (.cells #[.int .i64 k, .int .i64 gk, .int .i64 ga, .int .i64 gb, .int .i64 gc, .int .i64 q, .int .i64 bit, .int .i64 cond] 34 (0, 0)) := by rw [hw0]; exact boxed1_0 _ _
  have X0_0 := Lib.hid x0_0
  clear x0_0
  have S0 : w.heap.size ≤ w0.heap.size := by omega
  clear hw0
  refine (toOp_any _ _ _ _ _ _ _ _ _).mono ?_
  rintro e w1 ⟨rfl, b1, s1⟩
  go_wp2_with fail
  refine (IsValidOp_spec _ _ _ _ _ _ _ _ _ _ _).mono ?_
  rintro e w2 ⟨rfl, b2, s2⟩
  obtain ⟨bx1_0, bx1_1, bx1_2, bx1_3, bx1_4, bx1_5, bx1_6, bx1_7⟩ := boxcells8 (lay := ((b1.mono (by omega)).trans (b2.mono (by omega)))) X0_0.out
  go_wp2_with fail
  clear bx1_0 bx1_1 bx1_2 bx1_3 bx1_4 bx1_5 bx1_6 bx1_7
  refine (toOp_any _ _ _ _ _ _ _ _ _).mono ?_
  rintro e w3 ⟨rfl, b3, s3⟩
  go_wp2_with fail
  refine (IsValidOp_impl _ _ _ _ _ _ _ _ _ _ _).mono ?_
  rintro e w4 ⟨rfl, b4, s4⟩
  go_wp2_with fail
  go_ret
  exact ⟨rfl, ((((b0.trans (b1.mono (by omega))).trans (b2.mono (by omega))).trans (b3.mono (by omega))).trans (b4.mono (by omega)))⟩
set_option maxRecDepth 100000 in
theorem lifted_fnExactIsValidOp (os : Os) (started : os.Started) (H : Type) (enc : TypeId × Value → H) :
    ReturnsInHanded {} Try.checked os 6 .any (Rows.fnExactIsValidOpSpec.pre6 enc Try.prog Try.f6 Rows.fnExactIsValidOpRow.domain false) (Rows.fnExactIsValidOpSpec.post enc Try.prog Try.f6 false true false false) := by
  refine returnsInHanded_of_change (C := Try.checked) own started (by kernel_rfl) Try.func6
    (ChangeSpec.witness6 (enc := enc) (C := Try.checked) false ⟨#[], #[.agg #[.int .i64 0, .int .i64 0, .int .i64 0, .int .i64 0, .int .i64 0, .int .i64 0, .int .i64 0, .int .i64 0], .int .i64 0, .int .i64 0], []⟩ 8 (by kernel_rfl) (by kernel_rfl) (by kernel_rfl) (by kernel_rfl)) ?_
  intro W base args ds gs before hval0 hW hcnd _
  have hval : ∀ (j : Nat) t v, Try.f6.params[j]? = some t → args[j]? = some v → Value.okWide Try.prog W .any base t v := hval0
  have hW' := hW
  obtain ⟨p, q, hA0, hV, rfl, hfz, hnd⟩ := hW
  have hA : DataW.TrodAll enc Try.prog W 0 (fun _ => true) true Try.f6.params.toList args.toList ds p := hA0
  obtain ⟨rfl, rfl⟩ := trodVars_none hV
  have hlt : ∀ x ∈ p, x.block < W.heap.size := fun x hx => hW'.lt x (by simp [hx])
  have key : Calls Try.prog 6 args W fun e W' => e = .returned (.bool true) ∧ Below W.heap.size W W' := by
    rw [Try.params6] at hA hval
    obtain ⟨v0, vs0, d0, ds0, p0, q0, hargs, rfl, rfl, h0, r0⟩ := trodAll_cons hA
    obtain ⟨v1, vs1, d1, ds1, p1, q1, rfl, rfl, rfl, h1, r1⟩ := trodAll_cons r0
    obtain ⟨v2, vs2, d2, ds2, p2, q2, rfl, rfl, rfl, h2, r2⟩ := trodAll_cons r1
    obtain ⟨rfl, rfl, rfl⟩ := trodAll_nil r2
    obtain rfl : args = #[v0, v1, v2] := by cases args; simp_all
    clear hA0 hval0 hW' hA
    obtain ⟨cs0, rfl, hcs0⟩ := okWide_struct Try.underlying34 (hval 0 34 v0 rfl rfl)
    obtain ⟨fuel0, hf0⟩ := h0
    obtain ⟨o, ho⟩ := trod_Op _ _ _ hf0
    obtain rfl : cs0 = (ocells o).toArray := by rw [← ho]; rfl
    obtain ⟨a1, rfl, _, _, _⟩ := open_int Try.underlying3 (hval 1 3 v1 rfl rfl) h1
    obtain ⟨a2, rfl, _, _, _⟩ := open_int Try.underlying3 (hval 2 3 v2 rfl rfl) h2
    exact law_IsValidOp o.k o.g.k o.g.a o.g.b o.g.c o.q o.bit o.cond a1 a2 W
  refine key.mono fun e W' ⟨he, hb⟩ => ?_
  subst he
  have hrd : (Try.f6.params.toList.all fun t => Try.prog.readableRec t && decide (t < Try.prog.types.size)) = true := by kernel_rfl
  have hst : ∀ sp : Nat → Bool, (∀ x ∈ p ++ [], sp x.block = true) → DataW.TrodAll enc Try.prog W' 0 sp true Try.f6.params.toList args.toList ds p := fun sp hsp => trodAll_stays (sp := sp) (W' := W') laidOut (fun t ht => by simpa using List.all_eq_true.1 hrd t ht) hA (fun x hx => hb.same (hlt x hx)) (fun x hx => hsp x (by simp [hx]))
  have hds : ds.length = 3 := by
    rw [Try.params6] at hA
    obtain ⟨v0, vs0, d0, ds0, p0, q0, _, rfl, rfl, h0, r0⟩ := trodAll_cons hA
    obtain ⟨v1, vs1, d1, ds1, p1, q1, _, rfl, rfl, h1, r1⟩ := trodAll_cons r0
    obtain ⟨v2, vs2, d2, ds2, p2, q2, _, rfl, rfl, h2, r2⟩ := trodAll_cons r1
    obtain ⟨_, rfl, _⟩ := trodAll_nil r2
    rfl
  clear hA hA0 hval hval0
  obtain ⟨e0, e1, e2, rfl⟩ : ∃ e0 e1 e2, ds = [e0, e1, e2] := by match ds, hds with | [e0, e1, e2], _ => exact ⟨e0, e1, e2, rfl⟩
  exact ⟨_, rfl, post_of_below (pa := p) (pv := []) hW' (fun _ _ _ => (trodAll_cons_mk (shut_bool Try.underlying4 _) trodAll_mk0)) hst (fun _ _ => rfl) rfl hb (ok_one (by kernel_rfl) rfl (okWide_bool_mk Try.underlying4 _))⟩
theorem over_fnExactIsValidOp : Rows.fnExactIsValidOpRow.holds Try.pinned (OpenSpec.ofChange Rows.fnExactIsValidOpSpec) :=
  OpenClaim.holds_of_wide 6 Try.f6 rfl rfl rfl rfl rfl rfl rfl ⟨rfl, rfl, rfl, rfl, rfl⟩ rfl rfl rfl rfl rfl (by kernel_rfl) Try.func6 (by kernel_rfl)
    (of_decide_eq_true (by kernel_rfl)) (by unfold Func.isWrapper; first | (rw [if_pos (by decide +kernel)]; kernel_rfl) | (rw [if_neg (by decide +kernel)]; exact ⟨rfl, rfl⟩))
    (fun os started H enc _ => lifted_fnExactIsValidOp os started H enc)
/-- The statement. -/
theorem fnExactIsValidOp_holds : Rows.FnExactIsValidOpSaid := over_fnExactIsValidOp
end Go.Proofs.Ytjphclkpdgcciaa
