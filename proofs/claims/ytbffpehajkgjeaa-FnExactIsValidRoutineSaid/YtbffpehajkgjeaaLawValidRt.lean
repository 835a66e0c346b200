/- The program's IsValidRoutine returns what the reference's returns, for every routine. -/
import Derived.Test.YtbffpehajkgjeaaFrame
import Derived.Test.YtbffpehajkgjeaaValidRt
import Derived.Test.YtbffpehajkgjeaaOpenOp
namespace Go.Proofs.Ytbffpehajkgjeaa
open Go.ChangeShapes Go.WideShapes Go.ChangeAt Go.RowKit
set_option linter.unusedVariables false
set_option maxRecDepth 100000 in
set_option maxHeartbeats 4000000 in
theorem law_IsValidRoutine (N I B : Int) (A : Option Addr) (n c : Nat) (l : List Opt) (w : World) (h : Rd w 8 A n (l.flatMap ocells)) (hl : l.length = n) (hnc : n ≤ c) (hc : c ≤ maxLen) :
    Calls Try.prog 3 #[.agg #[.int .i64 N, .int .i64 I, .int .i64 B, .slice A n c]] w fun e w' => e = .returned (.bool true) ∧ Below w.heap.size w w' := by
  have hn0 : n ≤ 9223372036854775807 := by simp only [maxLen] at hc; omega
  by_cases hbig : (1048576 : Int) - n < 0
  · go_enter Try.func3, Try.ntmps3
    go_wp2_with fail
    refine (szRoutine_any _ _ _ _ _ _ _ _ hn0 (by omega) (by omega)).mono ?_
    rintro e w1 ⟨rfl, b1, s1⟩
    rw [if_pos hbig]
    go_wp2_with fail
    go_ret
    exact ⟨rfl, (by repeat (first | exact Below.refl _ _ | assumption | (refine Below.trans ?_ (Below.mono (by assumption) (by first | omega | (simp; done) | (simp; omega)))) | (with_reducible refine Below.drew ?_) | (with_reducible refine Below.alloc ?_ (by first | omega | (simp; done) | (simp; omega)) _) | (with_reducible refine Below.setCell ?_ (by first | omega | (simp; done) | (simp; omega)) _)))⟩
  have hn : n ≤ 1048576 := by omega
  go_enter Try.func3, Try.ntmps3
  go_wp2_with fail
  obtain ⟨w0, hw0⟩ : ∃ w0, w0 = (World.alloc w (.cells #[.int .i64 N, .int .i64 I, .int .i64 B, .slice A n c] 24)) := ⟨_, rfl⟩
  rw [← hw0]
  have b0 : Below w.heap.size w w0 := by rw [hw0]; exact (by repeat (first | exact Below.refl _ _ | assumption | (refine Below.trans ?_ (Below.mono (by assumption) (by first | omega | (simp; done) | (simp; omega)))) | (with_reducible refine Below.drew ?_) | (with_reducible refine Below.alloc ?_ (by first | omega | (simp; done) | (simp; omega)) _) | (with_reducible refine Below.setCell ?_ (by first | omega | (simp; done) | (simp; omega)) _)))
  have s0 : w.heap.size + 1 = w0.heap.size := by rw [hw0]; simp
  have x0_0 : w0.heap[w.heap.size]? = some (.cells #[.int .i64 N, .int .i64 I, .int .i64 B, .slice A n c] 24 (0, 0)) := by rw [hw0]; exact boxed1_0 _ _
  have X0_0 := Lib.hid x0_0
  clear x0_0
  have S0 : w.heap.size ≤ w0.heap.size := by omega
  clear hw0
  have rA := h.below b0
  clear h
  refine (szRoutine_any _ _ _ _ _ _ _ _ hn0 (by omega) (by omega)).mono ?_
  rintro e w1 ⟨rfl, b1, s1⟩
  rw [if_neg (by omega)]
  clear hbig
  obtain ⟨bx1_0, bx1_1, bx1_2, bx1_3⟩ := boxcells4 (lay := (b1.mono (by omega))) X0_0.out
  go_wp2_with fail
  clear bx1_0 bx1_1 bx1_2 bx1_3
  refine (toRoutine_any _ _ _ _ _ _ l _ (rA.below (b1.mono (by omega))) hl (by omega)).mono ?_
  rintro e w2 ⟨At, ct, rfl, ot, b2, s2⟩
  have rt := rd_own ot
  have oct := ot
  go_wp2_with fail
  refine (IsValidRoutine_spec _ _ _ _ _ _ l _ (rt.below (Below.refl _ _)) hl (by omega)).mono ?_
  rintro e w3 ⟨rfl, b3, s3⟩
  obtain ⟨bx2_0, bx2_1, bx2_2, bx2_3⟩ := boxcells4 (lay := (((b1.mono (by omega)).trans (b2.mono (by omega))).trans (b3.mono (by omega)))) X0_0.out
  go_wp2_with fail
  clear bx2_0 bx2_1 bx2_2 bx2_3
  refine (toRoutine_any _ _ _ _ _ _ l _ (rA.below (((b1.mono (by omega)).trans (b2.mono (by omega))).trans (b3.mono (by omega)))) hl (by omega)).mono ?_
  rintro e w4 ⟨Ax, cx, rfl, ox, b4, s4⟩
  have rx := rd_own ox
  have ocx := ox
  go_wp2_with fail
  obtain ⟨w5, hw5⟩ : ∃ w5, w5 = w4.alloc (.cells #[.int .i64 N, .int .i64 I, .int .i64 B, .slice Ax n cx] 29) := ⟨_, rfl⟩
  rw [← hw5]
  have b5 : Below w4.heap.size w4 w5 := by rw [hw5]; exact (by repeat (first | exact Below.refl _ _ | assumption | (refine Below.trans ?_ (Below.mono (by assumption) (by first | omega | (simp; done) | (simp; omega)))) | (with_reducible refine Below.drew ?_) | (with_reducible refine Below.alloc ?_ (by first | omega | (simp; done) | (simp; omega)) _) | (with_reducible refine Below.setCell ?_ (by first | omega | (simp; done) | (simp; omega)) _)))
  have s5 : w4.heap.size + 1 = w5.heap.size := by rw [hw5]; simp
  have Xx := Lib.hid (show w5.heap[w4.heap.size]? = some (.cells #[.int .i64 N, .int .i64 I, .int .i64 B, .slice Ax n cx] 29 (0, 0)) by rw [hw5]; exact boxed1_0 _ _)
  have s5' := s5
  clear hw5
  refine (IsValidRoutine_impl _ _ _ _ _ _ l _ (rx.below (b5.mono (by omega))) hl (by omega)).mono ?_
  rintro e w6 ⟨rfl, b6, s6⟩
  obtain ⟨bx3_0, bx3_1, bx3_2, bx3_3⟩ := boxcells4 (lay := ((((((b1.mono (by omega)).trans (b2.mono (by omega))).trans (b3.mono (by omega))).trans (b4.mono (by omega))).trans (b5.mono (by omega))).trans (b6.mono (by omega)))) X0_0.out
  obtain ⟨bx4_0, bx4_1, bx4_2, bx4_3⟩ := boxcells4 (lay := (b6.mono (by omega))) Xx.out
  go_wp2_with fail
  have rA6 := (rA.below ((((((b1.mono (by omega)).trans (b2.mono (by omega))).trans (b3.mono (by omega))).trans (b4.mono (by omega))).trans (b5.mono (by omega))).trans (b6.mono (by omega))))
  have rx6 := (rx.below ((b5.mono (by omega)).trans (b6.mono (by omega))))
  have vb6 : Below w5.heap.size w5 w6 := (b6.mono (by omega))
  have sb : w5.heap.size ≤ w6.heap.size := by omega
  go_region_with (first | (go_at_call 15; go_must (refine (toRoutine_any _ _ _ _ _ _ l _ (by exact rA6) hl (by omega)).mono ?_); rintro e wy ⟨Ay, cy, rfl, oy, by', sy⟩; have by2 := below_of_drew by'; have sy2 := by2.size; obtain ⟨z0, z1, z2, z3⟩ := boxcells4 (lay := vb6.trans (Below.mono by2 sb)) Xx.out) | (go_at_call 17; refine (eqRoutine_same _ _ _ _ _ _ _ _ l _ hl (by omega) (rx6.below by2) (rd_own oy)).mono ?_; rintro e wz ⟨rfl, bz, sz⟩))
  all_goals go_wp2_with fail
  all_goals go_ret
  all_goals exact ⟨rfl, (((((((b0.trans (b1.mono (by omega))).trans (b2.mono (by omega))).trans (b3.mono (by omega))).trans (b4.mono (by omega))).trans (b5.mono (by omega))).trans (b6.mono (by omega))).trans (by2.mono (by omega))).trans (bz.mono (by omega))⟩
set_option maxRecDepth 100000 in
theorem lifted_fnExactIsValidRoutine (os : Os) (started : os.Started) (H : Type) (enc : TypeId × Value → H) :
    ReturnsInHanded {} Try.checked os 3 .any (Rows.fnExactIsValidRoutineSpec.pre6 enc Try.prog Try.f3 Rows.fnExactIsValidRoutineRow.domain false) (Rows.fnExactIsValidRoutineSpec.post enc Try.prog Try.f3 false true false false) := by
  refine returnsInHanded_of_change (C := Try.checked) own started (by kernel_rfl) Try.func3
    (ChangeSpec.witness6 (enc := enc) (C := Try.checked) false ⟨#[], #[.agg #[.int .i64 0, .int .i64 0, .int .i64 0, .slice none 0 0]], []⟩ 8 (by kernel_rfl) (by kernel_rfl) (by kernel_rfl) (by kernel_rfl)) ?_
  intro W base args ds gs before hval0 hW hcnd _
  have hval : ∀ (j : Nat) t v, Try.f3.params[j]? = some t → args[j]? = some v → Value.okWide Try.prog W .any base t v := hval0
  have hW' := hW
  obtain ⟨p, q, hA0, hV, rfl, hfz, hnd⟩ := hW
  have hA : DataW.TrodAll enc Try.prog W 0 (fun _ => true) true Try.f3.params.toList args.toList ds p := hA0
  obtain ⟨rfl, rfl⟩ := trodVars_none hV
  have hlt : ∀ x ∈ p, x.block < W.heap.size := fun x hx => hW'.lt x (by simp [hx])
  have key : Calls Try.prog 3 args W fun e W' => e = .returned (.bool true) ∧ Below W.heap.size W W' := by
    rw [Try.params3] at hA hval
    obtain ⟨v0, vs0, d0, ds0, p0, q0, hargs, rfl, rfl, h0, r0⟩ := trodAll_cons hA
    obtain ⟨rfl, rfl, rfl⟩ := trodAll_nil r0
    obtain rfl : args = #[v0] := by cases args; simp_all
    clear hA0 hval0 hW' hA
    obtain ⟨c0, c1, c2, c3, y0, y1, y2, y3, m, rfl, _, _, hy0, hy1, hy2, hy3⟩ := Joins.open_agg4 Try.underlying24 (by kernel_rfl) (show Try.prog.cellsOf 24 = 4 by kernel_rfl) (hval 0 24 v0 rfl rfl) h0
    obtain ⟨k, e0, _, _⟩ := DataW.trod_int Try.underlying3 hy0
    obtain ⟨a, e1, _, _⟩ := DataW.trod_int Try.underlying3 hy1
    obtain ⟨b, e2, _, _⟩ := DataW.trod_int Try.underlying3 hy2
    simp at e0 e1 e2
    subst e0 e1 e2
    obtain ⟨A, n, c, l, rfl, hnc, hcm, hl, hrd⟩ := rd_of_slice (cellsf := ocells) Try.underlying22 cells_Op (by decide) trod_Op ocells_len hy3
    exact law_IsValidRoutine k a b A n c l W hrd hl hnc hcm
  refine key.mono fun e W' ⟨he, hb⟩ => ?_
  subst he
  have hrd : (Try.f3.params.toList.all fun t => Try.prog.readableRec t && decide (t < Try.prog.types.size)) = true := by kernel_rfl
  have hst : ∀ sp : Nat → Bool, (∀ x ∈ p ++ [], sp x.block = true) → DataW.TrodAll enc Try.prog W' 0 sp true Try.f3.params.toList args.toList ds p := fun sp hsp => trodAll_stays (sp := sp) (W' := W') laidOut (fun t ht => by simpa using List.all_eq_true.1 hrd t ht) hA (fun x hx => hb.same (hlt x hx)) (fun x hx => hsp x (by simp [hx]))
  have hds : ds.length = 1 := by
    rw [Try.params3] at hA
    obtain ⟨v0, vs0, d0, ds0, p0, q0, _, rfl, rfl, h0, r0⟩ := trodAll_cons hA
    obtain ⟨_, rfl, _⟩ := trodAll_nil r0
    rfl
  clear hA hA0 hval hval0
  obtain ⟨e0, rfl⟩ : ∃ e0, ds = [e0] := by match ds, hds with | [e0], _ => exact ⟨e0, rfl⟩
  exact ⟨_, rfl, post_of_below (pa := p) (pv := []) hW' (fun _ _ _ => (trodAll_cons_mk (shut_bool Try.underlying4 _) trodAll_mk0)) hst (fun _ _ => rfl) rfl hb (ok_one (by kernel_rfl) rfl (okWide_bool_mk Try.underlying4 _))⟩
theorem over_fnExactIsValidRoutine : Rows.fnExactIsValidRoutineRow.holds Try.pinned (OpenSpec.ofChange Rows.fnExactIsValidRoutineSpec) :=
  OpenClaim.holds_of_wide 3 Try.f3 rfl rfl rfl rfl rfl rfl rfl ⟨rfl, rfl, rfl, rfl, rfl⟩ rfl rfl rfl rfl rfl (by kernel_rfl) Try.func3 (by kernel_rfl)
    (of_decide_eq_true (by kernel_rfl)) (by unfold Func.isWrapper; first | (rw [if_pos (by decide +kernel)]; kernel_rfl) | (rw [if_neg (by decide +kernel)]; exact ⟨rfl, rfl⟩))
    (fun os started H enc _ => lifted_fnExactIsValidRoutine os started H enc)
/-- The statement. -/
theorem fnExactIsValidRoutine_holds : Rows.FnExactIsValidRoutineSaid := over_fnExactIsValidRoutine
end Go.Proofs.Ytbffpehajkgjeaa
