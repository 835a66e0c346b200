/- The program's InitialBranch returns what the reference's returns, for all numbers, in new memory. -/
import Derived.Test.YtbffpehajkgjeaaFrame
import Derived.Test.YtbffpehajkgjeaaBranch
namespace Go.Proofs.Ytbffpehajkgjeaa
open Go.ChangeShapes Go.WideShapes Go.ChangeAt Go.RowKit
set_option linter.unusedVariables false
set_option maxRecDepth 100000 in
set_option maxHeartbeats 4000000 in
theorem law_InitialBranch (n k : Int) (w0 : World) : Calls Try.prog 8 #[.int .i64 n, .int .i64 k] w0 fun e w' => e = .returned (.bool true) ∧ Below w0.heap.size w0 w' := by
  have hlen := initM_len_le n k
  have hsz := initM_sz_le n k
  obtain ⟨M, hM⟩ : ∃ M, M = initM n k := ⟨_, rfl⟩
  have CS := InitialBranch_spec n k
  have CI := InitialBranch_impl n k
  rw [← hM] at hlen hsz CS CI
  clear hM
  obtain ⟨m, hm⟩ : ∃ m, m = M.length := ⟨_, rfl⟩
  rw [← hm] at hlen CS CI
  have HM := Lib.hid hm
  clear hm
  have CS := Lib.hid CS
  have CI := Lib.hid CI
  go_enter Try.func8, Try.ntmps8
  go_wp2_with fail
  refine (CS.out w0).mono ?_
  rintro e w1 ⟨Aw, cw, Fw, rfl, ow, b1, s1⟩
  have rw := ow.rd'
  go_wp2_with fail
  obtain ⟨w2, hw2⟩ : ∃ w2, w2 = w1.alloc (.cells #[.int .i64 0, .slice Aw m cw] 59) := ⟨_, rfl⟩
  rw [← hw2]
  have b2 : Below w1.heap.size w1 w2 := by rw [hw2]; exact (by repeat (first | exact Below.refl _ _ | assumption | (refine Below.trans ?_ (Below.mono (by assumption) (by first | omega | (simp; done) | (simp; omega)))) | (with_reducible refine Below.drew ?_) | (with_reducible refine Below.alloc ?_ (by first | omega | (simp; done) | (simp; omega)) _) | (with_reducible refine Below.setCell ?_ (by first | omega | (simp; done) | (simp; omega)) _)))
  have s2 : w1.heap.size + 1 = w2.heap.size := by rw [hw2]; simp
  have Xw := Lib.hid (show w2.heap[w1.heap.size]? = some (.cells #[.int .i64 0, .slice Aw m cw] 59 (0, 0)) by rw [hw2]; exact boxed1_0 _ _)
  have s2' := s2
  clear hw2
  refine (CI.out _).mono ?_
  rintro e w3 ⟨Ag, cg, Fg, rfl, og, b3, s3⟩
  have rg := og.rd'
  obtain ⟨bx1_0, bx1_1⟩ := boxcells2 (lay := (b3.mono (by omega))) Xw.out
  have lt1 : w1.heap.size < w3.heap.size := by omega
  go_wp2_with fail
  clear bx1_0 bx1_1 lt1
  obtain ⟨w4, hw4⟩ : ∃ w4, w4 = w3.alloc (.cells #[.int .i64 0, .slice Ag m cg] 59) := ⟨_, rfl⟩
  rw [← hw4]
  have b4 : Below w3.heap.size w3 w4 := by rw [hw4]; exact (by repeat (first | exact Below.refl _ _ | assumption | (refine Below.trans ?_ (Below.mono (by assumption) (by first | omega | (simp; done) | (simp; omega)))) | (with_reducible refine Below.drew ?_) | (with_reducible refine Below.alloc ?_ (by first | omega | (simp; done) | (simp; omega)) _) | (with_reducible refine Below.setCell ?_ (by first | omega | (simp; done) | (simp; omega)) _)))
  have s4 : w3.heap.size + 1 = w4.heap.size := by rw [hw4]; simp
  have Xg := Lib.hid (show w4.heap[w3.heap.size]? = some (.cells #[.int .i64 0, .slice Ag m cg] 59 (0, 0)) by rw [hw4]; exact boxed1_0 _ _)
  have s4' := s4
  clear hw4
  refine (eqBranch_same _ _ _ _ _ _ M _ (rg.below (b4.mono (by omega))) (rw.below (((b2.mono (by omega)).trans (b3.mono (by omega))).trans (b4.mono (by omega)))) (by omega) (by omega)).mono ?_
  rintro e w5 ⟨rfl, b5, s5⟩
  obtain ⟨bx2_0, bx2_1⟩ := boxcells2 (lay := (b5.mono (by omega))) Xg.out
  have lt2 : w3.heap.size < w5.heap.size := by omega
  go_wp2_with fail
  clear bx2_0 bx2_1 lt2
  refine (markBranch_any _ _ _ _ _ M _ 1 _ (og.below ((b4.mono (by omega)).trans (b5.mono (by omega)))) (by omega) (by omega) (by omega) (by omega)).mono ?_
  rintro e w6 ⟨rfl, og2, kg⟩
  have b6 := kg.below (B := w2.heap.size) (by omega) (fun q hq => (og.lt q hq).1)
  have s6 := kg.size
  have rg2 := og2.rd'
  have Xg2 := Lib.hid (show w6.heap[w3.heap.size]? = some (.cells #[.int .i64 0, .slice Ag m cg] 59 (0, 0)) from (kg.block w3.heap.size (by omega) (fun hq => by have := (og.lt _ hq).2; omega)).trans (((show Below w4.heap.size w4 w5 from (b5.mono (by omega))).block w3.heap.size (by omega)).trans Xg.out))
  obtain ⟨bx3_0, bx3_1⟩ := boxcells2 (lay := (Below.refl _ _)) Xg2.out
  have lt3 : w3.heap.size < w6.heap.size := by omega
  go_wp2_with fail
  clear bx3_0 bx3_1 lt3
  refine (heldBranch_any _ _ _ _ M 1 _ (rg2.below (Below.refl _ _)) (by omega) (by omega) (by omega) (by omega)).mono ?_
  rintro e w7 ⟨rfl, b7, s7⟩
  go_wp2_with fail
  refine (CI.out _).mono ?_
  rintro e w8 ⟨Ah, ch, Fh, rfl, oh, b8, s8⟩
  have rh := oh.rd'
  obtain ⟨bx4_0, bx4_1⟩ := boxcells2 (lay := ((((((b3.mono (by omega)).trans (b4.mono (by omega))).trans (b5.mono (by omega))).trans (b6.mono (by omega))).trans (b7.mono (by omega))).trans (b8.mono (by omega)))) Xw.out
  have lt4 : w1.heap.size < w8.heap.size := by omega
  go_wp2_with fail
  clear bx4_0 bx4_1 lt4
  obtain ⟨w9, hw9⟩ : ∃ w9, w9 = w8.alloc (.cells #[.int .i64 0, .slice Ah m ch] 59) := ⟨_, rfl⟩
  rw [← hw9]
  have b9 : Below w8.heap.size w8 w9 := by rw [hw9]; exact (by repeat (first | exact Below.refl _ _ | assumption | (refine Below.trans ?_ (Below.mono (by assumption) (by first | omega | (simp; done) | (simp; omega)))) | (with_reducible refine Below.drew ?_) | (with_reducible refine Below.alloc ?_ (by first | omega | (simp; done) | (simp; omega)) _) | (with_reducible refine Below.setCell ?_ (by first | omega | (simp; done) | (simp; omega)) _)))
  have s9 : w8.heap.size + 1 = w9.heap.size := by rw [hw9]; simp
  have Xh := Lib.hid (show w9.heap[w8.heap.size]? = some (.cells #[.int .i64 0, .slice Ah m ch] 59 (0, 0)) by rw [hw9]; exact boxed1_0 _ _)
  have s9' := s9
  clear hw9
  refine (eqBranch_same _ _ _ _ _ _ M _ (rh.below (b9.mono (by omega))) (rw.below ((((((((b2.mono (by omega)).trans (b3.mono (by omega))).trans (b4.mono (by omega))).trans (b5.mono (by omega))).trans (b6.mono (by omega))).trans (b7.mono (by omega))).trans (b8.mono (by omega))).trans (b9.mono (by omega)))) (by omega) (by omega)).mono ?_
  rintro e w10 ⟨rfl, b10, s10⟩
  obtain ⟨bx5_0, bx5_1⟩ := boxcells2 (lay := ((((b7.mono (by omega)).trans (b8.mono (by omega))).trans (b9.mono (by omega))).trans (b10.mono (by omega)))) Xg2.out
  have lt5 : w3.heap.size < w10.heap.size := by omega
  go_wp2_with fail
  clear bx5_0 bx5_1 lt5
  refine (heldBranch_any _ _ _ _ M 1 _ (rg2.below ((((b7.mono (by omega)).trans (b8.mono (by omega))).trans (b9.mono (by omega))).trans (b10.mono (by omega)))) (by omega) (by omega) (by omega) (by omega)).mono ?_
  rintro e w11 ⟨rfl, b11, s11⟩
  go_wp2_with fail
  go_ret
  exact ⟨rfl, (((((((((((b1.mono (by omega)).trans (b2.mono (by omega))).trans (b3.mono (by omega))).trans (b4.mono (by omega))).trans (b5.mono (by omega))).trans (b6.mono (by omega))).trans (b7.mono (by omega))).trans (b8.mono (by omega))).trans (b9.mono (by omega))).trans (b10.mono (by omega))).trans (b11.mono (by omega)))⟩
set_option maxRecDepth 100000 in
theorem lifted_fnExactInitialBranch (os : Os) (started : os.Started) (H : Type) (enc : TypeId × Value → H) :
    ReturnsInHanded {} Try.checked os 8 .any (Rows.fnExactInitialBranchSpec.pre6 enc Try.prog Try.f8 Rows.fnExactInitialBranchRow.domain false) (Rows.fnExactInitialBranchSpec.post enc Try.prog Try.f8 false true false false) := by
  refine returnsInHanded_of_change (C := Try.checked) own started (by kernel_rfl) Try.func8
    (ChangeSpec.witness6 (enc := enc) (C := Try.checked) false ⟨#[], #[.int .i64 0, .int .i64 0], []⟩ 8 (by kernel_rfl) (by kernel_rfl) (by kernel_rfl) (by kernel_rfl)) ?_
  intro W base args ds gs before hval0 hW hcnd _
  have hval : ∀ (j : Nat) t v, Try.f8.params[j]? = some t → args[j]? = some v → Value.okWide Try.prog W .any base t v := hval0
  have hW' := hW
  obtain ⟨p, q, hA0, hV, rfl, hfz, hnd⟩ := hW
  have hA : DataW.TrodAll enc Try.prog W 0 (fun _ => true) true Try.f8.params.toList args.toList ds p := hA0
  obtain ⟨rfl, rfl⟩ := trodVars_none hV
  have hlt : ∀ x ∈ p, x.block < W.heap.size := fun x hx => hW'.lt x (by simp [hx])
  have key : Calls Try.prog 8 args W fun e W' => e = .returned (.bool true) ∧ Below W.heap.size W W' := by
    rw [Try.params8] at hA hval
    obtain ⟨v0, vs0, d0, ds0, p0, q0, hargs, rfl, rfl, h0, r0⟩ := trodAll_cons hA
    obtain ⟨v1, vs1, d1, ds1, p1, q1, rfl, rfl, rfl, h1, r1⟩ := trodAll_cons r0
    obtain ⟨rfl, rfl, rfl⟩ := trodAll_nil r1
    obtain rfl : args = #[v0, v1] := by cases args; simp_all
    clear hA0 hval0 hW' hA
    obtain ⟨n, rfl, _, _, _⟩ := open_int Try.underlying3 (hval 0 3 v0 rfl rfl) h0
    obtain ⟨k, rfl, _, _, _⟩ := open_int Try.underlying3 (hval 1 3 v1 rfl rfl) h1
    exact law_InitialBranch n k W
  refine key.mono fun e W' ⟨he, hb⟩ => ?_
  subst he
  have hrd : (Try.f8.params.toList.all fun t => Try.prog.readableRec t && decide (t < Try.prog.types.size)) = true := by kernel_rfl
  have hst : ∀ sp : Nat → Bool, (∀ x ∈ p ++ [], sp x.block = true) → DataW.TrodAll enc Try.prog W' 0 sp true Try.f8.params.toList args.toList ds p := fun sp hsp => trodAll_stays (sp := sp) (W' := W') laidOut (fun t ht => by simpa using List.all_eq_true.1 hrd t ht) hA (fun x hx => hb.same (hlt x hx)) (fun x hx => hsp x (by simp [hx]))
  have hds : ds.length = 2 := by
    rw [Try.params8] at hA
    obtain ⟨v0, vs0, d0, ds0, p0, q0, _, rfl, rfl, h0, r0⟩ := trodAll_cons hA
    obtain ⟨v1, vs1, d1, ds1, p1, q1, _, rfl, rfl, h1, r1⟩ := trodAll_cons r0
    obtain ⟨_, rfl, _⟩ := trodAll_nil r1
    rfl
  clear hA hA0 hval hval0
  obtain ⟨e0, e1, rfl⟩ : ∃ e0 e1, ds = [e0, e1] := by match ds, hds with | [e0, e1], _ => exact ⟨e0, e1, rfl⟩
  exact ⟨_, rfl, post_of_below (pa := p) (pv := []) hW' (fun _ _ _ => (trodAll_cons_mk (shut_bool Try.underlying4 _) trodAll_mk0)) hst (fun _ _ => rfl) rfl hb (ok_one (by kernel_rfl) rfl (okWide_bool_mk Try.underlying4 _))⟩
theorem over_fnExactInitialBranch : Rows.fnExactInitialBranchRow.holds Try.pinned (OpenSpec.ofChange Rows.fnExactInitialBranchSpec) :=
  OpenClaim.holds_of_wide 8 Try.f8 rfl rfl rfl rfl rfl rfl rfl ⟨rfl, rfl, rfl, rfl, rfl⟩ rfl rfl rfl rfl rfl (by kernel_rfl) Try.func8 (by kernel_rfl)
    (of_decide_eq_true (by kernel_rfl)) (by unfold Func.isWrapper; first | (rw [if_pos (by decide +kernel)]; kernel_rfl) | (rw [if_neg (by decide +kernel)]; exact ⟨rfl, rfl⟩))
    (fun os started H enc _ => lifted_fnExactInitialBranch os started H enc)
/-- The statement. -/
theorem fnExactInitialBranch_holds : Rows.FnExactInitialBranchSaid := over_fnExactInitialBranch
end Go.Proofs.Ytbffpehajkgjeaa
