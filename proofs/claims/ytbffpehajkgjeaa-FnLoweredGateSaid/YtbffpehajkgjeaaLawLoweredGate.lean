/- Only the decomposition of CCX contains T gates, namely seven: for every code. -/
import Derived.Test.YtbffpehajkgjeaaFrame
import Derived.Test.YtbffpehajkgjeaaTcount
import Derived.Test.YtbffpehajkgjeaaDraw3
import Derived.Test.YtbffpehajkgjeaaBytes
namespace Go.Proofs.Ytbffpehajkgjeaa
open Go.ChangeShapes Go.WideShapes Go.ChangeAt Go.RowKit
set_option linter.unusedVariables false
theorem dg_count (k a b c : Int) : (k = 12 → kcount 7 (dgate ⟨k, a, b, c⟩) + kcount 8 (dgate ⟨k, a, b, c⟩) = 7 ∧ (dgate ⟨k, a, b, c⟩).length = 15) ∧ ((k = 7 ∨ k = 8) → kcount 7 (dgate ⟨k, a, b, c⟩) + kcount 8 (dgate ⟨k, a, b, c⟩) = 1) ∧ (k ≠ 12 → k ≠ 7 → k ≠ 8 → kcount 7 (dgate ⟨k, a, b, c⟩) + kcount 8 (dgate ⟨k, a, b, c⟩) = 0) := by
  refine ⟨fun h => ?_, fun h => ?_, fun h1 h2 h3 => ?_⟩
  · subst h
    rw [dgate_12]
    constructor <;> rfl
  · rcases h with rfl | rfl
    · rw [dgate_ne (by decide) (by decide) (by decide)]
      rfl
    · rw [dgate_ne (by decide) (by decide) (by decide)]
      rfl
  · by_cases h10 : k = 10
    · subst h10
      rw [dgate_10]
      rfl
    · by_cases h11 : k = 11
      · subst h11
        rw [dgate_11]
        rfl
      · rw [dgate_ne h10 h11 h1]
        simp [kcount, h2, h3]
theorem dgate_len (k a b c : Int) : (dgate ⟨k, a, b, c⟩).length ≤ 15 := by
  unfold dgate
  simp only
  split
  · simp
  · split
    · simp
    · split <;> simp
set_option maxRecDepth 100000 in
set_option maxHeartbeats 1000000 in
theorem DrawDecomposeGate_any (A : Option Addr) (n c : Nat) (bs : List (Fin 256)) (w : World) (h : Rd w 1 A n (bs.flatMap bcell)) (hl : bs.length = n) (hn : n ≤ 1048576) :
    Calls Try.prog 30 #[.slice A n c] w fun e w' => (∃ k a b c : Int, e = .returned (.agg #[.int .i64 k, .int .i64 a, .int .i64 b, .int .i64 c])) ∧ Below w.heap.size w w' := by
  have b0 : Below w.heap.size w (w.alloc (.cells #[.int .i64 0, .int .i64 0, .int .i64 0, .int .i64 0] 46)) := (by repeat (first | exact Below.refl _ _ | assumption | (refine Below.trans ?_ (Below.mono (by assumption) (by first | omega | (simp; done) | (simp; omega)))) | (with_reducible refine Below.drew ?_) | (with_reducible refine Below.alloc ?_ (by first | omega | (simp; done) | (simp; omega)) _) | (with_reducible refine Below.setCell ?_ (by first | omega | (simp; done) | (simp; omega)) _)))
  have H := Lib.hid (h.below b0)
  have HL := Lib.hid hl
  clear h hl b0
  go_enter Try.func30, Try.ntmps30
  go_wp2_with fail
  obtain ⟨w0, hw0⟩ : ∃ w0, w0 = w.alloc (.cells #[.int .i64 0, .int .i64 0, .int .i64 0, .int .i64 0] 46) := ⟨_, rfl⟩
  rw [← hw0] at H ⊢
  have x0 : w0.heap[w.heap.size]? = some (.cells #[.int .i64 0, .int .i64 0, .int .i64 0, .int .i64 0] 46 (0, 0)) := by rw [hw0]; exact boxed1_0 _ _
  have b0 : Below w.heap.size w w0 := by rw [hw0]; exact (by repeat (first | exact Below.refl _ _ | assumption | (refine Below.trans ?_ (Below.mono (by assumption) (by first | omega | (simp; done) | (simp; omega)))) | (with_reducible refine Below.drew ?_) | (with_reducible refine Below.alloc ?_ (by first | omega | (simp; done) | (simp; omega)) _) | (with_reducible refine Below.setCell ?_ (by first | omega | (simp; done) | (simp; omega)) _)))
  have s0 : w.heap.size < w0.heap.size := by rw [hw0]; simp
  clear hw0
  refine (DrawInverseGate_any _ _ _ bs w0 H.out HL.out hn).mono ?_
  rintro e w1 ⟨⟨k, a, b, cc, rfl⟩, hb1⟩
  have x1 := (hb1.block _ s0).trans x0
  have s1 := hb1.size
  obtain ⟨q0, q1, q2, q3⟩ := boxcells4 (lay := Below.refl _ _) x1
  have f0 := free_at (j := 0) x1
  have f1 := free_at (j := 1) x1
  have f2 := free_at (j := 2) x1
  have f3 := free_at (j := 3) x1
  have hb : Below w.heap.size w w1 := b0.trans (hb1.mono (by omega))
  clear x0 x1 hb1 b0
  go_wp2_with fail
  exact bodyPost_ret (v := .agg #[.int .i64 k, .int .i64 a, .int .i64 b, .int .i64 cc]) (by simp [results, Try.results30, go_sem, q0, q1, q2, q3]) rfl ⟨⟨_, _, _, _, rfl⟩, (by repeat (first | exact Below.refl _ _ | assumption | (refine Below.trans ?_ (Below.mono (by assumption) (by first | omega | (simp; done) | (simp; omega)))) | (with_reducible refine Below.drew ?_) | (with_reducible refine Below.alloc ?_ (by first | omega | (simp; done) | (simp; omega)) _) | (with_reducible refine Below.setCell ?_ (by first | omega | (simp; done) | (simp; omega)) _)))⟩
set_option maxRecDepth 100000 in
set_option maxHeartbeats 4000000 in
theorem law_LoweredGate (A : Option Addr) (n c : Nat) (bs : List (Fin 256)) (w0 : World) (h : Rd w0 1 A n (bs.flatMap bcell)) (hl : bs.length = n) (hnc : n ≤ c) (hc : c ≤ maxLen) :
    Calls Try.prog 6 #[.slice A n c] w0 fun e w' => e = .returned (.bool true) ∧ Below w0.heap.size w0 w' := by
  have hn0 : n ≤ 9223372036854775807 := by simp only [maxLen] at hc; omega
  have H := Lib.hid h
  have HL := Lib.hid hl
  clear h hl
  by_cases hbig : 1048576 < n
  · have hB : decide (1048576 < n) = true := by simpa using hbig
    go_enter Try.func6, Try.ntmps6
    go_wp2_with (go_at_call 25; refine (big_any _ _ _ _ hn0).mono ?_; rintro e w' ⟨rfl, rfl⟩)
    go_ret
    exact ⟨rfl, Below.refl _ _⟩
  have hB : decide (1048576 < n) = false := by simpa using hbig
  go_enter Try.func6, Try.ntmps6
  go_wp2_with (go_at_call 25; refine (big_any _ _ _ _ hn0).mono ?_; rintro e w' ⟨rfl, rfl⟩)
  clear hB
  refine (DrawDecomposeGate_any _ _ _ bs w0 H.out HL.out (by omega)).mono ?_
  rintro e w1 ⟨⟨gk, ga, gb, gc, rfl⟩, b1⟩
  have s1 := b1.size
  go_wp2_with fail
  obtain ⟨w2, hw2⟩ : ∃ w2, w2 = w1.alloc (.cells #[.int .i64 gk, .int .i64 ga, .int .i64 gb, .int .i64 gc] 46) := ⟨_, rfl⟩
  rw [← hw2]
  have b2 : Below w1.heap.size w1 w2 := by rw [hw2]; exact (by repeat (first | exact Below.refl _ _ | assumption | (refine Below.trans ?_ (Below.mono (by assumption) (by first | omega | (simp; done) | (simp; omega)))) | (with_reducible refine Below.drew ?_) | (with_reducible refine Below.alloc ?_ (by first | omega | (simp; done) | (simp; omega)) _) | (with_reducible refine Below.setCell ?_ (by first | omega | (simp; done) | (simp; omega)) _)))
  have s2 : w1.heap.size + 1 = w2.heap.size := by rw [hw2]; simp
  have Xg := Lib.hid (show w2.heap[w1.heap.size]? = some (.cells #[.int .i64 gk, .int .i64 ga, .int .i64 gb, .int .i64 gc] 46 (0, 0)) by rw [hw2]; exact boxed1_0 _ _)
  have s2' := s2
  clear hw2
  have hlen := dgate_len gk ga gb gc
  have CI := Lib.hid (DecomposeGate_impl gk ga gb gc)
  have CS := Lib.hid (DecomposeGate_spec gk ga gb gc)
  have HD := Lib.hid (dg_count gk ga gb gc)
  obtain ⟨D, hD⟩ : ∃ D, D = dgate ⟨gk, ga, gb, gc⟩ := ⟨_, rfl⟩
  rw [← hD] at CI CS HD hlen
  clear hD
  refine (CI.out _).mono ?_
  rintro e w3 ⟨vo, rfl, oo, b3, s3⟩
  obtain ⟨Ao, co, rfl, _, _, ro⟩ := rd_of_own oo
  have oco := oo
  obtain ⟨bx1_0, bx1_1, bx1_2, bx1_3⟩ := boxcells4 (lay := (b3.mono (by omega))) Xg.out
  have lt1 : w1.heap.size < w3.heap.size := by omega
  go_wp2_with fail
  clear bx1_0 bx1_1 bx1_2 bx1_3 lt1
  refine (CS.out _).mono ?_
  rintro e w4 ⟨vs, rfl, os, b4, s4⟩
  obtain ⟨As, cs, rfl, _, _, rs⟩ := rd_of_own os
  have ocs := os
  go_wp2_with fail
  refine (sameGates_same _ _ _ _ _ D _ rfl (by omega) (ro.below (b4.mono (by omega))) (rs.below (Below.refl _ _))).mono ?_
  rintro e w5 ⟨rfl, b5, s5⟩
  go_wp2_with fail
  refine (tCount_any _ _ _ D _ (ro.below ((b4.mono (by omega)).trans (b5.mono (by omega)))) rfl (by omega)).mono ?_
  rintro e w6 ⟨rfl, b6, s6⟩
  obtain ⟨bx2_0, bx2_1, bx2_2, bx2_3⟩ := boxcells4 (lay := ((((b3.mono (by omega)).trans (b4.mono (by omega))).trans (b5.mono (by omega))).trans (b6.mono (by omega)))) Xg.out
  have lt2 : w1.heap.size < w6.heap.size := by omega
  by_cases h12 : gk = 12
  · subst h12
    obtain ⟨hc1, hc2⟩ := HD.out.1 rfl
    have hc3 : (kcount 7 D : Int) + kcount 8 D = 7 := by omega
    rw [hc3]
    have hc4 : D.length = 15 := hc2
    rw [hc4] at *
    clear hc1 hc2 hc3 hc4
    go_wp2_with fail
    go_ret
    exact ⟨rfl, ((((((b1.mono (by omega)).trans (b2.mono (by omega))).trans (b3.mono (by omega))).trans (b4.mono (by omega))).trans (b5.mono (by omega))).trans (b6.mono (by omega)))⟩
  have n12 : (gk == 12) = false := beq_eq_false_iff_ne.2 h12
  by_cases h7 : gk = 7 ∨ gk = 8
  · have hc3 : (kcount 7 D : Int) + kcount 8 D = 1 := by have := HD.out.2.1 h7; omega
    rw [hc3]
    clear hc3
    rcases h7 with rfl | rfl
    · go_wp2_with fail
      go_ret
      exact ⟨rfl, ((((((b1.mono (by omega)).trans (b2.mono (by omega))).trans (b3.mono (by omega))).trans (b4.mono (by omega))).trans (b5.mono (by omega))).trans (b6.mono (by omega)))⟩
    · go_wp2_with fail
      go_ret
      exact ⟨rfl, ((((((b1.mono (by omega)).trans (b2.mono (by omega))).trans (b3.mono (by omega))).trans (b4.mono (by omega))).trans (b5.mono (by omega))).trans (b6.mono (by omega)))⟩
  have hc3 : (kcount 7 D : Int) + kcount 8 D = 0 := by have := HD.out.2.2 h12 (by omega) (by omega); omega
  rw [hc3]
  have n7 : (gk == 7) = false := beq_eq_false_iff_ne.2 (by omega)
  have n8 : (gk == 8) = false := beq_eq_false_iff_ne.2 (by omega)
  clear hc3 h12 h7
  go_wp2_with fail
  go_ret
  exact ⟨rfl, ((((((b1.mono (by omega)).trans (b2.mono (by omega))).trans (b3.mono (by omega))).trans (b4.mono (by omega))).trans (b5.mono (by omega))).trans (b6.mono (by omega)))⟩
set_option maxRecDepth 100000 in
theorem lifted_fnLoweredGate (os : Os) (started : os.Started) (H : Type) (enc : TypeId × Value → H) :
    ReturnsInHanded {} Try.checked os 6 .any (Rows.fnLoweredGateSpec.pre6 enc Try.prog Try.f6 Rows.fnLoweredGateRow.domain false) (Rows.fnLoweredGateSpec.post enc Try.prog Try.f6 false true false false) := by
  refine returnsInHanded_of_change (C := Try.checked) own started (by kernel_rfl) Try.func6
    (ChangeSpec.witness6 (enc := enc) (C := Try.checked) false ⟨#[], #[.slice none 0 0], []⟩ 8 (by kernel_rfl) (by kernel_rfl) (by kernel_rfl) (by kernel_rfl)) ?_
  intro W base args ds gs before hval0 hW hcnd _
  have hval : ∀ (j : Nat) t v, Try.f6.params[j]? = some t → args[j]? = some v → Value.okWide Try.prog W .any base t v := hval0
  have hW' := hW
  obtain ⟨p, q, hA0, hV, rfl, hfz, hnd⟩ := hW
  have hA : DataW.TrodAll enc Try.prog W 0 (fun _ => true) true Try.f6.params.toList args.toList ds p := hA0
  obtain ⟨rfl, rfl⟩ := trodVars_none hV
  have hlt : ∀ x ∈ p, x.block < W.heap.size := fun x hx => hW'.lt x (by simp [hx])
  have key : Calls Try.prog 6 args W fun e W' => e = .returned (.bool true) ∧ Below W.heap.size W W' := by
    rw [Try.params6] at hA hval
    obtain ⟨v0, vs0, d0, ds0, p0, q0, hargs, rfl, rfl, h0, r0⟩ := trodAll_cons hA
    obtain ⟨rfl, rfl, rfl⟩ := trodAll_nil r0
    obtain rfl : args = #[v0] := by cases args; simp_all
    clear hA0 hval0 hW' hA
    obtain ⟨fuel0, hf0⟩ := h0
    obtain ⟨A, n, c, l, hv0, hnc, hcm, hl, hrd⟩ := rd_of_slice (cellsf := bcell) Try.underlying40 cells_byte (by decide) trod_byte bcell_len (slice_one (hval 0 40 v0 rfl rfl) Try.underlying40 hf0)
    subst hv0
    exact law_LoweredGate A n c l W hrd hl hnc hcm
  refine key.mono fun e W' ⟨he, hb⟩ => ?_
  subst he
  have hrd : (Try.f6.params.toList.all fun t => Try.prog.readableRec t && decide (t < Try.prog.types.size)) = true := by kernel_rfl
  have hst : ∀ sp : Nat → Bool, (∀ x ∈ p ++ [], sp x.block = true) → DataW.TrodAll enc Try.prog W' 0 sp true Try.f6.params.toList args.toList ds p := fun sp hsp => trodAll_stays (sp := sp) (W' := W') laidOut (fun t ht => by simpa using List.all_eq_true.1 hrd t ht) hA (fun x hx => hb.same (hlt x hx)) (fun x hx => hsp x (by simp [hx]))
  have hds : ds.length = 1 := by
    rw [Try.params6] at hA
    obtain ⟨v0, vs0, d0, ds0, p0, q0, _, rfl, rfl, h0, r0⟩ := trodAll_cons hA
    obtain ⟨_, rfl, _⟩ := trodAll_nil r0
    rfl
  clear hA hA0 hval hval0
  obtain ⟨e0, rfl⟩ : ∃ e0, ds = [e0] := by match ds, hds with | [e0], _ => exact ⟨e0, rfl⟩
  exact ⟨_, rfl, post_of_below (pa := p) (pv := []) hW' (fun _ _ _ => (trodAll_cons_mk (shut_bool Try.underlying4 _) trodAll_mk0)) hst (fun _ _ => rfl) rfl hb (ok_one (by kernel_rfl) rfl (okWide_bool_mk Try.underlying4 _))⟩
theorem over_fnLoweredGate : Rows.fnLoweredGateRow.holds Try.pinned (OpenSpec.ofChange Rows.fnLoweredGateSpec) :=
  OpenClaim.holds_of_wide 6 Try.f6 rfl rfl rfl rfl rfl rfl rfl ⟨rfl, rfl, rfl, rfl, rfl⟩ rfl rfl rfl rfl rfl (by kernel_rfl) Try.func6 (by kernel_rfl)
    (of_decide_eq_true (by kernel_rfl)) (by unfold Func.isWrapper; first | (rw [if_pos (by decide +kernel)]; kernel_rfl) | (rw [if_neg (by decide +kernel)]; exact ⟨rfl, rfl⟩))
    (fun os started H enc _ => lifted_fnLoweredGate os started H enc)
/-- The statement. -/
theorem fnLoweredGate_holds : Rows.FnLoweredGateSaid := over_fnLoweredGate
end Go.Proofs.Ytbffpehajkgjeaa
