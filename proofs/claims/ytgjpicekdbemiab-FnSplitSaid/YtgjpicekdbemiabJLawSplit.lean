/- Measuring a qubit twice gives the same result: for every code. -/
import Derived.Test.YtgjpicekdbemiabJSplit1
import Derived.Test.YtgjpicekdbemiabJSplit8
namespace Go.Proofs.Ytgjpicekdbemiab
open Go.ChangeShapes Go.WideShapes Go.ChangeAt Go.RowKit
set_option linter.unusedVariables false
set_option maxRecDepth 100000 in
theorem bigS_any (A : Option Addr) (n c : Nat) (w : World) (hn : n ≤ 9223372036854775807) : Calls Try.prog 4 #[.slice A n c] w fun e w' => e = .returned (.bool (decide (1048576 < n))) ∧ w = w' := by
  by_cases h : 1048576 < n
  · have hd : decide (1048576 < (n : Int)) = true := by simp; omega
    go_enter Try.func4, Try.ntmps4
    go_wp2_with fail
    go_ret
    exact ⟨by simp [h], rfl⟩
  · have hd : decide (1048576 < (n : Int)) = false := by simp; omega
    go_enter Try.func4, Try.ntmps4
    go_wp2_with fail
    go_ret
    exact ⟨by simp [h], rfl⟩
theorem eqBrs_refl (L : List Br) : eqBy eqBr L L = true := eqBy_refl (fun x _ => by
  obtain ⟨b, M⟩ := x
  exact eqBr_t (eqB_refl M))
set_option maxRecDepth 100000 in
set_option maxHeartbeats 8000000 in
theorem law_Split (A : Option Addr) (n c : Nat) (bs : List (Fin 256)) (w0 : World) (h : Rd w0 1 A n (bs.flatMap bcell)) (hl : bs.length = n) (hnc : n ≤ c) (hc : c ≤ maxLen) :
    Calls Try.prog 3 #[.slice A n c] w0 fun e w' => e = .returned (.bool true) ∧ Below w0.heap.size w0 w' := by
  have hn0 : n ≤ 9223372036854775807 := by simp only [maxLen] at hc; omega
  have H := Lib.hid h
  have HL := Lib.hid hl
  clear h hl
  by_cases hbig : 1048576 < n
  · have hB : decide (1048576 < n) = true := by simpa using hbig
    go_enter Try.func3, Try.ntmps3
    go_wp2_with (go_at_call 4; refine (bigS_any _ _ _ _ hn0).mono ?_; rintro e w' ⟨rfl, rfl⟩)
    go_ret
    exact ⟨rfl, Below.refl _ _⟩
  have hB : decide (1048576 < n) = false := by simpa using hbig
  go_enter Try.func3, Try.ntmps3
  go_wp2_with (go_at_call 4; refine (bigS_any _ _ _ _ hn0).mono ?_; rintro e w' ⟨rfl, rfl⟩)
  clear hB
  refine (DrawMeasureBranch_any _ _ _ bs w0 H.out HL.out (by omega)).mono ?_
  rintro e w1 ⟨b, Ab, nb, cb, M, q, bit, rfl, hrm, hsh, b1, s1⟩
  have HSH := Lib.hid hsh
  have hnb := hrm.len
  go_wp2_with fail
  obtain ⟨w2, hw2⟩ : ∃ w2, w2 = w1.alloc (.cells #[.int .i64 b, .slice Ab nb cb] 26) := ⟨_, rfl⟩
  rw [← hw2]
  have b2 : Below w1.heap.size w1 w2 := by rw [hw2]; exact (by repeat (first | exact Below.refl _ _ | assumption | (refine Below.trans ?_ (Below.mono (by assumption) (by first | omega | (simp; done) | (simp; omega)))) | (with_reducible refine Below.drew ?_) | (with_reducible refine Below.alloc ?_ (by first | omega | (simp; done) | (simp; omega)) _) | (with_reducible refine Below.setCell ?_ (by first | omega | (simp; done) | (simp; omega)) _)))
  have X2 := Lib.hid (show w2.heap[w1.heap.size]? = some (.cells #[.int .i64 b, .slice Ab nb cb] 26 (0, 0)) by rw [hw2]; exact heap_alloc_new _ _)
  have HM2 := Lib.hid (hrm.below b2)
  have B2 := Lib.hid (b1.trans (b2.mono b1.size))
  have hXl := lt_of_block X2.out
  clear hw2 hsh hrm b1 b2
  refine (MeasureBranch_impl b Ab nb cb M q bit w2 HM2.out (by have := HSH.out.1; omega) (by have := shp_sz HSH.out; omega)).mono ?_
  have HAG := Lib.hid (fun x (hx : x ∈ measL b M q bit) => meas_again hx)
  have HLS := Lib.hid (fun x (hx : x ∈ measL b M q bit) => measL_shp HSH.out x hx)
  have HLE := Lib.hid (measL_sz b M q bit)
  have HSP := Lib.hid (fun (W : World) (hW : RdM W Ab nb M) => MeasureBranch_spec b Ab nb cb M q bit W hW (by have := HSH.out.1; omega) (by have := shp_sz HSH.out; omega))
  have HMS := Lib.hid (shp_sz HSH.out)
  obtain ⟨L, hL⟩ : ∃ L, L = measL b M q bit := ⟨_, rfl⟩
  rw [← hL] at HAG HLS HLE HSP ⊢
  clear hL
  rintro e w3 ⟨v3, F3, rfl, ho3, b3, s3⟩
  obtain ⟨A3, c3, rfl, hc3, hcm3, r3⟩ := ho3.rd
  have hx3 := (b3.block _ hXl).trans X2.out
  have k0 := cell_at (j := 0) hx3 rfl
  have k1 := cell_at (j := 1) hx3 rfl
  have R3 := Lib.hid r3
  have B3 := Lib.hid (B2.out.trans (b3.mono B2.out.size))
  have HM3 := Lib.hid (HM2.out.below b3)
  clear ho3 r3 hx3 b3
  go_wp2_with fail
  refine (HSP.out w3 HM3.out).mono ?_
  rintro e w4 ⟨v4, F4, rfl, ho4, b4, s4⟩
  obtain ⟨A4, c4, rfl, hc4, hcm4, r4⟩ := ho4.rd
  have R34 := Lib.hid (R3.out.below b4)
  have R4 := Lib.hid r4
  have B4 := Lib.hid (B3.out.trans (b4.mono B3.out.size))
  have hlen := HLE.out.2
  have HEB := Lib.hid (EqualBranches_spec A3 A4 L.length L.length c3 c4 L L w4 (by omega) (by have := HLE.out.1; have := HMS.out; have := HSH.out.1; omega) R34.out R4.out)
  rw [eqBrs_refl] at HEB
  clear ho4 r4 b4 k0 k1
  go_wp2_with fail
  refine HEB.out.mono ?_
  rintro e w5 ⟨rfl, k5, rfl⟩
  clear HEB
  have B5 := Lib.hid (show Below w0.heap.size w0 (w4.drewN k5) from below_drewN B4.out k5)
  have R5 := Lib.hid (R34.out.drewN k5)
  obtain ⟨w5, hw5⟩ : ∃ w5, w5 = w4.drewN k5 := ⟨_, rfl⟩
  rw [← hw5] at B5 R5 ⊢
  clear hw5
  go_wp2_with fail
  go_loopw [7] (fun i wr => ∃ t : Nat, i = .int .i64 t ∧ t ≤ L.length ∧ Below w5.heap.size w5 wr) (fun i _ => L.length - (intOf i).toNat)
  case atStart => exact ⟨0, rfl, Nat.zero_le _, Below.refl _ _⟩
  case round =>
    obtain ⟨t, rfl, ht, hb⟩ := hrel
    by_cases hlt : t < L.length
    · obtain ⟨x, hx⟩ : ∃ x, L[t]? = some x := ⟨_, List.getElem?_eq_getElem hlt⟩
      obtain ⟨y, hy, hyM⟩ := HAG.out x (List.mem_of_getElem? hx)
      have hxs := HLS.out x (List.mem_of_getElem? hx)
      obtain ⟨bb, off, ax, cx, rfl, hbl, kl0, kl1, hxc, hxm, hrm⟩ := (R5.out.below hb).at hx
      obtain ⟨xb, xM⟩ := x
      obtain ⟨yb, yM⟩ := y
      dsimp only at hy hyM hxs kl0 kl1 hxc hrm
      subst hyM
      have hszm := shp_sz hxs
      have hxl := hxs.1
      have HA : Hid (Calls Try.prog 6 #[.agg #[.int .i64 xb, .slice ax yM.length cx], .int .i64 q, .int .i64 bit] wr (RetB wr 1 [⟨yb, yM⟩])) := by
        have h5 := MeasureBranch_impl xb ax yM.length cx yM q bit wr hrm (by omega) (by omega)
        rw [hy] at h5
        exact h5
      have HRX := Lib.hid hrm
      clear hx hy hrm hxs
      go_wp2_with fail
      refine HA.out.mono ?_
      rintro e w6 ⟨v6, F6, rfl, ho6, b6, s6⟩
      obtain ⟨A6, c6, rfl, hc6, hcm6, r6⟩ := ho6.rd
      obtain ⟨b7, o7, a7, c7, rfl, hbl7, kz0, kz1, _, _, hr7⟩ := r6.at (j := 0) (x := ⟨yb, yM⟩) rfl
      dsimp only at kz0 kz1 hr7
      simp only [Nat.zero_mul, Nat.add_zero] at kz0 kz1
      have kl1' : w6.cell? ⟨bb, off + t * 2 + 1, none⟩ = some (.slice ax yM.length cx) := (b6.cell (p := ⟨bb, off + t * 2 + 1, none⟩) hbl).trans kl1
      have CT : Hid (∀ j, Calls Try.prog 9 #[.slice a7 yM.length c7, .slice ax yM.length cx] (w6.drewN j) fun e w' => e = .returned (.bool true) ∧ ∃ q, w' = (w6.drewN j).drewN q) := fun j => by
        have h5 := EqualMatrix_spec a7 ax yM.length yM.length c7 cx yM yM (w6.drewN j) (by omega) (by omega) (hr7.drewN j) ((HRX.out.below b6).drewN j)
        rw [eqB_refl] at h5
        exact h5
      have HB6 := Lib.hid (hb.trans (b6.mono hb.size))
      clear ho6 r6 kl0 kl1 kz0 hr7 b6 HA hb
      go_wp2_with fail
      go_quiet (first | (go_at_call 9; first | exact quiet_any (CT.out _) | exact quiet_anyAdd (CT.out _)))
      go_wp2_with fail
      go_roundw
      case rel => exact ⟨t + 1, by go_num, by omega, below_drewN HB6.out _⟩
      case measure => simp [intOf]; omega
    · obtain rfl : t = L.length := by omega
      have h2 : decide ((L.length : Int) ≤ 2) = true := by simp; omega
      go_wp2_with fail
      go_ret
      exact ⟨rfl, B5.out.trans (hb.mono B5.out.size)⟩
set_option maxRecDepth 100000 in
theorem lifted_fnSplit (os : Os) (started : os.Started) (H : Type) (enc : TypeId × Value → H) :
    ReturnsInHanded {} Try.checked os 3 .any (Rows.fnSplitSpec.pre6 enc Try.prog Try.f3 Rows.fnSplitRow.domain false) (Rows.fnSplitSpec.post enc Try.prog Try.f3 false true false false) := by
  refine returnsInHanded_of_change (C := Try.checked) own started (by kernel_rfl) Try.func3
    (ChangeSpec.witness6 (enc := enc) (C := Try.checked) false ⟨#[], #[.slice none 0 0], []⟩ 8 (by kernel_rfl) (by kernel_rfl) (by kernel_rfl) (by kernel_rfl)) ?_
  intro W base args ds gs before hval0 hW hcnd _
  have hval : ∀ (j : Nat) t v, Try.f3.params[j]? = some t → args[j]? = some v → Value.okWide Try.prog W .any base t v := hval0
  have hW' := hW
  obtain ⟨p, q, hA0, hV, rfl, hfz, hnd⟩ := hW
  have hA : DataW.TrodAll enc Try.prog W 0 (fun _ => true) true Try.f3.params.toList args.toList ds p := hA0
  obtain ⟨rfl, rfl⟩ := trodVars_none hV
  have hlt : ∀ x ∈ p, x.block < W.heap.size := fun x hx => hW'.lt x (by simp [hx])
  have key : Calls Try.prog 3 args W fun e W' => e = .returned (.bool true) ∧ Below W.heap.size W W' := by
    rw [Try.params3] at hA hval
    obtain ⟨v0, vs0, d0, ds0, p0, q0, hargs, rfl, rfl, h0, r0⟩ := trodAll_cons hA
    obtain ⟨rfl, rfl, rfl⟩ := trodAll_nil r0
    obtain rfl : args = #[v0] := by cases args; simp_all
    clear hA0 hval0 hW' hA
    obtain ⟨fuel0, hf0⟩ := h0
    obtain ⟨A, n, c, l, hv0, hnc, hcm, hl, hrd⟩ := rd_of_slice (cellsf := bcell) Try.underlying22 cells_byte (by decide) trod_byte bcell_len (slice_one (hval 0 22 v0 rfl rfl) Try.underlying22 hf0)
    subst hv0
    exact law_Split A n c l W hrd hl hnc hcm
  refine key.mono fun e W' ⟨he, hb⟩ => ?_
  subst he
  have hrd : (Try.f3.params.toList.all fun t => Try.prog.readableRec t && decide (t < Try.prog.types.size)) = true := by kernel_rfl
  have hst : ∀ sp : Nat → Bool, (∀ x ∈ p ++ [], sp x.block = true) → DataW.TrodAll enc Try.prog W' 0 sp true Try.f3.params.toList args.toList ds p := fun sp hsp => trodAll_stays (sp := sp) (W' := W') laidOut (fun t ht => by simpa using List.all_eq_true.1 hrd t ht) hA (fun x hx => hb.same (hlt x hx)) (fun x hx => hsp x (by simp [hx]))
  have hds : ds.length = 1 := by
    rw [Try.params3] at hA
    obtain ⟨v0, vs0, d0, ds0, p0, q0, _, rfl, rfl, h0, r0⟩ := trodAll_cons hA
    obtain ⟨_, rfl, _⟩ := trodAll_nil r0
    rfl
  clear hA hA0 hval hval0
  obtain ⟨e0, rfl⟩ : ∃ e0, ds = [e0] := by match ds, hds with | [e0], _ => exact ⟨e0, rfl⟩
  exact ⟨_, rfl, post_of_below (pa := p) (pv := []) hW' (fun _ _ _ => (trodAll_cons_mk (shut_bool Try.underlying4 _) trodAll_mk0)) hst (fun _ _ => rfl) rfl hb (ok_one (by kernel_rfl) rfl (okWide_bool_mk Try.underlying4 _))⟩
theorem over_fnSplit : Rows.fnSplitRow.holds Try.pinned (OpenSpec.ofChange Rows.fnSplitSpec) :=
  OpenClaim.holds_of_wide 3 Try.f3 rfl rfl rfl rfl rfl rfl rfl ⟨rfl, rfl, rfl, rfl, rfl⟩ rfl rfl rfl rfl rfl (by kernel_rfl) Try.func3 (by kernel_rfl)
    (of_decide_eq_true (by kernel_rfl)) (by unfold Func.isWrapper; first | (rw [if_pos (by decide +kernel)]; kernel_rfl) | (rw [if_neg (by decide +kernel)]; exact ⟨rfl, rfl⟩))
    (fun os started H enc _ => lifted_fnSplit os started H enc)
/-- The statement. -/
theorem fnSplit_holds : Rows.FnSplitSaid := over_fnSplit
end Go.Proofs.Ytgjpicekdbemiab
