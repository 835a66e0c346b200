/- Permuting a branch by a permutation and its inverse is the identity: for every code. -/
import Derived.Test.YtgjpicekdbemiacJMoved1
import Derived.Test.YtgjpicekdbemiacJMoved8
import Derived.Test.YtgjpicekdbemiacJMoved9
namespace Go.Proofs.Ytgjpicekdbemiac
open Go.ChangeShapes Go.WideShapes Go.ChangeAt Go.RowKit
set_option linter.unusedVariables false
theorem own_set2 {w : World} {base n r : Nat} {v v0 v1 : Value} {M : List (List Dm)} {F : List Nat} (h : OwnM w base v n M F) (hF : ∀ k ∈ F, k ≠ r) : OwnM ((w.setCell ⟨r, 0, none⟩ v0).setCell ⟨r, 1, none⟩ v1) base v n M F :=
  (h.kin (kin_setCell w r 0 v0) (fun k hk hm => hF k hk (by simpa using hm))).kin (kin_setCell _ r 1 v1) (fun k hk hm => hF k hk (by simpa using hm))
theorem permM_shp {p : List Int} {M : List (List Dm)} (h : Shp M) : Shp (permM p M) := by
  unfold permM
  split
  · refine shp_of_map ?_ h
    simp [permR_len, Function.comp_def]
  · exact h
set_option maxRecDepth 100000 in
theorem bigM_any (A : Option Addr) (n c : Nat) (w : World) (hn : n ≤ 9223372036854775807) : Calls Try.prog 4 #[.slice A n c] w fun e w' => e = .returned (.bool (decide (1048576 < n))) ∧ w = w' := by
  by_cases h : 1048576 < n
  · have hd : decide (1048576 < (n : Int)) = true := by simp; omega
    go_enter Try.func4, Try.ntmps4
    go_wp2_with fail
    go_ret
    exact ⟨by simp [h], rfl⟩
  · have hd : decide (1048576 < (n : Int)) = false := by simp; omega
    go_enter Try.func4, Try.ntmps4
    go_wp2_with fail
    go_ret
    exact ⟨by simp [h], rfl⟩
set_option maxRecDepth 100000 in
set_option maxHeartbeats 16000000 in
theorem law_Moved (A : Option Addr) (n c : Nat) (bs : List (Fin 256)) (w0 : World) (h : Rd w0 1 A n (bs.flatMap bcell)) (hl : bs.length = n) (hnc : n ≤ c) (hc : c ≤ maxLen) :
    Calls Try.prog 3 #[.slice A n c] w0 fun e w' => e = .returned (.bool true) ∧ Below w0.heap.size w0 w' := by
  have hn0 : n ≤ 9223372036854775807 := by simp only [maxLen] at hc; omega
  have H := Lib.hid h
  have HL := Lib.hid hl
  clear h hl
  by_cases hbig : 1048576 < n
  · have hB : decide (1048576 < n) = true := by simpa using hbig
    go_enter Try.func3, Try.ntmps3
    go_wp2_with (go_at_call 4; refine (bigM_any _ _ _ _ hn0).mono ?_; rintro e w' ⟨rfl, rfl⟩)
    go_ret
    exact ⟨rfl, Below.refl _ _⟩
  have hB : decide (1048576 < n) = false := by simpa using hbig
  go_enter Try.func3, Try.ntmps3
  go_wp2_with (go_at_call 4; refine (bigM_any _ _ _ _ hn0).mono ?_; rintro e w' ⟨rfl, rfl⟩)
  clear hB
  refine (DrawPermuteBranch_any _ _ _ bs w0 H.out HL.out (by omega)).mono ?_
  rintro e w1 ⟨b, Ab, nb, cb, M, Ap, m, cp, p, rfl, hrm, hsh, hrp, hpl, hcp, hm5, b1, s1⟩
  have HSH := Lib.hid hsh
  have HMS := Lib.hid (shp_sz hsh)
  have hnb := hrm.len
  have hnb16 : nb ≤ 16 := by have := hsh.1; omega
  go_wp2_with fail
  obtain ⟨w2, hw2⟩ : ∃ w2, w2 = w1.alloc (.cells #[.int .i64 b, .slice Ab nb cb] 26) := ⟨_, rfl⟩
  rw [← hw2]
  have b2 : Below w1.heap.size w1 w2 := by rw [hw2]; exact (by repeat (first | exact Below.refl _ _ | assumption | (refine Below.trans ?_ (Below.mono (by assumption) (by first | omega | (simp; done) | (simp; omega)))) | (with_reducible refine Below.drew ?_) | (with_reducible refine Below.alloc ?_ (by first | omega | (simp; done) | (simp; omega)) _) | (with_reducible refine Below.setCell ?_ (by first | omega | (simp; done) | (simp; omega)) _)))
  have X2 := Lib.hid (show w2.heap[w1.heap.size]? = some (.cells #[.int .i64 b, .slice Ab nb cb] 26 (0, 0)) by rw [hw2]; exact heap_alloc_new _ _)
  have HM2 := Lib.hid (hrm.below b2)
  have HP2 := Lib.hid (hrp.below b2)
  have HPL := Lib.hid hpl
  have B2 := Lib.hid (b1.trans (b2.mono b1.size))
  have hXl := lt_of_block X2.out
  clear hw2 hsh hrm b1 b2 hrp hpl
  -- the program's
  refine (PermuteBranch_impl b Ab nb cb M Ap m cp p w2 HM2.out HP2.out HPL.out (by omega) (by have := HMS.out; omega) (by omega)).mono ?_
  rintro e w3 ⟨A3, c3, F3, rfl, ho3, b3, s3⟩
  have R3 := Lib.hid ho3.rd'
  have hx3 := (b3.block _ hXl).trans X2.out
  have B3 := Lib.hid (B2.out.trans (b3.mono B2.out.size))
  have B23 := Lib.hid b3
  have k0 := cell_at (j := 0) hx3 rfl
  have k1 := cell_at (j := 1) hx3 rfl
  have l3 : w1.heap.size < w3.heap.size := lt_of_block hx3
  have HX3 := Lib.hid hx3
  clear ho3 b3 hx3
  go_wp2_with fail
  obtain ⟨w4, hw4⟩ : ∃ w4, w4 = w3.alloc (.cells #[.int .i64 b, .slice A3 nb c3] 26) := ⟨_, rfl⟩
  rw [← hw4]
  have b4 : Below w3.heap.size w3 w4 := by rw [hw4]; exact (by repeat (first | exact Below.refl _ _ | assumption | (refine Below.trans ?_ (Below.mono (by assumption) (by first | omega | (simp; done) | (simp; omega)))) | (with_reducible refine Below.drew ?_) | (with_reducible refine Below.alloc ?_ (by first | omega | (simp; done) | (simp; omega)) _) | (with_reducible refine Below.setCell ?_ (by first | omega | (simp; done) | (simp; omega)) _)))
  have Y4 := Lib.hid (show w4.heap[w3.heap.size]? = some (.cells #[.int .i64 b, .slice A3 nb c3] 26 (0, 0)) by rw [hw4]; exact heap_alloc_new _ _)
  have X4 := Lib.hid ((b4.block _ l3).trans HX3.out)
  have B4 := Lib.hid (B3.out.trans (b4.mono B3.out.size))
  have HM4 := Lib.hid (HM2.out.below (B23.out.trans (b4.mono B23.out.size)))
  have HP4 := Lib.hid (HP2.out.below (B23.out.trans (b4.mono B23.out.size)))
  have R4 := Lib.hid (R3.out.below b4)
  have l4 : w3.heap.size < w4.heap.size := lt_of_block Y4.out
  clear hw4 b4 k0 k1
  refine (PermuteBranch_spec b Ab nb cb M Ap m cp p w4 HM4.out HP4.out HPL.out hcp (by omega) (by have := HMS.out; omega) (by omega)).mono ?_
  rintro e w5 ⟨A5, c5, F5, rfl, ho5, b5, s5⟩
  have hy5 := (b5.block _ l4).trans Y4.out
  have hx5 := (b5.block _ (by omega)).trans X4.out
  have y0 := cell_at (j := 0) hy5 rfl
  have y1 := cell_at (j := 1) hy5 rfl
  have l5 : w3.heap.size < w5.heap.size := lt_of_block hy5
  have R5 := Lib.hid ho5.rd'
  have R45 := Lib.hid (R4.out.below b5)
  have B5 := Lib.hid (B4.out.trans (b5.mono B4.out.size))
  have HP5 := Lib.hid (HP4.out.below b5)
  have HM5 := Lib.hid (HM4.out.below b5)
  have HY5 := Lib.hid hy5
  have HX5 := Lib.hid hx5
  clear ho5 b5 hy5 hx5
  -- the two are compared
  obtain ⟨w6a, hw6⟩ : ∃ w6, w6 = w5.alloc (.cells #[.int .i64 b, .slice A5 nb c5] 26) := ⟨_, rfl⟩
  have b6 : Below w5.heap.size w5 w6a := by rw [hw6]; exact (by repeat (first | exact Below.refl _ _ | assumption | (refine Below.trans ?_ (Below.mono (by assumption) (by first | omega | (simp; done) | (simp; omega)))) | (with_reducible refine Below.drew ?_) | (with_reducible refine Below.alloc ?_ (by first | omega | (simp; done) | (simp; omega)) _) | (with_reducible refine Below.setCell ?_ (by first | omega | (simp; done) | (simp; omega)) _)))
  have hshp := permM_shp (p := p) HSH.out
  have HEM := Lib.hid (EqualMatrix_spec A3 A5 nb nb c3 c5 (permM p M) (permM p M) w6a (by omega) (by have := shp_sz hshp; omega) (R45.out.below b6) (R5.out.below b6))
  rw [eqB_refl] at HEM
  have b56 := Lib.hid b6
  clear hshp b6
  go_wp2_with fail
  rw [← hw6]
  refine HEM.out.mono ?_
  rintro e w6 ⟨rfl, hq6⟩
  have q6 := (below_quiet hq6).1
  have b6 : Below w5.heap.size w5 w6 := b56.out.trans (q6.mono b56.out.size)
  have HY6 := Lib.hid ((b6.block _ l5).trans HY5.out)
  have HX6 := Lib.hid ((b6.block _ (by omega)).trans HX5.out)
  have B6 := Lib.hid (B5.out.trans (b6.mono B5.out.size))
  have R6 := Lib.hid (R45.out.below b6)
  have HM6 := Lib.hid (HM5.out.below b6)
  have HP6 := Lib.hid (HP5.out.below b6)
  have l6 : w3.heap.size < w6.heap.size := lt_of_block HY6.out
  clear hw6 hq6 q6 b6 HEM y0 y1
  -- there and back
  have z0 := cell_at (j := 0) HY6.out rfl
  have z1 := cell_at (j := 1) HY6.out rfl
  have HI : Hid (∀ W : World, Below w6.heap.size w6 W → Calls Try.prog 9 #[.slice Ap m cp] W (RetRow 3 1 W (invP p).length ((invP p).map (Value.int .i64)))) := fun W hW => InversePermutation_impl Ap m cp p W (HP6.out.below hW) HPL.out (by omega)
  have hil : (invP p).length ≤ m := by
    unfold invP
    split
    · rw [invTo_len, HPL.out]; exact Nat.le_refl _
    · exact Nat.zero_le _
  have HPM : Hid (∀ (W : World) (A7 : Option Addr) (c7 : Nat), Below w6.heap.size w6 W → Rd W 1 A7 (invP p).length ((invP p).map (Value.int .i64)) → Calls Try.prog 6 #[.agg #[.int .i64 b, .slice A3 nb c3], .slice A7 (invP p).length c7] W (RetBr W b nb M)) := fun W A7 c7 hW hr => by
    have h5 := PermuteBranch_impl b A3 nb c3 (permM p M) A7 (invP p).length c7 (invP p) W (R6.out.below hW) hr rfl (by omega) (by have := shp_sz (permM_shp (p := p) HSH.out); omega) (by omega)
    rw [perm_inv] at h5
    exact h5
  have KX : Hid (∀ W : World, Below w6.heap.size w6 W → (W.cell? ⟨w3.heap.size, 0, none⟩ = some (.int .i64 b) ∧ W.cell? ⟨w3.heap.size, 1, none⟩ = some (.slice A3 nb c3))) := fun W hW => ⟨(hW.cell (p := ⟨w3.heap.size, 0, none⟩) l6).trans z0, (hW.cell (p := ⟨w3.heap.size, 1, none⟩) l6).trans z1⟩
  have KD := Lib.hid (show Below w6.heap.size w6 w6.drew from (Below.refl _ _).drew)
  have KB := Lib.hid (fun ob : Obj => (show Below w6.heap.size w6 (w6.alloc ob).drew from ((Below.refl _ _).alloc (Nat.le_refl _) _).drew))
  clear hil
  go_upto_region 8 with (fail)
  go_cut [7] (fun v wc => ∃ (P : Nat) (A8 : Option Addr) (c8 : Nat), v = .pointer (some ⟨P, 0, none⟩) ∧ wc.heap[P]? = some (.cells #[.int .i64 b, .slice A8 nb c8] 26 (0, 0)) ∧ RdM wc A8 nb M ∧ Below w6.heap.size w6 wc)
  case first =>
    go_region_held3 (fun W => W.cell? ⟨w3.heap.size, 0, none⟩ = some (.int .i64 b) ∧ W.cell? ⟨w3.heap.size, 1, none⟩ = some (.slice A3 nb c3)) ((refine KX.out _ ?_; first | with_reducible exact KD.out | with_reducible exact KB.out _ | with_reducible exact c8b | with_reducible exact c7b | with_reducible exact c7b.alloc c7b.size _ | with_reducible exact c8b.alloc c8b.size _ | with_reducible exact (c8b.setCell (Nat.le_refl _) _).setCell (Nat.le_refl _) _ | with_reducible exact (c8b.setCell (Nat.le_refl _) _).setCell (Nat.le_refl _) _ | with_reducible exact (c8b.setCell c7b.size _).setCell c7b.size _)) (first | (go_at_call 9; (with_reducible refine (HI.out _ ?_).mono ?_); (first | exact KD.out | exact KB.out _); rintro e w7 ⟨v7, rfl, ho7, hb7, hs7⟩; obtain ⟨A7, c7, rfl, _, _, hr7⟩ := rd_of_own ho7; first | (have c7b : Below w6.heap.size w6 w7 := below_undrewS hb7) | (have c7b : Below w6.heap.size w6 w7 := ((Below.refl _ _).alloc (Nat.le_refl _) _).drew.trans (hb7.mono (by simp)); have hbx7 : w7.heap[w6.heap.size]? = some (.cells #[.int .i64 0, .slice none 0 0] 26 (0, 0)) := (hb7.block _ (by simp)).trans (heap_alloc_new w6 _); have bk0 := cell_at (j := 0) hbx7 rfl; have bk1 := cell_at (j := 1) hbx7 rfl; have bf0 := free_b (j := 0) hbx7; have bf1 := free_b (j := 1) hbx7; have bl := lt_of_block hbx7)) | (go_at_call 6; (with_reducible refine (HPM.out _ _ _ ?_ ?_).mono ?_); (first | exact c7b | exact c7b.alloc c7b.size _); (first | exact hr7 | exact hr7.below ((Below.refl _ _).alloc (Nat.le_refl _) _)); rintro e w8 ⟨A8, c8, F8, rfl, ho8, hb8, hs8⟩; first | (have hbx8 : w8.heap[w6.heap.size]? = some (.cells #[.int .i64 0, .slice none 0 0] 26 (0, 0)) := (hb8.block _ (lt_of_block hbx7)).trans hbx7; have c8b : Below w6.heap.size w6 w8 := c7b.trans (hb8.mono c7b.size); have hF8 : ∀ k ∈ F8, k ≠ w6.heap.size := fun k hk e => absurd (ho8.lt k hk).1 (Nat.not_le.2 (e.symm ▸ lt_of_block hbx7)); have bk0 := cell_at (j := 0) hbx8 rfl; have bk1 := cell_at (j := 1) hbx8 rfl; have bf0 := free_b (j := 0) hbx8; have bf1 := free_b (j := 1) hbx8; have bl := lt_of_block hbx8) | (have c8b : Below w6.heap.size w6 w8 := c7b.trans (hb8.mono c7b.size)) | (have hbx9 : w8.heap[w7.heap.size]? = some (.cells #[.int .i64 0, .slice none 0 0] 26 (0, 0)) := (hb8.block _ (by simp)).trans (heap_alloc_new w7 _); have c8b : Below w6.heap.size w6 w8 := (c7b.alloc c7b.size _).trans (hb8.mono (Nat.le_trans c7b.size (by simp))); have hF9 : ∀ k ∈ F8, k ≠ w7.heap.size := fun k hk e => absurd (ho8.lt k hk).1 (by (rw [e]; simp)); have bk0 := cell_at (j := 0) hbx9 rfl; have bk1 := cell_at (j := 1) hbx9 rfl; have bf0 := free_b (j := 0) hbx9; have bf1 := free_b (j := 1) hbx9; have bl := lt_of_block hbx9)))
    all_goals (go_wp2_with (fail); go_meet; first | (refine ⟨w8.heap.size, A8, c8, (by with_reducible rfl), ?_, (ho8.below ((Below.refl _ _).alloc (Nat.le_refl _) _)).rd', c8b.alloc c8b.size _⟩; (with_reducible exact heap_alloc_new _ _)) | (refine ⟨w6.heap.size, A8, c8, (by with_reducible rfl), ?_, (own_set2 ho8 hF8).rd', (c8b.setCell (Nat.le_refl _) _).setCell (Nat.le_refl _) _⟩; (with_reducible exact set2 _ _ hbx8)) | (refine ⟨w7.heap.size, A8, c8, (by with_reducible rfl), ?_, (own_set2 ho8 hF9).rd', (c8b.setCell c7b.size _).setCell c7b.size _⟩; (with_reducible exact set2 _ _ hbx9)))
  case rest =>
    obtain ⟨P, A8, c8, rfl, hP, hr8, b8⟩ := hcut
    obtain ⟨w8, rfl⟩ : ∃ w8 : World, w8 = wc := ⟨_, rfl⟩
    have p0 := cell_at (j := 0) hP rfl
    have p1 := cell_at (j := 1) hP rfl
    have hx8 := (b8.block _ (by omega)).trans HX6.out
    have x0 := cell_at (j := 0) hx8 rfl
    have x1 := cell_at (j := 1) hx8 rfl
    have HE8 := Lib.hid (EqualMatrix_spec A8 Ab nb nb c8 cb M M w8 (by omega) (by have := HMS.out; omega) hr8 (HM6.out.below b8))
    rw [eqB_refl] at HE8
    have B8 := Lib.hid (B6.out.trans (b8.mono B6.out.size))
    clear hP hr8 b8 hx8
    go_wp2_with fail
    refine HE8.out.mono ?_
    rintro e w9 ⟨rfl, hq9⟩
    have q9 := (below_quiet hq9).1
    have HF := Lib.hid (B8.out.trans (q9.mono B8.out.size))
    clear hq9 q9
    go_wp2_with fail
    go_ret
    exact ⟨rfl, HF.out⟩
set_option maxRecDepth 100000 in
theorem lifted_fnMovedBranch (os : Os) (started : os.Started) (H : Type) (enc : TypeId × Value → H) :
    ReturnsInHanded {} Try.checked os 3 .any (Rows.fnMovedBranchSpec.pre6 enc Try.prog Try.f3 Rows.fnMovedBranchRow.domain false) (Rows.fnMovedBranchSpec.post enc Try.prog Try.f3 false true false false) := by
  refine returnsInHanded_of_change (C := Try.checked) own started (by kernel_rfl) Try.func3
    (ChangeSpec.witness6 (enc := enc) (C := Try.checked) false ⟨#[], #[.slice none 0 0], []⟩ 8 (by kernel_rfl) (by kernel_rfl) (by kernel_rfl) (by kernel_rfl)) ?_
  intro W base args ds gs before hval0 hW hcnd _
  have hval : ∀ (j : Nat) t v, Try.f3.params[j]? = some t → args[j]? = some v → Value.okWide Try.prog W .any base t v := hval0
  have hW' := hW
  obtain ⟨p, q, hA0, hV, rfl, hfz, hnd⟩ := hW
  have hA : DataW.TrodAll enc Try.prog W 0 (fun _ => true) true Try.f3.params.toList args.toList ds p := hA0
  obtain ⟨rfl, rfl⟩ := trodVars_none hV
  have hlt : ∀ x ∈ p, x.block < W.heap.size := fun x hx => hW'.lt x (by simp [hx])
  have key : Calls Try.prog 3 args W fun e W' => e = .returned (.bool true) ∧ Below W.heap.size W W' := by
    rw [Try.params3] at hA hval
    obtain ⟨v0, vs0, d0, ds0, p0, q0, hargs, rfl, rfl, h0, r0⟩ := trodAll_cons hA
    obtain ⟨rfl, rfl, rfl⟩ := trodAll_nil r0
    obtain rfl : args = #[v0] := by cases args; simp_all
    clear hA0 hval0 hW' hA
    obtain ⟨fuel0, hf0⟩ := h0
    obtain ⟨A, n, c, l, hv0, hnc, hcm, hl, hrd⟩ := rd_of_slice (cellsf := bcell) Try.underlying22 cells_byte (by decide) trod_byte bcell_len (slice_one (hval 0 22 v0 rfl rfl) Try.underlying22 hf0)
    subst hv0
    exact law_Moved A n c l W hrd hl hnc hcm
  refine key.mono fun e W' ⟨he, hb⟩ => ?_
  subst he
  have hrd : (Try.f3.params.toList.all fun t => Try.prog.readableRec t && decide (t < Try.prog.types.size)) = true := by kernel_rfl
  have hst : ∀ sp : Nat → Bool, (∀ x ∈ p ++ [], sp x.block = true) → DataW.TrodAll enc Try.prog W' 0 sp true Try.f3.params.toList args.toList ds p := fun sp hsp => trodAll_stays (sp := sp) (W' := W') laidOut (fun t ht => by simpa using List.all_eq_true.1 hrd t ht) hA (fun x hx => hb.same (hlt x hx)) (fun x hx => hsp x (by simp [hx]))
  have hds : ds.length = 1 := by
    rw [Try.params3] at hA
    obtain ⟨v0, vs0, d0, ds0, p0, q0, _, rfl, rfl, h0, r0⟩ := trodAll_cons hA
    obtain ⟨_, rfl, _⟩ := trodAll_nil r0
    rfl
  clear hA hA0 hval hval0
  obtain ⟨e0, rfl⟩ : ∃ e0, ds = [e0] := by match ds, hds with | [e0], _ => exact ⟨e0, rfl⟩
  exact ⟨_, rfl, post_of_below (pa := p) (pv := []) hW' (fun _ _ _ => (trodAll_cons_mk (shut_bool Try.underlying4 _) trodAll_mk0)) hst (fun _ _ => rfl) rfl hb (ok_one (by kernel_rfl) rfl (okWide_bool_mk Try.underlying4 _))⟩
theorem over_fnMovedBranch : Rows.fnMovedBranchRow.holds Try.pinned (OpenSpec.ofChange Rows.fnMovedBranchSpec) :=
  OpenClaim.holds_of_wide 3 Try.f3 rfl rfl rfl rfl rfl rfl rfl ⟨rfl, rfl, rfl, rfl, rfl⟩ rfl rfl rfl rfl rfl (by kernel_rfl) Try.func3 (by kernel_rfl)
    (of_decide_eq_true (by kernel_rfl)) (by unfold Func.isWrapper; first | (rw [if_pos (by decide +kernel)]; kernel_rfl) | (rw [if_neg (by decide +kernel)]; exact ⟨rfl, rfl⟩))
    (fun os started H enc _ => lifted_fnMovedBranch os started H enc)
/-- The statement. -/
theorem fnMovedBranch_holds : Rows.FnMovedBranchSaid := over_fnMovedBranch
end Go.Proofs.Ytgjpicekdbemiac
