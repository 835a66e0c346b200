/- A parsed program is valid up to its length, and a syntax error has a position: for every code. -/
import Derived.Test.YthkbckkghnbonaaGreatDoorJParse2
import Derived.Test.YthkbckkghnbonaaGreatDoorJParse12
import Derived.Test.YthkbckkghnbonaaGreatDoorJParse13
import Derived.Test.YthkbckkghnbonaaGreatDoorJParse15
import Derived.Test.YthkbckkghnbonaaGreatDoorJParse16
namespace Go.Proofs.YthkbckkghnbonaaGreatDoor
open Go.ChangeShapes Go.WideShapes Go.ChangeAt Go.RowKit
set_option linter.unusedVariables false
theorem belR {w w1 w2 : World} (f : Below w.heap.size w w1) (h : Below w1.heap.size w1 w2) : Below w.heap.size w w2 := f.trans (h.mono f.size)
theorem eqPg_reflR {d : Nat} (Q : List ByteArray) (l : List (Tr d)) : eqPg Q Q l l = true := by unfold eqPg; rw [eqBy_refl (fun x _ => eqSt_refl x), eqTs_refl]; rfl
set_option maxRecDepth 100000 in
set_option maxHeartbeats 8000000 in
theorem law_Parse (A : Option Addr) (n c : Nat) (bs : List (Fin 256)) (w0 : World) (h : Rd w0 1 A n (bs.flatMap bcell)) (hl : bs.length = n) (hnc : n ≤ c) (hc : c ≤ maxLen) (hV : LVb w0.heap.size w0) :
    Calls Tryz.prog 6 #[.slice A n c] w0 fun e w' => e = .returned (.bool true) ∧ Below w0.heap.size w0 w' := by
  have hn0 : n ≤ 9223372036854775807 := by simp only [maxLen] at hc; omega
  have H := Lib.hid h
  have HL := Lib.hid hl
  have HV := Lib.hid hV
  clear h hl hV
  by_cases hbig : 1048576 < n
  · have hB : decide (1048576 < n) = true := by simpa using hbig
    go_enter Tryz.func6, Tryz.ntmps6
    go_wp2_with (go_at_call 7; refine (big_law _ _ _ _ hn0).mono ?_; rintro e w' ⟨rfl, rfl⟩)
    go_ret
    exact ⟨rfl, Below.refl _ _⟩
  have hB : decide (1048576 < n) = false := by simpa using hbig
  go_enter Tryz.func6, Tryz.ntmps6
  go_wp2_with (go_at_call 7; refine (big_law _ _ _ _ hn0).mono ?_; rintro e w' ⟨rfl, rfl⟩)
  clear hB
  refine (DrawParseProgram_any _ _ _ bs w0 H.out HL.out (by omega)).mono ?_
  rintro e w1 ⟨x, hx, rfl, hb1⟩
  have hs1 := hb1.size
  obtain ⟨hz1, hz2, hz3⟩ := parse_small x
  have hpl := parse_place (tkS x) (small8_tk x)
  have hpn := parse_names (tkS x)
  have hnm : nmz x = nmzF (parseR (tkS x)).1 (parseR (tkS x)).2.2.1 (parseR (tkS x)).2.2.2 := rfl
  have HPS : ∀ w, Calls Tryz.prog 31 #[.string x] w (RetP4 (parseR (tkS x)).1 (parseR (tkS x)).2.1 (parseR (tkS x)).2.2.1 (parseR (tkS x)).2.2.2 w) := fun w => ParseProgram_spec x w (by omega)
  have HPI : ∀ w, LVb w.heap.size w → Calls Tryz.prog 13 #[.string x] w (RetP4 (parseR (tkS x)).1 (parseR (tkS x)).2.1 (parseR (tkS x)).2.2.1 (parseR (tkS x)).2.2.2 w) := fun w hv => ParseProgram_impl x w hv (by omega)
  generalize (parseR (tkS x)).1 = c0 at HPS HPI hpn hnm
  generalize (parseR (tkS x)).2.1 = i0 at HPS HPI hpl
  generalize (parseR (tkS x)).2.2.1 = qs at HPS HPI hz1 hz2 hpn hnm
  generalize (parseR (tkS x)).2.2.2 = l at HPS HPI hz3 hnm
  have HPS := Lib.hid HPS
  have HPI := Lib.hid HPI
  have HPL := Lib.hid hpl
  have HPN := Lib.hid hpn
  have HNM := Lib.hid hnm
  have HER := Lib.hid (eqPg_reflR qs l)
  have hc1 : (c0 == c0) = true := by simp
  have hi1 : ((i0 : Int) == (i0 : Int)) = true := by simp
  obtain ⟨nl, hnl⟩ : ∃ nl, nl = l.length := ⟨_, rfl⟩
  have HNL := Lib.hid hnl
  have V1 := Lib.hid (HV.out.below hb1)
  have BW1 := Lib.hid hb1
  clear hpl hpn hnm hnl hb1
  go_wp2_with fail
  refine (HPI.out w1 V1.out.up).mono ?_
  rintro e w2 ⟨Ap, n2, cp, Bp, m2, dp, mm2, rfl, hsl2, htr2, _, _, b2⟩
  obtain rfl : n2 = qs.length := by have := hsl2.1; rw [strs_length] at this; omega
  obtain rfl : nl = m2 := HNL.out.trans htr2.len
  have hs2 := b2.size
  go_upto_region 5 with (fail)
  refine wp_name (fun w3 hw3 => ?_)
  obtain ⟨X, hX⟩ : ∃ X, X = w2.heap.size := ⟨_, rfl⟩
  have b3 : Below w2.heap.size w2 w3 := by rw [hw3]; exact below_alloc1
  have X3 := Lib.hid (show w3.heap[X]? = some (.cells #[.slice Ap qs.length cp, .slice Bp nl dp] 27 (0, 0)) by rw [hw3, hX]; exact heap_topG rfl)
  have lX3 := lt_of_block X3.out
  have PA3 := Lib.hid (hsl2.rdq.below b3)
  have PB3 := Lib.hid (htr2.rdt.below b3)
  have BW3 := Lib.hid (belR BW1.out (belR b2 b3))
  have hs3 := b3.size
  rw [← hX]
  clear hw3 hX hsl2 htr2 b2 b3
  go_wp2_with fail
  refine (HPS.out w3).mono ?_
  rintro e w4 ⟨Aq, n4, cq, Bq, m4, dq, mm4, rfl, hsl4, htr4, _, _, b4⟩
  obtain rfl : n4 = qs.length := by have := hsl4.1; rw [strs_length] at this; omega
  obtain rfl : m4 = nl := htr4.len.symm.trans HNL.out.symm
  have hs4 := b4.size
  go_upto_region 6 with (fail)
  refine wp_name (fun w5 hw5 => ?_)
  obtain ⟨Y, hY⟩ : ∃ Y, Y = w4.heap.size := ⟨_, rfl⟩
  have b5 : Below w4.heap.size w4 w5 := by rw [hw5]; exact below_alloc1
  have Y5 := Lib.hid (show w5.heap[Y]? = some (.cells #[.slice Aq qs.length cq, .slice Bq m4 dq] 27 (0, 0)) by rw [hw5, hY]; exact heap_topG rfl)
  have QA5 := Lib.hid (hsl4.rdq.below b5)
  have QB5 := Lib.hid (htr4.rdt.below b5)
  have b35 := belR b4 b5
  have PA5 := Lib.hid (PA3.out.below b35)
  have PB5 := Lib.hid (PB3.out.below b35)
  have X5 := Lib.hid ((b35.block X lX3).trans X3.out)
  have lX5 := lt_of_block X5.out
  have BW5 := Lib.hid (belR BW3.out b35)
  rw [← hY]
  clear hw5 hY hsl4 htr4 b4 b5 b35
  obtain ⟨p0, p1⟩ := boxcells2 (lay := Below.refl _ _) X5.out
  obtain ⟨q0, q1⟩ := boxcells2 (lay := Below.refl _ _) Y5.out
  go_upto_region 8 with (go_at_call 14; refine (EqualProgram_spec 5 _ _ qs.length m4 qs.length m4 qs qs l l Ap cp Bp dp Aq cq Bq dq w5 PA5.out.rd PB5.out QA5.out.rd QB5.out rfl rfl hz1 hz3 hz3).mono ?_; rw [HER.out]; rintro e6 w6 ⟨rfl, b6, s6⟩)
  have X6 := Lib.hid ((b6.block X lX5).trans X5.out)
  have lX6 := lt_of_block X6.out
  have PA6 := Lib.hid (PA5.out.below b6)
  have PB6 := Lib.hid (PB5.out.below b6)
  have BW6 := Lib.hid (belR BW5.out b6)
  clear p0 p1 q0 q1 b6
  go_wp2_with fail
  refine (Tokenize_spec x w6 (by omega)).mono ?_
  rintro e w7 ⟨A7, c7, T7, hT7, rfl, _, b7, s7⟩
  have hpl := HPL.out
  rw [← hT7] at hpl
  clear hT7
  have X7 := Lib.hid ((b7.block X lX6).trans X6.out)
  have lX7 := lt_of_block X7.out
  have PA7 := Lib.hid (PA6.out.below b7)
  have PB7 := Lib.hid (PB6.out.below b7)
  have BW7 := Lib.hid (belR BW6.out b7)
  clear b7
  by_cases hk : c0 = 0
  · subst hk
    have V7 := Lib.hid (HV.out.below BW7.out)
    cases hv : progV 5 qs l
    · have HN : Hid (nmz x = (⟨#[]⟩, false)) := by show _ = _; rw [HNM.out]; unfold nmzF; rw [hv]; rfl
      have hp := (text_none (d := 5) hv)
      have HP4 : Hid (∀ W, LVb W.heap.size W → Calls Tryz.prog 13 #[.string ⟨#[]⟩] W (RetP4 2 0 [] [] W)) := fun W hV => by
        rw [← retP4 (o := tkS ⟨#[]⟩) (by rw [← hp.1]; exact hp.2) W]
        exact ParseProgram_impl ⟨#[]⟩ W hV (by decide)
      clear hp
      go_wp2_with fail
      refine (NormalizeSource_impl x w7 V7.out.up (by omega)).mono ?_
      rintro e w8 ⟨rfl, b8⟩
      rw [HN.out]
      have BW8 := Lib.hid (belR BW7.out b8)
      have V8 := Lib.hid (HV.out.below BW8.out)
      have X8 := Lib.hid ((b8.block X lX7).trans X7.out)
      have PA8 := Lib.hid (PA7.out.below b8)
      have PB8 := Lib.hid (PB7.out.below b8)
      clear b8
      go_wp2_with fail
      refine (HP4.out w8 V8.out.up).mono ?_
      rintro e w9 ⟨A9, n9, c9, B9, m9, d9, mm9, rfl, _, _, _, _, b9⟩
      go_upto_region 13 with (fail)
      refine wp_name (fun w10 hw10 => ?_)
      have b10 : Below w9.heap.size w9 w10 := by rw [hw10]; exact below_alloc1
      have b810 := belR b9 b10
      have X10 := Lib.hid ((b810.block X (lt_of_block X8.out)).trans X8.out)
      have PA10 := Lib.hid (PA8.out.below b810)
      have PB10 := Lib.hid (PB8.out.below b810)
      have BW10 := Lib.hid (belR BW8.out b810)
      have G10 := Lib.hid (HV.out.below BW10.out).gn'
      clear hw10 b9 b10 b810
      obtain ⟨p0, p1⟩ := boxcells2 (lay := Below.refl _ _) X10.out
      go_wp2_with (go_at_call 11; refine (IsValidProgram_impl 5 _ _ Ap cp qs l Bp m4 dp w10 PA10.out PB10.out G10.out hz1 hz2 hz3).mono ?_; rw [hv]; rintro e11 w11 ⟨rfl, b11, s11⟩)
      go_ret
      exact ⟨rfl, belR BW10.out b11⟩
    · have HN : Hid (nmz x = (ftx (pTks 5 qs l), true)) := by show _ = _; rw [HNM.out]; unfold nmzF; rw [hv]; rfl
      have hp := text_back5 hv
      have hsz : (ftx (pTks 5 qs l)).size ≤ 1099511627776 := by
        have h1 := ftx_size (pTks 5 qs l)
        have h2 := pTks_len 5 qs l
        omega
      obtain ⟨S, hS⟩ : ∃ S, S = ftx (pTks 5 qs l) := ⟨_, rfl⟩
      rw [← hS] at HN hp hsz
      have HP4 : Hid (∀ W, LVb W.heap.size W → Calls Tryz.prog 13 #[.string S] W (RetP4 0 0 qs l W)) := fun W hV => by
        rw [← retP4 hp W]
        exact ParseProgram_impl S W hV hsz
      clear hp hS hsz
      go_wp2_with fail
      refine (NormalizeSource_impl x w7 V7.out.up (by omega)).mono ?_
      rintro e w8 ⟨rfl, b8⟩
      rw [HN.out]
      have BW8 := Lib.hid (belR BW7.out b8)
      have V8 := Lib.hid (HV.out.below BW8.out)
      have X8 := Lib.hid ((b8.block X lX7).trans X7.out)
      have PA8 := Lib.hid (PA7.out.below b8)
      have PB8 := Lib.hid (PB7.out.below b8)
      clear b8
      go_wp2_with fail
      refine (HP4.out w8 V8.out.up).mono ?_
      rintro e w9 ⟨A9, n9, c9, B9, m9, d9, mm9, rfl, hsl9, htr9, _, _, b9⟩
      obtain rfl : n9 = qs.length := by have := hsl9.1; rw [strs_length] at this; omega
      obtain rfl : m4 = m9 := HNL.out.trans htr9.len
      go_upto_region 13 with (fail)
      refine wp_name (fun w10 hw10 => ?_)
      obtain ⟨Z, hZ⟩ : ∃ Z, Z = w9.heap.size := ⟨_, rfl⟩
      have b10 : Below w9.heap.size w9 w10 := by rw [hw10]; exact below_alloc1
      have Z10 := Lib.hid (show w10.heap[Z]? = some (.cells #[.slice A9 qs.length c9, .slice B9 m4 d9] 27 (0, 0)) by rw [hw10, hZ]; exact heap_topG rfl)
      have RA10 := Lib.hid (hsl9.rdq.below b10)
      have RB10 := Lib.hid (htr9.rdt.below b10)
      have b810 := belR b9 b10
      have X10 := Lib.hid ((b810.block X (lt_of_block X8.out)).trans X8.out)
      have PA10 := Lib.hid (PA8.out.below b810)
      have PB10 := Lib.hid (PB8.out.below b810)
      have BW10 := Lib.hid (belR BW8.out b810)
      have G10 := Lib.hid (HV.out.below BW10.out).gn'
      rw [← hZ]
      clear hw10 hZ b9 b10 b810 hsl9 htr9
      obtain ⟨p0, p1⟩ := boxcells2 (lay := Below.refl _ _) X10.out
      obtain ⟨r0, r1⟩ := boxcells2 (lay := Below.refl _ _) Z10.out
      go_wp2_with (first | (go_at_call 11; refine (IsValidProgram_impl 5 _ _ Ap cp qs l Bp m4 dp w10 PA10.out PB10.out G10.out hz1 hz2 hz3).mono ?_; rw [hv]; rintro e11 w11 ⟨rfl, b11, s11⟩; obtain ⟨t0, t1⟩ := boxcells2 (lay := b11) X10.out; obtain ⟨u0, u1⟩ := boxcells2 (lay := b11) Z10.out) | (go_at_call 14; refine (EqualProgram_spec 5 _ _ qs.length m4 qs.length m4 qs qs l l A9 c9 B9 d9 Ap cp Bp dp w11 (RA10.out.below b11).rd (RB10.out.below b11) (PA10.out.below b11).rd (PB10.out.below b11) rfl rfl hz1 hz3 hz3).mono ?_; rw [HER.out]; rintro e12 w12 ⟨rfl, b12, s12⟩))
      go_ret
      exact ⟨rfl, belR BW10.out (belR b11 b12)⟩
  · have d0 : (c0 == 0) = false := beq_eq_false_iff_ne.2 hk
    obtain rfl : qs = [] := HPN.out hk
    have d1 : decide ((0 : Int) ≤ (i0 : Int)) = true := decide_eq_true (by omega)
    have d2 : decide ((i0 : Int) ≤ (T7.length : Int)) = true := decide_eq_true (by omega)
    obtain ⟨S, hS⟩ : ∃ S : ByteArray, S = ⟨(syntaxName c0).toArray⟩ := ⟨_, rfl⟩
    have HSI : Hid (∀ W, Calls Tryz.prog 33 #[.int .i64 c0] W fun e w' => e = .returned (.string S) ∧ Below W.heap.size W w') := fun W => by rw [hS]; exact SyntaxErrorName_impl c0 W
    have HSS : Hid (∀ W, Calls Tryz.prog 34 #[.int .i64 c0] W fun e w' => e = .returned (.string S) ∧ Below W.heap.size W w') := fun W => by rw [hS]; exact SyntaxErrorName_spec c0 W
    have hSS : (S.toList == S.toList) = true := by simp
    clear hk hS
    obtain ⟨p0, p1⟩ := boxcells2 (lay := Below.refl _ _) X7.out
    go_wp2_with (first | (go_at_call 33; refine (HSI.out w7).mono ?_; rintro e8 w8 ⟨rfl, b8⟩; have lX8 : X < w8.heap.size := Nat.lt_of_lt_of_le lX7 b8.size) | (go_at_call 34; refine (HSS.out w8).mono ?_; rintro e9 w9 ⟨rfl, b9⟩; obtain ⟨t0, t1⟩ := boxcells2 (lay := belR b8 b9) X7.out))
    go_ret
    exact ⟨rfl, belR BW7.out (belR b8 b9)⟩
set_option maxRecDepth 100000 in
theorem door_fnParse (os : Os) (args : Array Value) : laidMetH Tryz.prog Rows.fnParseRow.laid ((World.doorLaid Tryz.prog 4000 os).forCall (fun _ _ => 0) ⟨#[], args, []⟩).memory :=
  laidMetH_of_parts3 (fuel := 10) (laidMet_of_run' 10 (by kernel_rfl) (by kernel_rfl)) (by kernel_rfl) (by kernel_rfl)
set_option maxRecDepth 100000 in
theorem lifted_fnParse (os : Os) (started : os.Started) (H : Type) (enc : TypeId × Value → H) :
    ReturnsInHanded {} Tryz.checked os 6 .any (fun w args => (Rows.fnParseSpec.pre enc Tryz.prog Tryz.f6 [] false w args ∧ laidMetH Tryz.prog Rows.fnParseRow.laid w) ∧ sizedMet enc Tryz.prog Tryz.f6 (OpenSpec.ofChange Rows.fnParseSpec) false w args)
      (Rows.fnParseSpec.post enc Tryz.prog Tryz.f6 false true false false) := by
  refine returnsInHanded_of_change_and (C := Tryz.checked) (X := fun w _ => laidMetH Tryz.prog Rows.fnParseRow.laid w) (fun _ _ _ hh h => h.of_heap hh) own started (by kernel_rfl) Tryz.func6
    (ChangeSpec.witness_shaped (enc := enc) (C := Tryz.checked) (os := os) (X := fun w _ => laidMetH Tryz.prog Rows.fnParseRow.laid w) false (World.doorLaid Tryz.prog 4000 os) #[.slice none 0 0] 10 rfl (World.shaped_of_RefB (by kernel_rfl) (by kernel_rfl)) (by kernel_rfl) (by kernel_rfl) (by kernel_rfl) (door_fnParse os _)) ?_
  intro W base args ds gs before hval0 hW _ _ hL _
  have hval : ∀ (j : Nat) t v, Tryz.f6.params[j]? = some t → args[j]? = some v → Value.okWide Tryz.prog W .any base t v := hval0
  have hW' := hW
  obtain ⟨p, q, hA0, hV, rfl, hfz, hnd⟩ := hW
  have hA : DataW.TrodAll enc Tryz.prog W 0 (fun _ => true) true Tryz.f6.params.toList args.toList ds p := hA0
  have hGN : GN W := gn_of_laid6 hL
  have hltp : ∀ x ∈ p, x.block < W.heap.size := fun x hx => hW'.lt x (by simp [hx])
  have hltq : ∀ x ∈ q, x.block < W.heap.size := fun x hx => hW'.lt x (by simp [hx])
  have key : Calls Tryz.prog 6 args W fun e W' => e = .returned (.bool true) ∧ Below W.heap.size W W' := by
    rw [Tryz.params6] at hA hval
    obtain ⟨v0, vs0, d0, ds0, p0, q0, hargs, rfl, rfl, h0, r0⟩ := trodAll_cons hA
    obtain ⟨rfl, rfl, rfl⟩ := trodAll_nil r0
    obtain rfl : args = #[v0] := by cases args; simp_all
    clear hA0 hval0 hW' hA hV hltp hltq
    obtain ⟨fuel0, hf0⟩ := h0
    obtain ⟨A, n, c, l, hv0, hnc, hcm, hl, hrd⟩ := rd_of_slice (cellsf := bcell) Tryz.underlying22 cells_byte (by decide) trod_byte bcell_len (slice_one (hval 0 22 v0 rfl rfl) Tryz.underlying22 hf0)
    subst hv0
    exact law_Parse A n c l W hrd hl hnc hcm (lv_of_laid6 hL)
  refine key.mono fun e W' ⟨he, hb⟩ => ?_
  subst he
  obtain ⟨g1, hgs, hvs⟩ := vars_stay laidOut strRec hV hltq hb (by obtain ⟨_, _, _, h, _⟩ := hGN; exact h)
  subst hgs
  have hrd : (Tryz.f6.params.toList.all fun t => Tryz.prog.readableRec t && decide (t < Tryz.prog.types.size)) = true := by kernel_rfl
  have hst : ∀ sp : Nat → Bool, (∀ x ∈ p ++ q, sp x.block = true) → DataW.TrodAll enc Tryz.prog W' 0 sp true Tryz.f6.params.toList args.toList ds p := fun sp hsp => trodAll_stays (sp := sp) (W' := W') laidOut (fun t ht => by simpa using List.all_eq_true.1 hrd t ht) hA (fun x hx => hb.same (hltp x hx)) (fun x hx => hsp x (by simp [hx]))
  have hds : ds.length = 1 := by
    rw [Tryz.params6] at hA
    obtain ⟨v0, vs0, d0, ds0, p0, q0, _, rfl, rfl, h0, r0⟩ := trodAll_cons hA
    obtain ⟨_, rfl, _⟩ := trodAll_nil r0
    rfl
  clear hA hA0 hval hval0
  obtain ⟨e0, rfl⟩ : ∃ e0, ds = [e0] := by match ds, hds with | [e0], _ => exact ⟨e0, rfl⟩
  exact ⟨_, rfl, post_of_below (pa := p) (pv := q) hW' (fun _ _ _ => (trodAll_cons_mk (shut_bool Tryz.underlying4 _) trodAll_mk0)) hst (fun sp hsp => hvs sp (fun x hx => hsp x (by simp [hx]))) rfl hb (ok_one (by kernel_rfl) rfl (okWide_bool_mk Tryz.underlying4 _))⟩
theorem over_fnParse : Rows.fnParseRow.holds Tryz.pinned (OpenSpec.ofChange Rows.fnParseSpec) :=
  OpenClaim.holds_of_wide 6 Tryz.f6 rfl rfl rfl rfl rfl rfl rfl ⟨rfl, rfl, rfl, rfl, rfl⟩ rfl rfl rfl rfl rfl (by kernel_rfl) Tryz.func6 (by kernel_rfl)
    (of_decide_eq_true (by kernel_rfl)) (by unfold Func.isWrapper; first | (rw [if_pos (by decide +kernel)]; kernel_rfl) | (rw [if_neg (by decide +kernel)]; exact ⟨rfl, rfl⟩))
    (fun os started H enc _ => lifted_fnParse os started H enc)
/-- The statement: the tied card. -/
theorem fnParse_holds : Rows.FnParseCardSaid :=
  Claim7.holds_tied_plain_at .later [] [.data, .data, .data, .sentinel, .sentinel, .data] true (true, "64224490679f6881f559166ffb3ad8f164bbc1af6078a3191faee35b94f5eb6a") true
    over_fnParse (fun _ h => by cases h) (by kernel_rfl) (fun _ h => by cases h) fnParse_row_tie rfl ⟨rfl, rfl⟩ (by kernel_rfl) rfl
    (fun f fn hf hfn => by
      obtain rfl : f = 6 := Option.some.inj ((show Tryz.prog.funcNamed "loop.example/g00506/laws.FnParse" = some 6 by kernel_rfl).symm.trans hf) |>.symm
      obtain rfl : fn = Tryz.f6 := (Option.some.inj (Tryz.func6.symm.trans hfn)).symm
      exact ⟨by kernel_rfl, fun j t ht => by
        have hall : (Tryz.f6.params.toList.all fun u => !Tryz.prog.wantsStandIn u) = true := by kernel_rfl
        have hm : t ∈ Tryz.f6.params.toList := by simpa using Array.mem_of_getElem? ht
        exact (show Tryz.prog.wantsStandIn t = false by simpa using List.all_eq_true.1 hall t hm)⟩)
    (by kernel_rfl)
end Go.Proofs.YthkbckkghnbonaaGreatDoor
