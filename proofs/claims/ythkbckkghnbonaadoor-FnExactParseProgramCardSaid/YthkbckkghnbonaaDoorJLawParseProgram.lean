/- The program's ParseProgram returns what the reference's returns, for every text, in memory of its own. -/
import Derived.Test.YthkbckkghnbonaaDoorJParseProgram2
import Derived.Test.YthkbckkghnbonaaDoorJParseProgram6
import Derived.Test.YthkbckkghnbonaaDoorJParseProgram12
namespace Go.Proofs.YthkbckkghnbonaaDoor
open Go.ChangeShapes Go.WideShapes Go.ChangeAt Go.RowKit
set_option linter.unusedVariables false
set_option maxRecDepth 100000 in
set_option maxHeartbeats 4000000 in
theorem law_ParseProgram (s : ByteArray) (w : World) (hmax : s.size ≤ 9223372036854775807) (hv : LVb w.heap.size w) : Calls Tryd.prog 3 #[.string s] w fun e w' => e = .returned (.bool true) ∧ Below w.heap.size w w' := by
  have HV := Lib.hid hv
  clear hv
  by_cases hs : 1048576 < s.size
  · have hd : decide ((1048576 : Int) < (s.size : Int)) = true := decide_eq_true (by omega)
    go_enter Tryd.func3, Tryd.ntmps3
    go_wp2_with fail
    go_ret
    exact ⟨rfl, Below.refl _ _⟩
  · have hd : decide ((1048576 : Int) < (s.size : Int)) = false := decide_eq_false (by omega)
    obtain ⟨hz1, hz2, hz3⟩ := parse_small s
    have HPS : ∀ w, Calls Tryd.prog 5 #[.string s] w (RetP4 (parseR (tkS s)).1 (parseR (tkS s)).2.1 (parseR (tkS s)).2.2.1 (parseR (tkS s)).2.2.2 w) := fun w => ParseProgram_spec s w (by omega)
    have HPI : ∀ w, LVb w.heap.size w → Calls Tryd.prog 6 #[.string s] w (RetP4 (parseR (tkS s)).1 (parseR (tkS s)).2.1 (parseR (tkS s)).2.2.1 (parseR (tkS s)).2.2.2 w) := fun w hv => ParseProgram_impl s w hv (by omega)
    generalize (parseR (tkS s)).1 = c at HPS HPI
    generalize (parseR (tkS s)).2.1 = i at HPS HPI
    generalize (parseR (tkS s)).2.2.1 = qs at HPS HPI hz1 hz2
    generalize (parseR (tkS s)).2.2.2 = l at HPS HPI hz3
    have HPS := Lib.hid HPS
    have HPI := Lib.hid HPI
    have hkl := kT_le 5 l
    obtain ⟨Z, hZ⟩ : ∃ Z, Z = kT 5 l := ⟨_, rfl⟩
    have HZ := Lib.hid hZ
    rw [← hZ] at hkl
    clear hZ
    have hc1 : (c == c) = true := by simp
    have hi1 : ((i : Int) == (i : Int)) = true := by simp
    have HMK := Lib.hid (fun lo m hi nb Aq cq Ab cb W ha hb h1 hh => markProgram_tri 5 lo m hi qs.length nb (strs qs) l Aq cq Ab cb 1 W ha hb h1 hh hz1 hz3 (by omega) (by omega))
    have HHE := Lib.hid (fun lo nb Aq cq Ab cb W ha hb => heldProgram_any 5 lo qs.length nb l Aq cq Ab cb 1 W ha hb hz1 hz3 (by omega) (by omega))
    rw [← HZ.out] at HMK HHE
    go_enter Tryd.func3, Tryd.ntmps3
    go_wp2_with fail
    refine (HPS.out w).mono ?_
    rintro e w1 ⟨A0, n0, c0, B0, m0, d0, mm0, rfl, hsl0, htr0, _, _, b1⟩
    obtain rfl : n0 = qs.length := by have := hsl0.1; rw [strs_length] at this; omega
    obtain rfl : m0 = l.length := htr0.len.symm
    obtain ⟨nl, hnl⟩ : ∃ nl, nl = l.length := ⟨_, rfl⟩
    have HNL := Lib.hid hnl
    rw [← hnl] at htr0 ⊢
    clear hnl
    have hs1 := b1.size
    go_upto_region 4 with (fail)
    refine wp_name (fun w2 hw2 => ?_)
    have b2 : Below w1.heap.size w1 w2 := by rw [hw2]; exact below_alloc1
    have P2 := Lib.hid (show w2.heap[w1.heap.size]? = some (.cells #[.slice A0 qs.length c0, .slice B0 nl d0] 25 (0, 0)) by rw [hw2]; exact heap_topG rfl)
    have hs2 := b2.size
    have lP2 := lt_of_block P2.out
    have RA2 := Lib.hid (hsl0.rdq.rd.below b2)
    have RB2 := Lib.hid (htr0.rdt.below b2)
    have BW2 := Lib.hid (b1.trans (b2.mono hs1))
    have V2 := Lib.hid (HV.out.below BW2.out).up
    clear hw2 hsl0 htr0 b1 b2
    go_wp2_with fail
    refine (HPI.out w2 V2.out).mono ?_
    rintro e w3 ⟨Aq, nq, cq, Ab, nb, cb, m, rfl, hsl, htr, _, ⟨hm1, hm2⟩, b3⟩
    obtain rfl : nq = qs.length := by have := hsl.1; rw [strs_length] at this; omega
    obtain rfl : nb = nl := htr.len.symm.trans HNL.out.symm
    have hs3 := b3.size
    go_upto_region 5 with (fail)
    refine wp_name (fun w4 hw4 => ?_)
    have b4 : Below w3.heap.size w3 w4 := by rw [hw4]; exact below_alloc1
    have P4 := Lib.hid (show w4.heap[w3.heap.size]? = some (.cells #[.slice Aq qs.length cq, .slice Ab nb cb] 25 (0, 0)) by rw [hw4]; exact heap_topG rfl)
    have hs4 := b4.size
    have lP4 := lt_of_block P4.out
    have C4 := Lib.hid (b3.trans (b4.mono hs3))
    have SL4 := Lib.hid (hsl.keep (fun b _ _ h => b4.block b h) b4.size)
    have TR4 := Lib.hid (TrI.keep b4.size htr (fun b _ _ h => b4.block b h))
    have RA4 := Lib.hid (RA2.out.below C4.out)
    have RB4 := Lib.hid (RB2.out.below C4.out)
    have GA4 := Lib.hid SL4.out.rdq.rd
    have GB4 := Lib.hid TR4.out.rdt
    clear hw4 hsl htr b3 b4
    obtain ⟨p0, p1⟩ := cells2 (lay := C4.out) P2.out
    obtain ⟨q0, q1⟩ := cells2 (lay := Below.refl _ _) P4.out
    go_upto_region 8 with (go_at_call 7; refine (eqProgram_any 5 _ _ _ _ qs l _ _ _ _ _ _ _ _ w4 GA4.out GB4.out RA4.out RB4.out rfl hz1 hz3).mono ?_; rintro e w5 ⟨rfl, b5, s5⟩)
    have C5 := Lib.hid (C4.out.trans (b5.mono (by omega)))
    have SL5 := Lib.hid (SL4.out.keep (fun b _ _ h => b5.block b h) b5.size)
    have TR5 := Lib.hid (TrI.keep b5.size TR4.out (fun b _ _ h => b5.block b h))
    have P5 := Lib.hid ((b5.block _ lP4).trans P4.out)
    have lP5 := lt_of_block P5.out
    clear p0 p1 q0 q1 b5 GA4 GB4
    obtain ⟨q0, q1⟩ := cells2 (lay := Below.refl _ _) P5.out
    go_wp2_with fail
    refine (HMK.out w2.heap.size m w3.heap.size _ _ _ _ _ w5 SL5.out TR5.out ⟨hm1, hm2⟩ (by omega)).mono ?_
    rintro e w6 ⟨rfl, sl6, tr6, k6⟩
    have hs6 := k6.size
    have C6 := Lib.hid (C5.out.trans (k6.below (by omega)))
    have SL6 := Lib.hid sl6
    have TR6 := Lib.hid tr6
    have P6 := Lib.hid ((k6.far _ lP5 (.inr (Nat.le_refl _))).trans P5.out)
    have lP6 := lt_of_block P6.out
    clear q0 q1 sl6 tr6 k6
    obtain ⟨q0, q1⟩ := cells2 (lay := Below.refl _ _) P6.out
    go_wp2_with fail
    refine (HHE.out _ _ _ _ _ _ w6 SL6.out.rdq.rd TR6.out.rdt).mono ?_
    rintro e w7 ⟨rfl, b7, s7⟩
    have C7 := Lib.hid (C6.out.trans (b7.mono (by omega)))
    have D7 := Lib.hid b7
    have BW7 := Lib.hid (BW2.out.trans (C7.out.mono (by omega)))
    have V7 := Lib.hid (HV.out.below BW7.out).up
    have dneg : decide ((1 : Int) + (qs.length : Int) + (Z : Int) < 0) = false := decide_eq_false (by omega)
    clear q0 q1 b7
    go_wp2_with fail
    refine (HPI.out w7 V7.out).mono ?_
    rintro e w8 ⟨A1, n1, c1, B1, m1, d1, mm1, rfl, hsl1, htr1, _, _, b8⟩
    obtain rfl : n1 = qs.length := by have := hsl1.1; rw [strs_length] at this; omega
    obtain rfl : m1 = nb := htr1.len.symm.trans HNL.out.symm
    have hs8 := b8.size
    go_upto_region 16 with (fail)
    refine wp_name (fun w9 hw9 => ?_)
    have b9 : Below w8.heap.size w8 w9 := by rw [hw9]; exact below_alloc1
    have P9 := Lib.hid (show w9.heap[w8.heap.size]? = some (.cells #[.slice A1 qs.length c1, .slice B1 m1 d1] 25 (0, 0)) by rw [hw9]; exact heap_topG rfl)
    have hs9 := b9.size
    have lP9 := lt_of_block P9.out
    have E9 := b8.trans (b9.mono hs8)
    have C9 := Lib.hid (C7.out.trans (E9.mono (by omega)))
    have D9 := Lib.hid (D7.out.trans (E9.mono (by omega)))
    have RA9 := Lib.hid (RA2.out.below C9.out)
    have RB9 := Lib.hid (RB2.out.below C9.out)
    have HA9 := Lib.hid (hsl1.rdq.rd.below b9)
    have HB9 := Lib.hid (htr1.rdt.below b9)
    clear hw9 hsl1 htr1 b8 b9 E9
    obtain ⟨p0, p1⟩ := cells2 (lay := C9.out) P2.out
    obtain ⟨q0, q1⟩ := cells2 (lay := Below.refl _ _) P9.out
    go_upto_region 19 with (go_at_call 7; refine (eqProgram_any 5 _ _ _ _ qs l _ _ _ _ _ _ _ _ w9 HA9.out HB9.out RA9.out RB9.out rfl hz1 hz3).mono ?_; rintro e w10 ⟨rfl, b10, s10⟩)
    have C10 := Lib.hid (C9.out.trans (b10.mono (by omega)))
    have D10 := Lib.hid (D9.out.trans (b10.mono (by omega)))
    have hs10 := b10.size
    have P10 := Lib.hid ((D10.out.block _ lP6).trans P6.out)
    have SL10 := Lib.hid (SL6.out.keep (fun b _ _ h => D10.out.block b h) D10.out.size)
    have TR10 := Lib.hid (TrI.keep D10.out.size TR6.out (fun b _ _ h => D10.out.block b h))
    clear p0 p1 q0 q1 b10
    obtain ⟨q0, q1⟩ := cells2 (lay := Below.refl _ _) P10.out
    have lP10 := lt_of_block P10.out
    go_wp2_with fail
    refine (HHE.out _ _ _ _ _ _ w10 SL10.out.rdq.rd TR10.out.rdt).mono ?_
    rintro e w11 ⟨rfl, b11, s11⟩
    have BW11 := Lib.hid (BW2.out.trans ((C10.out.trans (b11.mono (by omega))).mono (by omega)))
    clear q0 q1 b11
    go_wp2_with fail
    go_ret
    exact ⟨rfl, BW11.out⟩
set_option maxRecDepth 100000 in
theorem door_fnExactParseProgram (os : Os) (args : Array Value) : laidMetH Tryd.prog Rows.fnExactParseProgramRow.laid ((World.doorLaid Tryd.prog 4000 os).forCall (fun _ _ => 0) ⟨#[], args, []⟩).memory :=
  laidMetH_of_parts3 (fuel := 10) (laidMet_of_run' 10 (by kernel_rfl) (by kernel_rfl)) (by kernel_rfl) (by kernel_rfl)
set_option maxRecDepth 100000 in
theorem lifted_fnExactParseProgram (os : Os) (started : os.Started) (H : Type) (enc : TypeId × Value → H) :
    ReturnsInHanded {} Tryd.checked os 3 .any (fun w args => (Rows.fnExactParseProgramSpec.pre enc Tryd.prog Tryd.f3 [] false w args ∧ laidMetH Tryd.prog Rows.fnExactParseProgramRow.laid w) ∧ sizedMet enc Tryd.prog Tryd.f3 (OpenSpec.ofChange Rows.fnExactParseProgramSpec) false w args)
      (Rows.fnExactParseProgramSpec.post enc Tryd.prog Tryd.f3 false true false false) := by
  refine returnsInHanded_of_change_and (C := Tryd.checked) (X := fun w _ => laidMetH Tryd.prog Rows.fnExactParseProgramRow.laid w) (fun _ _ _ hh h => h.of_heap hh) own started (by kernel_rfl) Tryd.func3
    (ChangeSpec.witness_shaped (enc := enc) (C := Tryd.checked) (os := os) (X := fun w _ => laidMetH Tryd.prog Rows.fnExactParseProgramRow.laid w) false (World.doorLaid Tryd.prog 4000 os) #[.string ⟨#[]⟩] 10 rfl (World.shaped_of_RefB (by kernel_rfl) (by kernel_rfl)) (by kernel_rfl) (by kernel_rfl) (by kernel_rfl) (door_fnExactParseProgram os _)) ?_
  intro W base args ds gs before hval0 hW _ _ hL _
  have hval : ∀ (j : Nat) t v, Tryd.f3.params[j]? = some t → args[j]? = some v → Value.okWide Tryd.prog W .any base t v := hval0
  have hW' := hW
  obtain ⟨p, q, hA0, hV, rfl, hfz, hnd⟩ := hW
  have hA : DataW.TrodAll enc Tryd.prog W 0 (fun _ => true) true Tryd.f3.params.toList args.toList ds p := hA0
  have hGN : GN W := gn_of_laid6 hL
  have hltp : ∀ x ∈ p, x.block < W.heap.size := fun x hx => hW'.lt x (by simp [hx])
  have hltq : ∀ x ∈ q, x.block < W.heap.size := fun x hx => hW'.lt x (by simp [hx])
  have key : Calls Tryd.prog 3 args W fun e W' => e = .returned (.bool true) ∧ Below W.heap.size W W' := by
    rw [Tryd.params3] at hA hval
    obtain ⟨v0, vs0, d0, ds0, p0, q0, hargs, rfl, rfl, h0, r0⟩ := trodAll_cons hA
    obtain ⟨rfl, rfl, rfl⟩ := trodAll_nil r0
    obtain rfl : args = #[v0] := by cases args; simp_all
    clear hA0 hval0 hW' hA hV hltp hltq
    obtain ⟨s0, rfl, hs0⟩ := openStr Tryd.underlying9 (hval 0 9 v0 rfl rfl) h0
    exact law_ParseProgram s0 W (by simpa only [maxLen] using hs0) (lv_of_laid6 hL)
  refine key.mono fun e W' ⟨he, hb⟩ => ?_
  subst he
  obtain ⟨g1, hgs, hvs⟩ := vars_stay laidOut strRec hV hltq hb (by obtain ⟨_, _, _, h, _⟩ := hGN; exact h)
  subst hgs
  have hrd : (Tryd.f3.params.toList.all fun t => Tryd.prog.readableRec t && decide (t < Tryd.prog.types.size)) = true := by kernel_rfl
  have hst : ∀ sp : Nat → Bool, (∀ x ∈ p ++ q, sp x.block = true) → DataW.TrodAll enc Tryd.prog W' 0 sp true Tryd.f3.params.toList args.toList ds p := fun sp hsp => trodAll_stays (sp := sp) (W' := W') laidOut (fun t ht => by simpa using List.all_eq_true.1 hrd t ht) hA (fun x hx => hb.same (hltp x hx)) (fun x hx => hsp x (by simp [hx]))
  have hds : ds.length = 1 := by
    rw [Tryd.params3] at hA
    obtain ⟨v0, vs0, d0, ds0, p0, q0, _, rfl, rfl, h0, r0⟩ := trodAll_cons hA
    obtain ⟨_, rfl, _⟩ := trodAll_nil r0
    rfl
  clear hA hA0 hval hval0
  obtain ⟨e0, rfl⟩ : ∃ e0, ds = [e0] := by match ds, hds with | [e0], _ => exact ⟨e0, rfl⟩
  exact ⟨_, rfl, post_of_below (pa := p) (pv := q) hW' (fun _ _ _ => (trodAll_cons_mk (shut_bool Tryd.underlying4 _) trodAll_mk0)) hst (fun sp hsp => hvs sp (fun x hx => hsp x (by simp [hx]))) rfl hb (ok_one (by kernel_rfl) rfl (okWide_bool_mk Tryd.underlying4 _))⟩
theorem over_fnExactParseProgram : Rows.fnExactParseProgramRow.holds Tryd.pinned (OpenSpec.ofChange Rows.fnExactParseProgramSpec) :=
  OpenClaim.holds_of_wide 3 Tryd.f3 rfl rfl rfl rfl rfl rfl rfl ⟨rfl, rfl, rfl, rfl, rfl⟩ rfl rfl rfl rfl rfl (by kernel_rfl) Tryd.func3 (by kernel_rfl)
    (of_decide_eq_true (by kernel_rfl)) (by unfold Func.isWrapper; first | (rw [if_pos (by decide +kernel)]; kernel_rfl) | (rw [if_neg (by decide +kernel)]; exact ⟨rfl, rfl⟩))
    (fun os started H enc _ => lifted_fnExactParseProgram os started H enc)
/-- The statement: the tied card. -/
theorem fnExactParseProgram_holds : Rows.FnExactParseProgramCardSaid :=
  Claim7.holds_tied_plain_at .later [] [.data, .data, .data, .sentinel, .sentinel, .data] true (true, "ff12ab015c25ee60dfe14812b9fba6f00dc482505af76aa96bc02ecc2f20ab0f") true
    over_fnExactParseProgram (fun _ h => by cases h) (by kernel_rfl) (fun _ h => by cases h) fnExactParseProgram_row_tie rfl ⟨rfl, rfl⟩ (by kernel_rfl) rfl
    (fun f fn hf hfn => by
      obtain rfl : f = 3 := Option.some.inj ((show Tryd.prog.funcNamed "loop.example/g00506/laws.FnExactParseProgram" = some 3 by kernel_rfl).symm.trans hf) |>.symm
      obtain rfl : fn = Tryd.f3 := (Option.some.inj (Tryd.func3.symm.trans hfn)).symm
      exact ⟨by kernel_rfl, fun j t ht => by
        have hall : (Tryd.f3.params.toList.all fun u => !Tryd.prog.wantsStandIn u) = true := by kernel_rfl
        have hm : t ∈ Tryd.f3.params.toList := by simpa using Array.mem_of_getElem? ht
        exact (show Tryd.prog.wantsStandIn t = false by simpa using List.all_eq_true.1 hall t hm)⟩)
    (by kernel_rfl)
end Go.Proofs.YthkbckkghnbonaaDoor
