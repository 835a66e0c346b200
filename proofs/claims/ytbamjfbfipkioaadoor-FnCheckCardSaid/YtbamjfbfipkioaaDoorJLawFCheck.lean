/- A check error has a name, and removing the last statement of an accepted program keeps it accepted: for every code. -/
import Derived.Test.YtbamjfbfipkioaaDoorJFCheck2
import Derived.Test.YtbamjfbfipkioaaDoorJFCheck18
import Derived.Test.YtbamjfbfipkioaaDoorJFCheck29
import Derived.Test.YtbamjfbfipkioaaDoorJFCheck30
namespace Go.Proofs.YtbamjfbfipkioaaDoor
open Go.ChangeShapes Go.WideShapes Go.ChangeAt Go.RowKit
set_option linter.unusedVariables false
theorem belC {w w1 w2 : World} (f : Below w.heap.size w w1) (h : Below w1.heap.size w1 w2) : Below w.heap.size w w2 := f.trans (h.mono f.size)
theorem sz_take {d : Nat} (l : List (Tr (d + 1))) (t : Nat) : szT (d + 1) (l.take t) ≤ szT (d + 1) l := by
  have := sz_cut l t
  omega
set_option maxRecDepth 100000 in
set_option maxHeartbeats 8000000 in
theorem law_FCheck (A : Option Addr) (n c : Nat) (bs : List (Fin 256)) (w0 : World) (h : Rd w0 1 A n (bs.flatMap bcell)) (hl : bs.length = n) (hnc : n ≤ c) (hc : c ≤ maxLen) (hG : GN w0) :
    Calls Tryd.prog 4 #[.slice A n c] w0 fun e w' => e = .returned (.bool true) ∧ Below w0.heap.size w0 w' := by
  have hn0 : n ≤ 9223372036854775807 := by simp only [maxLen] at hc; omega
  have H := Lib.hid h
  have HL := Lib.hid hl
  have HG := Lib.hid hG
  clear h hl hG
  by_cases hbig : 1048576 < n
  · have hB : decide (1048576 < n) = true := by simpa using hbig
    go_enter Tryd.func4, Tryd.ntmps4
    go_wp2_with (go_at_call 5; refine (big_law _ _ _ _ hn0).mono ?_; rintro e w' ⟨rfl, rfl⟩)
    go_ret
    exact ⟨rfl, Below.refl _ _⟩
  have hB : decide (1048576 < n) = false := by simpa using hbig
  go_enter Tryd.func4, Tryd.ntmps4
  go_wp2_with (go_at_call 5; refine (big_law _ _ _ _ hn0).mono ?_; rintro e w' ⟨rfl, rfl⟩)
  clear hB
  refine (DrawCheckProgram_any _ _ _ bs w0 H.out HL.out (by omega)).mono ?_
  rintro e w1 ⟨Aq, cq, Q, Ab, nb, cb, l, rfl, hq, ⟨hq4, hqc, hqm, hq9⟩, hr, ⟨hbc, hbm, hz⟩, hb1⟩
  have hs1 := hb1.size
  have hzq : szS Q ≤ 1048576 := by have := szS9 Q hq9; omega
  have hnb : nb ≤ 400000 := by
    have h5 : szT 6 l = l.length + sumE l := szT_succ l
    have h6 := RdT.len hr
    omega
  obtain ⟨nq, hnq⟩ : ∃ nq, nq = Q.length := ⟨_, rfl⟩
  go_upto_region 4 with (fail)
  obtain ⟨w2, hw2⟩ : ∃ w2, w2 = w1.alloc (.cells #[.slice Aq Q.length cq, .slice Ab nb cb] 35) := ⟨_, rfl⟩
  rw [← hw2]
  obtain ⟨X, hX⟩ : ∃ X, X = w1.heap.size := ⟨_, rfl⟩
  have b2 : Below w1.heap.size w1 w2 := by rw [hw2]; exact (by repeat (first | exact Below.refl _ _ | assumption | (refine Below.trans ?_ (Below.mono (by assumption) (by first | omega | (simp; done) | (simp; omega)))) | (with_reducible refine Below.drew ?_) | (with_reducible refine Below.alloc ?_ (by first | omega | (simp; done) | (simp; omega)) _) | (with_reducible refine Below.setCell ?_ (by first | omega | (simp; done) | (simp; omega)) _)))
  have s2 : X < w2.heap.size := by rw [hw2, hX]; simp
  have x2 : w2.heap[X]? = some (.cells #[.slice Aq Q.length cq, .slice Ab nb cb] 35 (0, 0)) := by rw [hw2, hX]; exact boxed1_0 _ _
  rw [← hX]
  have HQ1 := Lib.hid hq
  have HR1 := Lib.hid hr
  have B12 := Lib.hid b2
  have HB01 := Lib.hid hb1
  have hX1 : w1.heap.size ≤ X := by omega
  have hs12 := b2.size
  have HQ2 := Lib.hid (hq.below b2)
  have HR2 := Lib.hid (hr.below b2)
  have HB2 := Lib.hid (belC hb1 b2)
  have HG2 := Lib.hid (HG.out.below HB2.out)
  have hX0 : w0.heap.size ≤ X := by omega
  have hXX : X ≤ w2.heap.size := by omega
  have HX2 := Lib.hid x2
  obtain ⟨K, hK⟩ : ∃ K, K = ckP 6 Q l := ⟨_, rfl⟩
  have HCI := Lib.hid (fun W (ra : RdL W 0 1 Aq Q.length (strs Q)) (rb : RdT W 0 6 Ab nb l) (hG : GN W) => CheckProgram_impl 6 0 0 Aq cq Q l Ab nb cb W ra hqc rb hG (by omega) hzq (by omega))
  have HCS := Lib.hid (fun W (ra : RdL W 0 1 Aq Q.length (strs Q)) (rb : RdT W 0 6 Ab nb l) => CheckProgram_spec 6 0 0 Aq cq Q l Ab nb cb W ra hqc rb (by omega) hzq (by omega))
  have HVS := Lib.hid (fun W (ra : RdL W 0 1 Aq Q.length (strs Q)) (rb : RdT W 0 6 Ab nb l) => IsValidProgram_spec 6 0 0 Aq cq Q l Ab nb cb W ra rb (by omega) hzq (by omega))
  have HCT := Lib.hid (fun W (ra : RdL W 0 1 Aq Q.length (strs Q)) (t : Nat) (rb : RdT W 0 6 Ab t (l.take t)) (hG : GN W) => CheckProgram_impl 6 0 0 Aq cq Q (l.take t) Ab t cb W ra hqc rb hG (by omega) hzq (Nat.le_trans (sz_take (d := 5) l t) (show szT 6 l ≤ 1048576 by omega)))
  have HTK := Lib.hid (fun (t : Nat) (hv : progV 6 Q l = true) (h : (ckP 6 Q l).1 = 0) => ckP_take t hv h)
  have HK9 : Hid (K.1 ≤ 9) := by show K.1 ≤ 9; rw [hK]; exact ckP_le
  rw [← hK] at HCI HCS HTK
  have HKE := Lib.hid hK
  rw [← hnq] at HQ1 HQ2 HCI HCS HVS HCT HX2 ⊢
  clear hw2 b2 x2 hq hr hb1 hX hK hz hzq hq9 hq4
  have HNQ := Lib.hid hnq
  clear hnq
  obtain ⟨k0, k1⟩ := cells2G (lay := Below.refl _ _) HX2.out
  go_wp2_with fail
  refine (HCI.out w2 HQ2.out HR2.out HG2.out).mono ?_
  rintro e w3 ⟨rfl, b3, s3⟩
  have HB3 := Lib.hid b3
  clear k0 k1 b3
  obtain ⟨k0, k1⟩ := cells2G (lay := HB3.out) HX2.out
  have hX3 : X < w3.heap.size := by omega
  go_wp2_with fail
  refine (HCS.out w3 (HQ2.out.below HB3.out) (HR2.out.below HB3.out)).mono ?_
  rintro e w4 ⟨rfl, b4, s4⟩
  have HB4 := Lib.hid (belC HB3.out b4)
  clear k0 k1 b4
  go_wp2_with fail
  refine (CheckErrorName_impl K.1 w4).mono ?_
  rintro e w5 ⟨rfl, b5⟩
  have HB5 := Lib.hid (belC HB4.out b5)
  clear b5
  go_wp2_with fail
  refine (CheckErrorName_spec K.1 w5).mono ?_
  rintro e w6 ⟨rfl, b6⟩
  have HB6 := Lib.hid (belC HB5.out b6)
  clear b6
  by_cases hk0 : K.1 = 0
  · have HK0 := Lib.hid hk0
    rw [hk0]
    clear hk0
    have hs6 : X < w6.heap.size := by have := HB6.out.size; omega
    obtain ⟨k0, k1⟩ := cells2G (lay := HB6.out) HX2.out
    by_cases hn : nb = 0
    · subst hn
      go_wp2_with fail
      go_ret
      exact ⟨rfl, HB2.out.trans (HB6.out.mono (by omega))⟩
    obtain ⟨m, rfl⟩ : ∃ m, nb = m + 1 := ⟨nb - 1, by omega⟩
    go_wp2_with fail
    refine (HVS.out w6 (HQ2.out.below HB6.out) (HR2.out.below HB6.out)).mono ?_
    rintro e w7 ⟨rfl, b7, s7⟩
    have HB7 := Lib.hid (belC HB6.out b7)
    clear b7 k0 k1
    cases hv : progV 6 Q l
    · go_wp2_with fail
      go_ret
      exact ⟨rfl, HB2.out.trans (HB7.out.mono (by omega))⟩
    · have HT0 : Hid ((ckP 6 Q (l.take m)).1 = 0) := HTK.out m hv HK0.out
      have hX7 := (HB7.out.block X (lt_of_block HX2.out)).trans HX2.out
      obtain ⟨k0, k1⟩ := cells2G (lay := Below.refl _ _) hX7
      have f1 := free_at (j := 1) hX7
      have hs7 := lt_of_block hX7
      obtain ⟨b, off, rfl, _, hbl, _⟩ := (HR2.out.below HB7.out).2 (Nat.succ_pos m)
      have HRT := Lib.hid (RdT.take (HR2.out.below HB7.out) (Nat.le_succ m))
      have HX7 := Lib.hid hX7
      clear hX7 hv HRT
      go_upto_region 14 with (fail)
      obtain ⟨w8, hw8⟩ : ∃ w8, w8 = w7.setCell ⟨X, 1, none⟩ (.slice (some ⟨b, off, none⟩) m cb) := ⟨_, rfl⟩
      rw [← hw8]
      have b17 : Below w1.heap.size w1 w7 := B12.out.trans (HB7.out.mono hs12)
      have b18 : Below w1.heap.size w1 w8 := by rw [hw8]; exact (by repeat (first | exact Below.refl _ _ | assumption | (refine Below.trans ?_ (Below.mono (by assumption) (by first | omega | (simp; done) | (simp; omega)))) | (with_reducible refine Below.drew ?_) | (with_reducible refine Below.alloc ?_ (by first | omega | (simp; done) | (simp; omega)) _) | (with_reducible refine Below.setCell ?_ (by first | omega | (simp; done) | (simp; omega)) _)))
      have x8 : w8.heap[X]? = some (.cells #[.slice Aq nq cq, .slice (some ⟨b, off, none⟩) m cb] 35 (0, 0)) := by rw [hw8]; exact heap_set_selfG HX7.out _
      have HQ8 := Lib.hid (HQ1.out.below b18)
      have HR8 := Lib.hid (RdT.take (HR1.out.below b18) (Nat.le_succ m))
      have HB8 := Lib.hid (HB01.out.trans (b18.mono hs1))
      have HG8 := Lib.hid (HG.out.below HB8.out)
      have hs8 := HB8.out.size
      clear hw8 b17 b18 k0 k1 f1
      obtain ⟨k0, k1⟩ := cells2G (lay := Below.refl _ _) x8
      have hX8 := lt_of_block x8
      clear x8
      go_wp2_with fail
      refine (HCT.out w8 HQ8.out m HR8.out HG8.out).mono ?_
      rintro e w9 ⟨rfl, b9, s9⟩
      rw [HT0.out]
      have HB9 := Lib.hid b9
      clear b9
      go_wp2_with fail
      go_ret
      exact ⟨rfl, HB8.out.trans (HB9.out.mono hs8)⟩
  · have d0 : decide (K.1 = 0) = false := decide_eq_false hk0
    have d1 : (K.1 == 0) = false := beq_eq_false_iff_ne.2 hk0
    have d2 : decide (K.1 ≤ 9) = true := decide_eq_true HK9.out
    go_wp2_with fail
    go_ret
    exact ⟨rfl, HB2.out.trans (HB6.out.mono (by omega))⟩
set_option maxRecDepth 100000 in
theorem door_fnCheck (os : Os) (args : Array Value) : laidMetH Tryd.prog Rows.fnCheckRow.laid ((World.doorLaid Tryd.prog 4000 os).forCall (fun _ _ => 0) ⟨#[], args, []⟩).memory :=
  laidMetH_of_parts3 (fuel := 10) (laidMet_of_run' 10 (by kernel_rfl) (by kernel_rfl)) (by kernel_rfl) (by kernel_rfl)
set_option maxRecDepth 100000 in
theorem lifted_fnCheck (os : Os) (started : os.Started) (H : Type) (enc : TypeId × Value → H) :
    ReturnsInHanded {} Tryd.checked os 4 .any (fun w args => (Rows.fnCheckSpec.pre enc Tryd.prog Tryd.f4 [] false w args ∧ laidMetH Tryd.prog Rows.fnCheckRow.laid w) ∧ sizedMet enc Tryd.prog Tryd.f4 (OpenSpec.ofChange Rows.fnCheckSpec) false w args)
      (Rows.fnCheckSpec.post enc Tryd.prog Tryd.f4 false true false false) := by
  refine returnsInHanded_of_change_and (C := Tryd.checked) (X := fun w _ => laidMetH Tryd.prog Rows.fnCheckRow.laid w) (fun _ _ _ hh h => h.of_heap hh) own started (by kernel_rfl) Tryd.func4
    (ChangeSpec.witness_shaped (enc := enc) (C := Tryd.checked) (os := os) (X := fun w _ => laidMetH Tryd.prog Rows.fnCheckRow.laid w) false (World.doorLaid Tryd.prog 4000 os) #[.slice none 0 0] 10 rfl (World.shaped_of_RefB (by kernel_rfl) (by kernel_rfl)) (by kernel_rfl) (by kernel_rfl) (by kernel_rfl) (door_fnCheck os _)) ?_
  intro W base args ds gs before hval0 hW _ _ hL _
  have hval : ∀ (j : Nat) t v, Tryd.f4.params[j]? = some t → args[j]? = some v → Value.okWide Tryd.prog W .any base t v := hval0
  have hW' := hW
  obtain ⟨p, q, hA0, hV, rfl, hfz, hnd⟩ := hW
  have hA : DataW.TrodAll enc Tryd.prog W 0 (fun _ => true) true Tryd.f4.params.toList args.toList ds p := hA0
  have hGN : GN W := gn_of_laid1 hL
  have hltp : ∀ x ∈ p, x.block < W.heap.size := fun x hx => hW'.lt x (by simp [hx])
  have hltq : ∀ x ∈ q, x.block < W.heap.size := fun x hx => hW'.lt x (by simp [hx])
  have key : Calls Tryd.prog 4 args W fun e W' => e = .returned (.bool true) ∧ Below W.heap.size W W' := by
    rw [Tryd.params4] at hA hval
    obtain ⟨v0, vs0, d0, ds0, p0, q0, hargs, rfl, rfl, h0, r0⟩ := trodAll_cons hA
    obtain ⟨rfl, rfl, rfl⟩ := trodAll_nil r0
    obtain rfl : args = #[v0] := by cases args; simp_all
    clear hA0 hval0 hW' hA hV hltp hltq
    obtain ⟨fuel0, hf0⟩ := h0
    obtain ⟨A, n, c, l, hv0, hnc, hcm, hl, hrd⟩ := rd_of_slice (cellsf := bcell) Tryd.underlying22 cells_byte (by decide) trod_byte bcell_len (slice_one (hval 0 22 v0 rfl rfl) Tryd.underlying22 hf0)
    subst hv0
    exact law_FCheck A n c l W hrd hl hnc hcm hGN
  refine key.mono fun e W' ⟨he, hb⟩ => ?_
  subst he
  obtain ⟨g1, hgs, hvs⟩ := vars_stay laidOut strRec hV hltq hb (by obtain ⟨_, _, _, h, _⟩ := hGN; exact h)
  subst hgs
  have hrd : (Tryd.f4.params.toList.all fun t => Tryd.prog.readableRec t && decide (t < Tryd.prog.types.size)) = true := by kernel_rfl
  have hst : ∀ sp : Nat → Bool, (∀ x ∈ p ++ q, sp x.block = true) → DataW.TrodAll enc Tryd.prog W' 0 sp true Tryd.f4.params.toList args.toList ds p := fun sp hsp => trodAll_stays (sp := sp) (W' := W') laidOut (fun t ht => by simpa using List.all_eq_true.1 hrd t ht) hA (fun x hx => hb.same (hltp x hx)) (fun x hx => hsp x (by simp [hx]))
  have hds : ds.length = 1 := by
    rw [Tryd.params4] at hA
    obtain ⟨v0, vs0, d0, ds0, p0, q0, _, rfl, rfl, h0, r0⟩ := trodAll_cons hA
    obtain ⟨_, rfl, _⟩ := trodAll_nil r0
    rfl
  clear hA hA0 hval hval0
  obtain ⟨e0, rfl⟩ : ∃ e0, ds = [e0] := by match ds, hds with | [e0], _ => exact ⟨e0, rfl⟩
  exact ⟨_, rfl, post_of_below (pa := p) (pv := q) hW' (fun _ _ _ => (trodAll_cons_mk (shut_bool Tryd.underlying4 _) trodAll_mk0)) hst (fun sp hsp => hvs sp (fun x hx => hsp x (by simp [hx]))) rfl hb (ok_one (by kernel_rfl) rfl (okWide_bool_mk Tryd.underlying4 _))⟩
theorem over_fnCheck : Rows.fnCheckRow.holds Tryd.pinned (OpenSpec.ofChange Rows.fnCheckSpec) :=
  OpenClaim.holds_of_wide 4 Tryd.f4 rfl rfl rfl rfl rfl rfl rfl ⟨rfl, rfl, rfl, rfl, rfl⟩ rfl rfl rfl rfl rfl (by kernel_rfl) Tryd.func4 (by kernel_rfl)
    (of_decide_eq_true (by kernel_rfl)) (by unfold Func.isWrapper; first | (rw [if_pos (by decide +kernel)]; kernel_rfl) | (rw [if_neg (by decide +kernel)]; exact ⟨rfl, rfl⟩))
    (fun os started H enc _ => lifted_fnCheck os started H enc)
/-- The statement: the tied card. -/
theorem fnCheck_holds : Rows.FnCheckCardSaid :=
  Claim7.holds_tied_plain_at .later [] [.data] true (true, "30c2abee178498631ace57a443689a3b337f7a84f6f688a296876958dfa781fe") false
    over_fnCheck (fun _ h => by cases h) (by kernel_rfl) (fun _ h => by cases h) fnCheck_row_tie rfl ⟨rfl, rfl⟩ (by kernel_rfl) rfl
    (fun f fn hf hfn => by
      obtain rfl : f = 4 := Option.some.inj ((show Tryd.prog.funcNamed "loop.example/g00506/laws.FnCheck" = some 4 by kernel_rfl).symm.trans hf) |>.symm
      obtain rfl : fn = Tryd.f4 := (Option.some.inj (Tryd.func4.symm.trans hfn)).symm
      exact ⟨by kernel_rfl, fun j t ht => by
        have hall : (Tryd.f4.params.toList.all fun u => !Tryd.prog.wantsStandIn u) = true := by kernel_rfl
        have hm : t ∈ Tryd.f4.params.toList := by simpa using Array.mem_of_getElem? ht
        exact (show Tryd.prog.wantsStandIn t = false by simpa using List.all_eq_true.1 hall t hm)⟩)
    (by kernel_rfl)
end Go.Proofs.YtbamjfbfipkioaaDoor
