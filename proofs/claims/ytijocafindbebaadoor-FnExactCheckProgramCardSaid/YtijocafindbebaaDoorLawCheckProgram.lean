/- The program's CheckProgram returns what the reference's returns, for every program. -/
import Derived.Test.YtijocafindbebaaDoorCard
import Derived.Test.YtijocafindbebaaDoorCkp
import Derived.Test.YtijocafindbebaaDoorPgmC
import Derived.Test.YtijocafindbebaaDoorTreeOpen
namespace Go.Proofs.YtijocafindbebaaDoor
open Go.ChangeShapes Go.WideShapes Go.ChangeAt Go.RowKit
set_option linter.unusedVariables false
theorem below_of_drew3 {w w' : World} (h : Below w.drew.heap.size w.drew w') : Below w.heap.size w w' := ⟨h.os, h.tape, h.output, h.size, h.block⟩
set_option maxRecDepth 100000 in
set_option maxHeartbeats 8000000 in
theorem law_CheckProgram (d : Nat) (qs : List ByteArray) (l : List (Tr d)) (Aq : Option Addr) (cq : Nat) (Ab : Option Addr) (nb cb : Nat) (w : World) (rA : Rd w 1 Aq qs.length (strs qs)) (rB : RdT w 0 d Ab nb l) (hG : GN w) (hml : qs.length ≤ 9223372036854775807) (hqz : ∀ a ∈ qs, a.size ≤ 9223372036854775807) (hok : OkT d l) :
    Calls Tryd.prog 8 #[.agg #[.slice Aq qs.length cq, .slice Ab nb cb]] w fun e w' => e = .returned (.bool true) ∧ Below w.heap.size w w' := by
  by_cases hbig : subSz 1048576 (qs.length + szS qs + szT d l) < 0
  · have b0 : Below w.heap.size w (w.alloc (.cells #[.slice Aq qs.length cq, .slice Ab nb cb] 35)) := (by repeat (first | exact Below.refl _ _ | assumption | (refine Below.trans ?_ (Below.mono (by assumption) (by first | omega | (simp; done) | (simp; omega)))) | (with_reducible refine Below.drew ?_) | (with_reducible refine Below.alloc ?_ (by first | omega | (simp; done) | (simp; omega)) _) | (with_reducible refine Below.setCell ?_ (by first | omega | (simp; done) | (simp; omega)) _)))
    have HA := Lib.hid (rA.below b0)
    have HBd := Lib.hid (rB.below b0)
    have B0 := Lib.hid b0
    have HZ := Lib.hid hqz
    clear rA rB b0 hqz
    go_enter Tryd.func8, Tryd.ntmps8
    go_wp2_with fail
    refine (szProgram_any d _ _ _ _ qs l _ _ _ _ _ HA.out HBd.out rfl hml HZ.out hok (by omega) (by omega)).mono ?_
    rintro e w1 ⟨rfl, b1, s1⟩
    go_wp2_with fail
    go_ret
    exact ⟨rfl, B0.out.trans (b1.mono (by simp))⟩
  have hn0 := subSz_le hbig
  have hn : szT d l ≤ 1048576 := by omega
  have hmn : qs.length ≤ 1048576 := by omega
  have hmz : szS qs ≤ 1048576 := by omega
  have HCS := Lib.hid (fun Aq cq Ab nb cb w lo lo' ra hc rb => CheckProgram_spec d lo lo' Aq cq qs l Ab nb cb w ra hc rb hmn hmz hn)
  have HCI := Lib.hid (fun Aq cq Ab nb cb w lo lo' ra hc rb hG => CheckProgram_impl d lo lo' Aq cq qs l Ab nb cb w ra hc rb hG hmn hmz hn)
  obtain ⟨T, hT⟩ : ∃ T, T = ckP d qs l := ⟨_, rfl⟩
  rw [← hT] at HCS HCI
  clear hT
  have HZ := Lib.hid hqz
  clear hqz
  go_enter Tryd.func8, Tryd.ntmps8
  go_wp2_with fail
  obtain ⟨w0, hw0⟩ : ∃ w0, w0 = (World.alloc w (.cells #[.slice Aq qs.length cq, .slice Ab nb cb] 35)) := ⟨_, rfl⟩
  rw [← hw0]
  have b0 : Below w.heap.size w w0 := by rw [hw0]; exact (by repeat (first | exact Below.refl _ _ | assumption | (refine Below.trans ?_ (Below.mono (by assumption) (by first | omega | (simp; done) | (simp; omega)))) | (with_reducible refine Below.drew ?_) | (with_reducible refine Below.alloc ?_ (by first | omega | (simp; done) | (simp; omega)) _) | (with_reducible refine Below.setCell ?_ (by first | omega | (simp; done) | (simp; omega)) _)))
  have s0 : w.heap.size + 1 = w0.heap.size := by rw [hw0]; simp
  have x0_0 : w0.heap[w.heap.size]? = some (.cells #[.slice Aq qs.length cq, .slice Ab nb cb] 35 (0, 0)) := by rw [hw0]; exact boxed1_0 _ _
  have X0_0 := Lib.hid x0_0
  clear x0_0
  have S0 : w.heap.size ≤ w0.heap.size := by omega
  clear hw0
  have rA := rA.below b0
  have rB := rB.below b0
  have hG := hG.below b0
  refine (szProgram_any d _ _ _ _ qs l _ _ _ _ _ rA rB rfl hml HZ.out hok (by omega) (by omega)).mono ?_
  rintro e w1 ⟨rfl, b1, s1⟩
  obtain ⟨bx1_0, bx1_1⟩ := boxcells2 (lay := (b1.mono (by omega))) X0_0.out
  have lt1 : w.heap.size < w1.heap.size := by omega
  go_wp2_with fail
  clear bx1_0 bx1_1 lt1
  refine (toProgram_c d _ _ _ _ qs l _ _ _ _ (rA.below (b1.mono (by omega))) (rB.below (b1.mono (by omega))) rfl hmn hn).mono ?_
  rintro e w2 ⟨At, ct, Bt, dt, rfl, rat, rbt, b2, s2, hct⟩
  have HCt := Lib.hid hct
  clear hct
  go_wp2_with fail
  refine (HCS.out _ _ _ _ _ _ _ _ (rat.below (Below.refl _ _)) HCt.out (rbt.below (Below.refl _ _))).mono ?_
  rintro e w3 ⟨rfl, b3, s3⟩
  obtain ⟨bx2_0, bx2_1⟩ := boxcells2 (lay := (((b1.mono (by omega)).trans (b2.mono (by omega))).trans (b3.mono (by omega)))) X0_0.out
  have lt2 : w.heap.size < w3.heap.size := by omega
  go_wp2_with fail
  clear bx2_0 bx2_1 lt2
  refine (toProgram_c d _ _ _ _ qs l _ _ _ _ (rA.below (((b1.mono (by omega)).trans (b2.mono (by omega))).trans (b3.mono (by omega)))) (rB.below (((b1.mono (by omega)).trans (b2.mono (by omega))).trans (b3.mono (by omega)))) rfl hmn hn).mono ?_
  rintro e w4 ⟨Ax, cx, Bx, dx, rfl, rax, rbx, b4, s4, hcx⟩
  have HCx := Lib.hid hcx
  clear hcx
  go_wp2_with fail
  obtain ⟨w5, hw5⟩ : ∃ w5, w5 = w4.alloc (.cells #[.slice Ax qs.length cx, .slice Bx nb dx] 39) := ⟨_, rfl⟩
  rw [← hw5]
  have b5 : Below w4.heap.size w4 w5 := by rw [hw5]; exact (by repeat (first | exact Below.refl _ _ | assumption | (refine Below.trans ?_ (Below.mono (by assumption) (by first | omega | (simp; done) | (simp; omega)))) | (with_reducible refine Below.drew ?_) | (with_reducible refine Below.alloc ?_ (by first | omega | (simp; done) | (simp; omega)) _) | (with_reducible refine Below.setCell ?_ (by first | omega | (simp; done) | (simp; omega)) _)))
  have s5 : w4.heap.size + 1 = w5.heap.size := by rw [hw5]; simp
  have Xx := Lib.hid (show w5.heap[w4.heap.size]? = some (.cells #[.slice Ax qs.length cx, .slice Bx nb dx] 39 (0, 0)) by rw [hw5]; exact boxed1_0 _ _)
  have s5' := s5
  clear hw5
  refine (HCI.out _ _ _ _ _ _ _ _ (rax.below (b5.mono (by omega))) HCx.out (rbx.below (b5.mono (by omega))) (hG.below (((((b1.mono (by omega)).trans (b2.mono (by omega))).trans (b3.mono (by omega))).trans (b4.mono (by omega))).trans (b5.mono (by omega))))).mono ?_
  rintro e w6 ⟨rfl, b6, s6⟩
  go_wp2_with fail
  obtain ⟨bx3_0, bx3_1⟩ := boxcells2 (lay := (b6.mono (by omega))) Xx.out
  have lt3 : w4.heap.size < w6.heap.size := by omega
  obtain ⟨bx4_0, bx4_1⟩ := boxcells2 (lay := ((((((b1.mono (by omega)).trans (b2.mono (by omega))).trans (b3.mono (by omega))).trans (b4.mono (by omega))).trans (b5.mono (by omega))).trans (b6.mono (by omega)))) X0_0.out
  have lt4 : w.heap.size < w6.heap.size := by omega
  have rrA := rA.below ((((((b1.mono (by omega)).trans (b2.mono (by omega))).trans (b3.mono (by omega))).trans (b4.mono (by omega))).trans (b5.mono (by omega))).trans (b6.mono (by omega)))
  have rrB := rB.below ((((((b1.mono (by omega)).trans (b2.mono (by omega))).trans (b3.mono (by omega))).trans (b4.mono (by omega))).trans (b5.mono (by omega))).trans (b6.mono (by omega)))
  have rvA := (rax.below ((b5.mono (by omega)).trans (b6.mono (by omega))))
  have rvB := (rbx.below ((b5.mono (by omega)).trans (b6.mono (by omega))))
  have lvf : Below w5.heap.size w5 w6 := (b6.mono (by omega))
  have lbf : Below w0.heap.size w0 w6 := ((((((b1.mono (by omega)).trans (b2.mono (by omega))).trans (b3.mono (by omega))).trans (b4.mono (by omega))).trans (b5.mono (by omega))).trans (b6.mono (by omega)))
  have zvf : w5.heap.size ≤ w6.heap.size := by omega
  have zbf : w0.heap.size ≤ w6.heap.size := by omega
  go_region_held3 (fun W => W.cell? ⟨w4.heap.size, 0, none⟩ = some (.slice Ax qs.length cx) ∧ W.cell? ⟨w4.heap.size, 1, none⟩ = some (.slice Bx nb dx) ∧ W.cell? ⟨w.heap.size, 0, none⟩ = some (.slice Aq qs.length cq) ∧ W.cell? ⟨w.heap.size, 1, none⟩ = some (.slice Ab nb cb)) (first | exact ⟨bx3_0, bx3_1, bx4_0, bx4_1⟩ | exact ⟨fpa0, fpa1, fpb0, fpb1⟩ | exact ⟨fqa0, fqa1, fqb0, fqb1⟩) (first | (go_at_call 19; (with_reducible refine (toProgram_any d _ _ _ _ qs l _ _ _ _ (Rd.drew rrA) (RdT.drew rrB) rfl hmn hn).mono ?_); rintro e w7 ⟨Af, cf, Bf, df, rfl, raf, rbf, btf, stf⟩; have b7 := below_of_drew3 btf; have s7 := b7.size; obtain ⟨fpa0, fpa1⟩ := boxcells2 (lay := lvf.trans (b7.mono zvf)) Xx.out; obtain ⟨fpb0, fpb1⟩ := boxcells2 (lay := lbf.trans (b7.mono zbf)) X0_0.out) | (go_at_call 21; (with_reducible refine (eqProgram_any d _ _ _ _ qs l _ _ _ _ _ _ _ _ _ (rvA.below b7).rd (rvB.below b7) raf.rd rbf rfl hmn hn).mono ?_); rintro e w8 ⟨rfl, b8, s8⟩; obtain ⟨fqa0, fqa1⟩ := boxcells2 (lay := lvf.trans ((b7.mono zvf).trans (b8.mono (by omega)))) Xx.out; obtain ⟨fqb0, fqb1⟩ := boxcells2 (lay := lbf.trans ((b7.mono zbf).trans (b8.mono (by omega)))) X0_0.out))
  clear bx3_0 bx3_1 lt3 bx4_0 bx4_1 lt4
  all_goals (try clear fpa0 fpa1 fpb0 fpb1 fqa0 fqa1 fqb0 fqb1)
  go_wp2_with fail
  go_ret
  exact ⟨rfl, ((((((((b0.trans (b1.mono (by omega))).trans (b2.mono (by omega))).trans (b3.mono (by omega))).trans (b4.mono (by omega))).trans (b5.mono (by omega))).trans (b6.mono (by omega))).trans (b7.mono (by omega))).trans (b8.mono (by omega)))⟩
set_option maxRecDepth 100000 in
theorem door_fnExactCheckProgram (os : Os) (args : Array Value) : laidMetH Tryd.prog Rows.fnExactCheckProgramRow.laid ((World.doorLaid Tryd.prog 4000 os).forCall (fun _ _ => 0) ⟨#[], args, []⟩).memory :=
  laidMetH_of_parts3 (fuel := 10) (laidMet_of_run' 10 (by kernel_rfl) (by kernel_rfl)) (by kernel_rfl) (by kernel_rfl)
set_option maxRecDepth 100000 in
theorem lifted_fnExactCheckProgram (os : Os) (started : os.Started) (H : Type) (enc : TypeId × Value → H) :
    ReturnsInHanded {} Tryd.checked os 8 .any (fun w args => (Rows.fnExactCheckProgramSpec.pre enc Tryd.prog Tryd.f8 [] false w args ∧ laidMetH Tryd.prog Rows.fnExactCheckProgramRow.laid w) ∧ sizedMet enc Tryd.prog Tryd.f8 (OpenSpec.ofChange Rows.fnExactCheckProgramSpec) false w args)
      (Rows.fnExactCheckProgramSpec.post enc Tryd.prog Tryd.f8 false true false false) := by
  refine returnsInHanded_of_change_and (C := Tryd.checked) (X := fun w _ => laidMetH Tryd.prog Rows.fnExactCheckProgramRow.laid w) (fun _ _ _ hh h => h.of_heap hh) own started (by kernel_rfl) Tryd.func8
    (ChangeSpec.witness_shaped (enc := enc) (C := Tryd.checked) (os := os) (X := fun w _ => laidMetH Tryd.prog Rows.fnExactCheckProgramRow.laid w) false (World.doorLaid Tryd.prog 4000 os) #[.agg #[.slice none 0 0, .slice none 0 0]] 10 rfl (World.shaped_of_RefB (by kernel_rfl) (by kernel_rfl)) (by kernel_rfl) (by kernel_rfl) (by kernel_rfl) (door_fnExactCheckProgram os _)) ?_
  intro W base args ds gs before hval0 hW _ _ hL _
  have hval : ∀ (j : Nat) t v, Tryd.f8.params[j]? = some t → args[j]? = some v → Value.okWide Tryd.prog W .any base t v := hval0
  have hW' := hW
  obtain ⟨p, q, hA0, hV, rfl, hfz, hnd⟩ := hW
  have hA : DataW.TrodAll enc Tryd.prog W 0 (fun _ => true) true Tryd.f8.params.toList args.toList ds p := hA0
  have hGN : GN W := gn_of_laid1 hL
  have hltp : ∀ x ∈ p, x.block < W.heap.size := fun x hx => hW'.lt x (by simp [hx])
  have hltq : ∀ x ∈ q, x.block < W.heap.size := fun x hx => hW'.lt x (by simp [hx])
  have key : Calls Tryd.prog 8 args W fun e W' => e = .returned (.bool true) ∧ Below W.heap.size W W' := by
    rw [Tryd.params8] at hA hval
    obtain ⟨v0, vs0, d0, ds0, p0, q0, hargs, rfl, rfl, h0, r0⟩ := trodAll_cons hA
    obtain ⟨rfl, rfl, rfl⟩ := trodAll_nil r0
    obtain rfl : args = #[v0] := by cases args; simp_all
    clear hA0 hval0 hW' hA hV hltp hltq
    obtain ⟨u0, u1, y0, y1, ma, rfl, _, _, hy0, hy1⟩ := Joins.open_agg2 Tryd.underlying35 (by kernel_rfl) (show Tryd.prog.cellsOf 35 = 2 by kernel_rfl) (hval 0 35 v0 rfl rfl) h0
    obtain ⟨Aq, cq, qs, rfl, hql, hqz, hra⟩ := open_strings hy0
    obtain ⟨Ab, nb, cb, l, rfl, _, _, hrb, hok⟩ := open_stmts ma ma (Nat.le_refl _) _ _ hy1
    exact law_CheckProgram _ qs l Aq cq Ab nb cb W hra hrb hGN hql hqz hok
  refine key.mono fun e W' ⟨he, hb⟩ => ?_
  subst he
  obtain ⟨g1, hgs, hvs⟩ := vars_stay laidOut strRec hV hltq hb (by obtain ⟨_, _, _, h, _⟩ := hGN; exact h)
  subst hgs
  have hrd : (Tryd.f8.params.toList.all fun t => Tryd.prog.readableRec t && decide (t < Tryd.prog.types.size)) = true := by kernel_rfl
  have hst : ∀ sp : Nat → Bool, (∀ x ∈ p ++ q, sp x.block = true) → DataW.TrodAll enc Tryd.prog W' 0 sp true Tryd.f8.params.toList args.toList ds p := fun sp hsp => trodAll_stays (sp := sp) (W' := W') laidOut (fun t ht => by simpa using List.all_eq_true.1 hrd t ht) hA (fun x hx => hb.same (hltp x hx)) (fun x hx => hsp x (by simp [hx]))
  have hds : ds.length = 1 := by
    rw [Tryd.params8] at hA
    obtain ⟨v0, vs0, d0, ds0, p0, q0, _, rfl, rfl, h0, r0⟩ := trodAll_cons hA
    obtain ⟨_, rfl, _⟩ := trodAll_nil r0
    rfl
  clear hA hA0 hval hval0
  obtain ⟨e0, rfl⟩ : ∃ e0, ds = [e0] := by match ds, hds with | [e0], _ => exact ⟨e0, rfl⟩
  exact ⟨_, rfl, post_of_below (pa := p) (pv := q) hW' (fun _ _ _ => (trodAll_cons_mk (shut_bool Tryd.underlying4 _) trodAll_mk0)) hst (fun sp hsp => hvs sp (fun x hx => hsp x (by simp [hx]))) rfl hb (ok_one (by kernel_rfl) rfl (okWide_bool_mk Tryd.underlying4 _))⟩
theorem over_fnExactCheckProgram : Rows.fnExactCheckProgramRow.holds Tryd.pinned (OpenSpec.ofChange Rows.fnExactCheckProgramSpec) :=
  OpenClaim.holds_of_wide 8 Tryd.f8 rfl rfl rfl rfl rfl rfl rfl ⟨rfl, rfl, rfl, rfl, rfl⟩ rfl rfl rfl rfl rfl (by kernel_rfl) Tryd.func8 (by kernel_rfl)
    (of_decide_eq_true (by kernel_rfl)) (by unfold Func.isWrapper; first | (rw [if_pos (by decide +kernel)]; kernel_rfl) | (rw [if_neg (by decide +kernel)]; exact ⟨rfl, rfl⟩))
    (fun os started H enc _ => lifted_fnExactCheckProgram os started H enc)
/-- The statement: the tied card. -/
theorem fnExactCheckProgram_holds : Rows.FnExactCheckProgramCardSaid :=
  Claim7.holds_tied_plain_at .later [] [.data] true (true, "6ccffde7702128554c8239359ea002d72e01e5902717307667f803019016a2bc") false
    over_fnExactCheckProgram (fun _ h => by cases h) (by kernel_rfl) (fun _ h => by cases h) fnExactCheckProgram_row_tie rfl ⟨rfl, rfl⟩ (by kernel_rfl) rfl
    (fun f fn hf hfn => by
      obtain rfl : f = 8 := Option.some.inj ((show Tryd.prog.funcNamed "loop.example/g00506/laws.FnExactCheckProgram" = some 8 by kernel_rfl).symm.trans hf) |>.symm
      obtain rfl : fn = Tryd.f8 := (Option.some.inj (Tryd.func8.symm.trans hfn)).symm
      exact ⟨by kernel_rfl, fun j t ht => by
        have hall : (Tryd.f8.params.toList.all fun u => !Tryd.prog.wantsStandIn u) = true := by kernel_rfl
        have hm : t ∈ Tryd.f8.params.toList := by simpa using Array.mem_of_getElem? ht
        exact (show Tryd.prog.wantsStandIn t = false by simpa using List.all_eq_true.1 hall t hm)⟩)
    (by kernel_rfl)
end Go.Proofs.YtijocafindbebaaDoor
