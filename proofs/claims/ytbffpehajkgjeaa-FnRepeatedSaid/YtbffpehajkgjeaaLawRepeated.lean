/- Repetition is iterated concatenation: for every code. -/
import Derived.Test.YtbffpehajkgjeaaFrame
import Derived.Test.YtbffpehajkgjeaaTcount
import Derived.Test.YtbffpehajkgjeaaSameOps
import Derived.Test.YtbffpehajkgjeaaOpLoops2
import Derived.Test.YtbffpehajkgjeaaDraw6
import Derived.Test.YtbffpehajkgjeaaBytes
namespace Go.Proofs.Ytbffpehajkgjeaa
open Go.ChangeShapes Go.WideShapes Go.ChangeAt Go.RowKit
set_option linter.unusedVariables false
def repq (l : List Opt) (k : Int) : List Opt := repO l (reps k)
theorem repq_len (l : List Opt) (k : Int) : (repq l k).length = reps k * l.length := rep_len l (reps k)
theorem reps_le (k : Int) : reps k ≤ 9 := by unfold reps; omega
theorem repq_le (l : List Opt) (k : Int) (h : l.length ≤ 130) : (repq l k).length ≤ 1170 := by
  rw [repq_len]
  exact Nat.mul_le_mul (reps_le k) h
theorem repq_no (l : List Opt) (k : Int) (h : k < 1) : repq l k = [] := by
  unfold repq reps
  rw [show (min k 9).toNat = 0 by omega]
  rfl
theorem repO_add (l : List Opt) (a b : Nat) : repO l a ++ repO l b = repO l (a + b) := by
  simp [repO, ← List.replicate_append_replicate]
theorem repq_split (l : List Opt) (k : Int) (h1 : 1 ≤ k) (h9 : k ≤ 9) : repq l 1 ++ repq l (k - 1) = repq l k := by
  unfold repq
  rw [repO_add]
  congr 1
  unfold reps
  omega
theorem Rep_impl (A : Option Addr) (n c : Nat) (l : List Opt) (k : Int) (w : World) (h : Rd w 8 A n (l.flatMap ocells)) (hl : l.length = n) (hn : n ≤ 1073741824) :
    Calls Try.prog 27 #[.slice A n c, .int .i64 k] w (RetRow 56 8 w (repq l k).length ((repq l k).flatMap ocells)) := by rw [repq_len, hl]; exact RepeatOps_impl A n c l k w h hl hn
theorem Rep_spec (A : Option Addr) (n c : Nat) (l : List Opt) (k : Int) (w : World) (h : Rd w 8 A n (l.flatMap ocells)) (hl : l.length = n) (hn : n ≤ 1073741824) :
    Calls Try.prog 29 #[.slice A n c, .int .i64 k] w (RetRow 56 8 w (repq l k).length ((repq l k).flatMap ocells)) := by rw [repq_len, hl]; exact RepeatOps_spec A n c l k w h hl hn
set_option maxRecDepth 100000 in
set_option maxHeartbeats 4000000 in
theorem law_Repeated (A : Option Addr) (n c : Nat) (bs : List (Fin 256)) (w0 : World) (h : Rd w0 1 A n (bs.flatMap bcell)) (hl : bs.length = n) (hnc : n ≤ c) (hc : c ≤ maxLen) :
    Calls Try.prog 5 #[.slice A n c] w0 fun e w' => e = .returned (.bool true) ∧ Below w0.heap.size w0 w' := by
  obtain ⟨i0, hi, hz0, hz1, hz2⟩ := info_parts info_OpE
  have hn0 : n ≤ 9223372036854775807 := by simp only [maxLen] at hc; omega
  have H := Lib.hid h
  have HL := Lib.hid hl
  clear h hl
  by_cases hbig : 1048576 < n
  · have hB : decide (1048576 < n) = true := by simpa using hbig
    go_enter Try.func5, Try.ntmps5
    go_wp2_with (go_at_call 25; refine (big_any _ _ _ _ hn0).mono ?_; rintro e w' ⟨rfl, rfl⟩)
    go_ret
    exact ⟨rfl, Below.refl _ _⟩
  have hB : decide (1048576 < n) = false := by simpa using hbig
  go_enter Try.func5, Try.ntmps5
  go_wp2_with (go_at_call 25; refine (big_any _ _ _ _ hn0).mono ?_; rintro e w' ⟨rfl, rfl⟩)
  clear hB
  refine (DrawRepeatOps_any _ _ _ bs w0 H.out HL.out (by omega)).mono ?_
  rintro e w1 ⟨Al, m, cl, L, k, rfl, hL, hm, ol, b1, hk⟩
  have s1 := b1.size
  have rl := rd_own ol
  have e1 := repq_le L k (by omega)
  have e2 := repq_le L 1 (by omega)
  have e3 := repq_le L (k - 1) (by omega)
  have HLL := Lib.hid hL
  clear hL
  obtain ⟨R, hR⟩ : ∃ R, R = repq L k := ⟨_, rfl⟩
  have CI := Lib.hid (fun W hr => Rep_impl Al m cl L k W hr HLL.out (by omega))
  have CS := Lib.hid (fun W hr => Rep_spec Al m cl L k W hr HLL.out (by omega))
  rw [← hR] at CI CS e1
  have HR := Lib.hid hR
  clear hR
  go_wp2_with fail
  refine (CI.out _ (rl.below (Below.refl _ _))).mono ?_
  rintro e w2 ⟨vo, rfl, oo, b2, s2⟩
  obtain ⟨Ao, co, rfl, _, _, ro⟩ := rd_of_own oo
  have oco := oo
  go_wp2_with fail
  refine (CS.out _ (rl.below (b2.mono (by omega)))).mono ?_
  rintro e w3 ⟨vs, rfl, os, b3, s3⟩
  obtain ⟨As, cs, rfl, _, _, rs⟩ := rd_of_own os
  have ocs := os
  go_wp2_with fail
  refine (sameOps_same _ _ _ _ _ R _ rfl (by omega) (ro.below (b3.mono (by omega))) (rs.below (Below.refl _ _))).mono ?_
  rintro e w4 ⟨rfl, b4, s4⟩
  by_cases hk1 : k < 1
  · have hR0 : R = [] := by rw [HR.out]; exact repq_no L k hk1
    have hl0 : R.length = 0 := by rw [hR0]; rfl
    rw [hl0] at *
    clear hR0 hl0
    go_wp2_with fail
    go_ret
    exact ⟨rfl, ((((b1.mono (by omega)).trans (b2.mono (by omega))).trans (b3.mono (by omega))).trans (b4.mono (by omega)))⟩
  by_cases hk9 : 9 < k
  · go_wp2_with fail
    go_ret
    exact ⟨rfl, ((((b1.mono (by omega)).trans (b2.mono (by omega))).trans (b3.mono (by omega))).trans (b4.mono (by omega)))⟩
  have HSP := Lib.hid (repq_split L k (by omega) (by omega))
  go_wp2_with fail
  refine (Rep_impl _ _ _ L 1 _ (rl.below (((b2.mono (by omega)).trans (b3.mono (by omega))).trans (b4.mono (by omega)))) HLL.out (by omega)).mono ?_
  rintro e w5 ⟨va, rfl, oa, b5, s5⟩
  obtain ⟨Aa, ca, rfl, _, _, ra⟩ := rd_of_own oa
  have oca := oa
  go_wp2_with fail
  refine (Rep_impl _ _ _ L (k - 1) _ (rl.below ((((b2.mono (by omega)).trans (b3.mono (by omega))).trans (b4.mono (by omega))).trans (b5.mono (by omega)))) HLL.out (by omega)).mono ?_
  rintro e w6 ⟨vb, rfl, ob, b6, s6⟩
  obtain ⟨Ab, cb, rfl, _, _, rb⟩ := rd_of_own ob
  have ocb := ob
  have oa2 := (ownsRow_below oa (b6.mono (by omega)))
  have ob2 := rb
  go_wp2_with (at_builtin; refine wpList_append_rd _ rfl _ _ 27 rfl w4.heap.size 56 i0 _ 8 64 Try.underlying27 hi hz0 hz1 hz2 rfl (by decide) _ _ _ rfl oa2 _ _ _ _ rfl ob2 (one_flat ocells_one _) ?c3 ?c4 ?c5 ?_)
  case c3 => simp only [maxLen]; omega
  case c4 => omega
  case c5 => omega
  intro vv w7 own3 gr3 _
  have b7 := grown_below (B := w4.heap.size) gr3 (by omega) (own_ge oa2)
  have s7 := gr3.size
  obtain ⟨A3, c3, rfl, _, _, r3⟩ := rd_of_own own3
  rw [← List.flatMap_append, ← List.length_append, HSP.out, ← HR.out] at r3
  have hlen3 : (repq L 1).length + (repq L (k - 1)).length = R.length := by rw [← List.length_append, HSP.out, ← HR.out]
  rw [hlen3] at *
  clear hlen3 own3 gr3 oa2 ob2
  go_wp2_with fail
  refine (sameOps_same _ _ _ _ _ R _ rfl (by omega) (ro.below (((((b3.mono (by omega)).trans (b4.mono (by omega))).trans (b5.mono (by omega))).trans (b6.mono (by omega))).trans (b7.mono (by omega)))) r3).mono ?_
  rintro e w8 ⟨rfl, b8, s8⟩
  go_wp2_with fail
  go_ret
  exact ⟨rfl, ((((((((b1.mono (by omega)).trans (b2.mono (by omega))).trans (b3.mono (by omega))).trans (b4.mono (by omega))).trans (b5.mono (by omega))).trans (b6.mono (by omega))).trans (b7.mono (by omega))).trans (b8.mono (by omega)))⟩
set_option maxRecDepth 100000 in
theorem lifted_fnRepeated (os : Os) (started : os.Started) (H : Type) (enc : TypeId × Value → H) :
    ReturnsInHanded {} Try.checked os 5 .any (Rows.fnRepeatedSpec.pre6 enc Try.prog Try.f5 Rows.fnRepeatedRow.domain false) (Rows.fnRepeatedSpec.post enc Try.prog Try.f5 false true false false) := by
  refine returnsInHanded_of_change (C := Try.checked) own started (by kernel_rfl) Try.func5
    (ChangeSpec.witness6 (enc := enc) (C := Try.checked) false ⟨#[], #[.slice none 0 0], []⟩ 8 (by kernel_rfl) (by kernel_rfl) (by kernel_rfl) (by kernel_rfl)) ?_
  intro W base args ds gs before hval0 hW hcnd _
  have hval : ∀ (j : Nat) t v, Try.f5.params[j]? = some t → args[j]? = some v → Value.okWide Try.prog W .any base t v := hval0
  have hW' := hW
  obtain ⟨p, q, hA0, hV, rfl, hfz, hnd⟩ := hW
  have hA : DataW.TrodAll enc Try.prog W 0 (fun _ => true) true Try.f5.params.toList args.toList ds p := hA0
  obtain ⟨rfl, rfl⟩ := trodVars_none hV
  have hlt : ∀ x ∈ p, x.block < W.heap.size := fun x hx => hW'.lt x (by simp [hx])
  have key : Calls Try.prog 5 args W fun e W' => e = .returned (.bool true) ∧ Below W.heap.size W W' := by
    rw [Try.params5] at hA hval
    obtain ⟨v0, vs0, d0, ds0, p0, q0, hargs, rfl, rfl, h0, r0⟩ := trodAll_cons hA
    obtain ⟨rfl, rfl, rfl⟩ := trodAll_nil r0
    obtain rfl : args = #[v0] := by cases args; simp_all
    clear hA0 hval0 hW' hA
    obtain ⟨fuel0, hf0⟩ := h0
    obtain ⟨A, n, c, l, hv0, hnc, hcm, hl, hrd⟩ := rd_of_slice (cellsf := bcell) Try.underlying40 cells_byte (by decide) trod_byte bcell_len (slice_one (hval 0 40 v0 rfl rfl) Try.underlying40 hf0)
    subst hv0
    exact law_Repeated A n c l W hrd hl hnc hcm
  refine key.mono fun e W' ⟨he, hb⟩ => ?_
  subst he
  have hrd : (Try.f5.params.toList.all fun t => Try.prog.readableRec t && decide (t < Try.prog.types.size)) = true := by kernel_rfl
  have hst : ∀ sp : Nat → Bool, (∀ x ∈ p ++ [], sp x.block = true) → DataW.TrodAll enc Try.prog W' 0 sp true Try.f5.params.toList args.toList ds p := fun sp hsp => trodAll_stays (sp := sp) (W' := W') laidOut (fun t ht => by simpa using List.all_eq_true.1 hrd t ht) hA (fun x hx => hb.same (hlt x hx)) (fun x hx => hsp x (by simp [hx]))
  have hds : ds.length = 1 := by
    rw [Try.params5] at hA
    obtain ⟨v0, vs0, d0, ds0, p0, q0, _, rfl, rfl, h0, r0⟩ := trodAll_cons hA
    obtain ⟨_, rfl, _⟩ := trodAll_nil r0
    rfl
  clear hA hA0 hval hval0
  obtain ⟨e0, rfl⟩ : ∃ e0, ds = [e0] := by match ds, hds with | [e0], _ => exact ⟨e0, rfl⟩
  exact ⟨_, rfl, post_of_below (pa := p) (pv := []) hW' (fun _ _ _ => (trodAll_cons_mk (shut_bool Try.underlying4 _) trodAll_mk0)) hst (fun _ _ => rfl) rfl hb (ok_one (by kernel_rfl) rfl (okWide_bool_mk Try.underlying4 _))⟩
theorem over_fnRepeated : Rows.fnRepeatedRow.holds Try.pinned (OpenSpec.ofChange Rows.fnRepeatedSpec) :=
  OpenClaim.holds_of_wide 5 Try.f5 rfl rfl rfl rfl rfl rfl rfl ⟨rfl, rfl, rfl, rfl, rfl⟩ rfl rfl rfl rfl rfl (by kernel_rfl) Try.func5 (by kernel_rfl)
    (of_decide_eq_true (by kernel_rfl)) (by unfold Func.isWrapper; first | (rw [if_pos (by decide +kernel)]; kernel_rfl) | (rw [if_neg (by decide +kernel)]; exact ⟨rfl, rfl⟩))
    (fun os started H enc _ => lifted_fnRepeated os started H enc)
/-- The statement. -/
theorem fnRepeated_holds : Rows.FnRepeatedSaid := over_fnRepeated
end Go.Proofs.Ytbffpehajkgjeaa
