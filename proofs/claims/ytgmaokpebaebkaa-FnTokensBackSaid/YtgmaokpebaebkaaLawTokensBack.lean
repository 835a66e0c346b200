/- Formatting and tokenizing again gives the same tokens: for every code. -/
import Derived.Test.YtgmaokpebaebkaaFrame
import Derived.Test.YtgmaokpebaebkaaDstr
import Derived.Test.YtgmaokpebaebkaaBytes
import Derived.Test.YtgmaokpebaebkaaBig
namespace Go.Proofs.Ytgmaokpebaebkaa
open Go.ChangeShapes Go.WideShapes Go.ChangeAt Go.RowKit
set_option linter.unusedVariables false
set_option maxRecDepth 100000 in
set_option maxHeartbeats 1000000 in
theorem sameTokens_same (A A' : Option Addr) (n c c' : Nat) (l : List Tk) (w : World) (hl : l.length = n) (hn : n ≤ 1099511627776) (h1 : Rd w 2 A n (tkcs l)) (h2 : Rd w 2 A' n (tkcs l)) :
    Calls Try.prog 10 #[.slice A n c, .slice A' n c'] w fun e w' => e = .returned (.bool true) ∧ Below w.heap.size w w' ∧ w.heap.size ≤ w'.heap.size := by
  have H1 := Lib.hid h1
  have H2 := Lib.hid h2
  have HL := Lib.hid hl
  clear h1 h2 hl
  go_enter Try.func10, Try.ntmps10
  go_wp2_with fail
  go_loopw [5] (fun i wr => ∃ k : Nat, k ≤ n ∧ i = .int .i64 k ∧ Below w.heap.size w wr) (fun i _ => n - (intOf i).toNat)
  case atStart => exact ⟨0, Nat.zero_le _, rfl, Below.refl _ _⟩
  case round =>
    obtain ⟨k, hk, rfl, hb⟩ := hrel
    by_cases hlt : k < n
    · obtain ⟨x, hx⟩ : ∃ x, l[k]? = some x := ⟨_, List.getElem?_eq_getElem (by rw [HL.out]; exact hlt)⟩
      obtain ⟨b, off, rfl, hbl, q0, q1⟩ := rd_tk (H1.out.below hb) HL.out hx
      obtain ⟨b', off', rfl, hbl', r0, r1⟩ := rd_tk (H2.out.below hb) HL.out hx
      clear hx
      go_wp2_with fail
      go_quiet (fail)
      go_wp2_with fail
      go_roundw
      case rel => exact ⟨k + 1, by omega, by go_num, below_drewN hb _⟩
      case measure => simp [intOf]; omega
    · go_wp2_with fail
      go_ret
      exact ⟨rfl, hb, hb.size⟩
theorem well_size {t : Tk} (h : wellTk t) : t.s.size ≤ 8 := by
  rcases h with ⟨_, h⟩ | ⟨_, h⟩
  · exact (wordOk_size h).2
  · rw [h]; decide
theorem tkS_small {s : ByteArray} {T : List Tk} (h : tkS s = some T) : T.length ≤ 160 ∧ ∀ t ∈ T, t.s.size ≤ 1099511627776 := by
  obtain ⟨h1, h2⟩ := tkz_well _ _ _ _ (Nat.le_refl _) h (by omega)
  exact ⟨by omega, fun t ht => by have := well_size (h1 t ht); omega⟩
theorem tkS_next (s : ByteArray) : ∃ T, tkS (ftx ((tkS s).getD [])) = some T ∧ T = (tkS s).getD [] ∧ T.length ≤ 160 ∧ (∀ t ∈ T, t.s.size ≤ 1099511627776) ∧ ((tkS s).isSome = false → T.length = 0) := by
  cases h : tkS s with
  | none => exact ⟨[], tkz_nil 0, rfl, Nat.zero_le _, (by simp : ∀ t ∈ ([] : List Tk), t.s.size ≤ 1099511627776), fun _ => rfl⟩
  | some T =>
    obtain ⟨h1, h2⟩ := tkS_small h
    exact ⟨T, tkS_back h, rfl, h1, h2, fun h => by cases h⟩
set_option maxRecDepth 100000 in
set_option maxHeartbeats 4000000 in
theorem law_TokensBack (A : Option Addr) (n c : Nat) (bs : List (Fin 256)) (w0 : World) (h : Rd w0 1 A n (bs.flatMap bcell)) (hl : bs.length = n) (hnc : n ≤ c) (hc : c ≤ maxLen) :
    Calls Try.prog 3 #[.slice A n c] w0 fun e w' => e = .returned (.bool true) ∧ Below w0.heap.size w0 w' := by
  have hn0 : n ≤ 9223372036854775807 := by simp only [maxLen] at hc; omega
  have H := Lib.hid h
  have HL := Lib.hid hl
  clear h hl
  by_cases hbig : 1048576 < n
  · have hB : decide (1048576 < n) = true := by simpa using hbig
    go_enter Try.func3, Try.ntmps3
    go_wp2_with (go_at_call 5; refine (big_law _ _ _ _ hn0).mono ?_; rintro e w' ⟨rfl, rfl⟩)
    go_ret
    exact ⟨rfl, Below.refl _ _⟩
  have hB : decide (1048576 < n) = false := by simpa using hbig
  go_enter Try.func3, Try.ntmps3
  go_wp2_with (go_at_call 5; refine (big_law _ _ _ _ hn0).mono ?_; rintro e w' ⟨rfl, rfl⟩)
  clear hB
  refine (DrawTokenize_any _ _ _ bs w0 H.out HL.out (by omega)).mono ?_
  rintro e w1 ⟨s, hs, rfl, b1⟩
  have s1 := b1.size
  obtain ⟨T, hT, hTe, hT1, hT2, hT3⟩ := tkS_next s
  have HT := Lib.hid hT
  have HTE := Lib.hid hTe
  have HT2 := Lib.hid hT2
  have HT3 := Lib.hid hT3
  clear hT hTe hT2 hT3
  go_wp2_with fail
  refine (Tokenize_impl s w1 (by omega)).mono ?_
  rintro e w2 ⟨A2, c2, T2, e2, rfl, r2, b2, s2⟩
  rw [← HTE.out] at e2
  subst e2
  go_wp2_with fail
  refine (Tokenize_spec s w2 (by omega)).mono ?_
  rintro e w3 ⟨A3, c3, T3, e3, rfl, r3, b3, s3⟩
  clear r3
  obtain ⟨ok, hok⟩ : ∃ ok, ok = (tkS s).isSome := ⟨_, rfl⟩
  rw [← hok] at HT3 ⊢
  clear hok
  have R2 := Lib.hid r2
  have E3 := Lib.hid e3
  clear r2 e3
  go_wp2_with fail
  refine (FormatTokens_impl _ _ _ T2 w3 (R2.out.below b3) rfl (by omega) HT2.out).mono ?_
  rintro e w4 ⟨rfl, b4, s4⟩
  have hz := ftx_size T2
  have HX := Lib.hid (show tkS (ftx T2) = some T2 by rw [HTE.out]; exact HT.out.trans (by rw [HTE.out]))
  obtain ⟨x, hx⟩ : ∃ x, x = ftx T2 := ⟨_, rfl⟩
  rw [← hx] at hz HX ⊢
  clear hx
  go_wp2_with fail
  refine (Tokenize_impl x w4 (by omega)).mono ?_
  rintro e w5 ⟨A5, c5, T5, e5, rfl, r5, b5, s5⟩
  rw [HX.out] at e5 ⊢
  obtain rfl : T5 = T2 := e5
  have R5 := Lib.hid r5
  clear r5
  go_wp2_with fail
  refine (sameTokens_same _ _ _ _ _ T5 w5 rfl (by omega) R5.out ((R2.out.below b3).below (b4.trans (b5.mono s4)))).mono ?_
  rintro e w6 ⟨rfl, b6, s6⟩
  have hb : Below w0.heap.size w0 w6 := (((((b1.trans (b2.mono s1)).trans (b3.mono (by omega))).trans (b4.mono (by omega))).trans (b5.mono (by omega))).trans (b6.mono (by omega)))
  have HB := Lib.hid hb
  clear hb
  cases ok
  · have h0 := HT3.out rfl
    have hz0 : ((T5.length : Int) == 0) = true := by simp [h0]
    go_wp2_with fail
    go_ret
    exact ⟨rfl, HB.out⟩
  · go_wp2_with fail
    go_ret
    exact ⟨rfl, HB.out⟩
set_option maxRecDepth 100000 in
theorem lifted_fnTokensBack (os : Os) (started : os.Started) (H : Type) (enc : TypeId × Value → H) :
    ReturnsInHanded {} Try.checked os 3 .any (Rows.fnTokensBackSpec.pre6 enc Try.prog Try.f3 Rows.fnTokensBackRow.domain false) (Rows.fnTokensBackSpec.post enc Try.prog Try.f3 false true false false) := by
  refine returnsInHanded_of_change (C := Try.checked) own started (by kernel_rfl) Try.func3
    (ChangeSpec.witness6 (enc := enc) (C := Try.checked) false ⟨#[], #[.slice none 0 0], []⟩ 8 (by kernel_rfl) (by kernel_rfl) (by kernel_rfl) (by kernel_rfl)) ?_
  intro W base args ds gs before hval0 hW hcnd _
  have hval : ∀ (j : Nat) t v, Try.f3.params[j]? = some t → args[j]? = some v → Value.okWide Try.prog W .any base t v := hval0
  have hW' := hW
  obtain ⟨p, q, hA0, hV, rfl, hfz, hnd⟩ := hW
  have hA : DataW.TrodAll enc Try.prog W 0 (fun _ => true) true Try.f3.params.toList args.toList ds p := hA0
  obtain ⟨rfl, rfl⟩ := trodVars_none hV
  have hlt : ∀ x ∈ p, x.block < W.heap.size := fun x hx => hW'.lt x (by simp [hx])
  have key : Calls Try.prog 3 args W fun e W' => e = .returned (.bool true) ∧ Below W.heap.size W W' := by
    rw [Try.params3] at hA hval
    obtain ⟨v0, vs0, d0, ds0, p0, q0, hargs, rfl, rfl, h0, r0⟩ := trodAll_cons hA
    obtain ⟨rfl, rfl, rfl⟩ := trodAll_nil r0
    obtain rfl : args = #[v0] := by cases args; simp_all
    clear hA0 hval0 hW' hA
    obtain ⟨fuel0, hf0⟩ := h0
    obtain ⟨A, n, c, l, hv0, hnc, hcm, hl, hrd⟩ := rd_of_slice (cellsf := bcell) Try.underlying22 cells_byte (by decide) trod_byte bcell_len (slice_one (hval 0 22 v0 rfl rfl) Try.underlying22 hf0)
    subst hv0
    exact law_TokensBack A n c l W hrd hl hnc hcm
  refine key.mono fun e W' ⟨he, hb⟩ => ?_
  subst he
  have hrd : (Try.f3.params.toList.all fun t => Try.prog.readableRec t && decide (t < Try.prog.types.size)) = true := by kernel_rfl
  have hst : ∀ sp : Nat → Bool, (∀ x ∈ p ++ [], sp x.block = true) → DataW.TrodAll enc Try.prog W' 0 sp true Try.f3.params.toList args.toList ds p := fun sp hsp => trodAll_stays (sp := sp) (W' := W') laidOut (fun t ht => by simpa using List.all_eq_true.1 hrd t ht) hA (fun x hx => hb.same (hlt x hx)) (fun x hx => hsp x (by simp [hx]))
  have hds : ds.length = 1 := by
    rw [Try.params3] at hA
    obtain ⟨v0, vs0, d0, ds0, p0, q0, _, rfl, rfl, h0, r0⟩ := trodAll_cons hA
    obtain ⟨_, rfl, _⟩ := trodAll_nil r0
    rfl
  clear hA hA0 hval hval0
  obtain ⟨e0, rfl⟩ : ∃ e0, ds = [e0] := by match ds, hds with | [e0], _ => exact ⟨e0, rfl⟩
  exact ⟨_, rfl, post_of_below (pa := p) (pv := []) hW' (fun _ _ _ => (trodAll_cons_mk (shut_bool Try.underlying4 _) trodAll_mk0)) hst (fun _ _ => rfl) rfl hb (ok_one (by kernel_rfl) rfl (okWide_bool_mk Try.underlying4 _))⟩
theorem over_fnTokensBack : Rows.fnTokensBackRow.holds Try.pinned (OpenSpec.ofChange Rows.fnTokensBackSpec) :=
  OpenClaim.holds_of_wide 3 Try.f3 rfl rfl rfl rfl rfl rfl rfl ⟨rfl, rfl, rfl, rfl, rfl⟩ rfl rfl rfl rfl rfl (by kernel_rfl) Try.func3 (by kernel_rfl)
    (of_decide_eq_true (by kernel_rfl)) (by unfold Func.isWrapper; first | (rw [if_pos (by decide +kernel)]; kernel_rfl) | (rw [if_neg (by decide +kernel)]; exact ⟨rfl, rfl⟩))
    (fun os started H enc _ => lifted_fnTokensBack os started H enc)
/-- The statement. -/
theorem fnTokensBack_holds : Rows.FnTokensBackSaid := over_fnTokensBack
end Go.Proofs.Ytgmaokpebaebkaa
