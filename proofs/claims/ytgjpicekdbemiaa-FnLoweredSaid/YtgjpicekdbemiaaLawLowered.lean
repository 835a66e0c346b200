/- Decomposition preserves the operation exactly and yields basic gates only: for every code. -/
import Derived.Test.YtgjpicekdbemiaaFrame
import Derived.Test.YtgjpicekdbemiaaTcount
import Derived.Test.YtgjpicekdbemiaaBytes
import Derived.Test.YtgjpicekdbemiaaLowP
namespace Go.Proofs.Ytgjpicekdbemiaa
open Go.ChangeShapes Go.WideShapes Go.ChangeAt Go.RowKit
set_option linter.unusedVariables false
set_option maxRecDepth 100000 in
set_option maxHeartbeats 8000000 in
theorem law_Lowered (A : Option Addr) (n c : Nat) (bs : List (Fin 256)) (w0 : World) (h : Rd w0 1 A n (bs.flatMap bcell)) (hl : bs.length = n) (hnc : n ≤ c) (hc : c ≤ maxLen) :
    Calls Try.prog 3 #[.slice A n c] w0 fun e w' => e = .returned (.bool true) ∧ Below w0.heap.size w0 w' := by
  have hn0 : n ≤ 9223372036854775807 := by simp only [maxLen] at hc; omega
  have H := Lib.hid h
  have HL := Lib.hid hl
  clear h hl
  by_cases hbig : 1048576 < n
  · have hB : decide (1048576 < n) = true := by simpa using hbig
    go_enter Try.func3, Try.ntmps3
    go_wp2_with (go_at_call 4; refine (big_any _ _ _ _ hn0).mono ?_; rintro e w' ⟨rfl, rfl⟩)
    go_ret
    exact ⟨rfl, Below.refl _ _⟩
  have hB : decide (1048576 < n) = false := by simpa using hbig
  go_enter Try.func3, Try.ntmps3
  go_wp2_with (go_at_call 4; refine (big_any _ _ _ _ hn0).mono ?_; rintro e w' ⟨rfl, rfl⟩)
  clear hB
  refine (DrawDecomposeGates_any _ _ _ bs w0 H.out HL.out (by omega)).mono ?_
  rintro e w1 ⟨Ag, ng, cg, L, rfl, hL, hng, hh, own1, b1⟩
  have R1 := Lib.hid (rd_own own1)
  have HLL := Lib.hid hL
  have HH := Lib.hid hh
  have B1 := Lib.hid b1
  have hdl := dgates_le L
  obtain ⟨nd, hnd⟩ : ∃ nd, nd = (L.flatMap dgate).length := ⟨_, rfl⟩
  have HND := Lib.hid hnd
  have hnd2 : nd ≤ 1050 := by rw [hnd]; rw [hL] at hdl; omega
  have CI := Lib.hid (DecomposeGates_impl Ag ng cg L w1 R1.out HLL.out (by omega))
  rw [← hnd] at CI
  clear hL hh own1 b1 hnd hdl
  go_wp2_with fail
  refine CI.out.mono ?_
  rintro e w2 ⟨v2, rfl, own2, hb2, hs2⟩
  obtain ⟨Ao, co, rfl, _, _, r2⟩ := rd_of_own own2
  have RL2 := Lib.hid (R1.out.below hb2)
  have RO2 := Lib.hid r2
  have B2 := Lib.hid (B1.out.trans (hb2.mono B1.out.size))
  have CS := Lib.hid (DecomposeGates_spec Ag ng cg L w2 RL2.out HLL.out (by omega))
  rw [← HND.out] at CS
  clear own2 hb2 r2 CI
  go_wp2_with fail
  refine CS.out.mono ?_
  rintro e w3 ⟨v3, rfl, own3, hb3, hs3⟩
  obtain ⟨As, cs, rfl, _, _, r3⟩ := rd_of_own own3
  have RL3 := Lib.hid (RL2.out.below hb3)
  have RO3 := Lib.hid (RO2.out.below hb3)
  have B3 := Lib.hid (B2.out.trans (hb3.mono B2.out.size))
  have HS := Lib.hid (sameGates_same Ao As nd co cs (L.flatMap dgate) w3 HND.out.symm (by omega) RO3.out r3)
  clear own3 hb3 r3 CS
  go_wp2_with fail
  refine HS.out.mono ?_
  rintro e w4 ⟨rfl, hb4, hs4⟩
  have RL4 := Lib.hid (RL3.out.below hb4)
  have RO4 := Lib.hid (RO3.out.below hb4)
  have B4 := Lib.hid (B3.out.trans (hb4.mono B3.out.size))
  clear hb4 HS
  go_wp2_with fail
  go_loopw [5] (fun i wr => ∃ t : Nat, t ≤ ng ∧ i = .int .i64 t ∧ (∀ j g, j < t → L[j]? = some g → validG g 3 = true) ∧ Below w4.heap.size w4 wr) (fun i _ => ng - (intOf i).toNat)
  case atStart => exact ⟨0, Nat.zero_le _, rfl, fun j g h => by omega, Below.refl _ _⟩
  case round =>
    obtain ⟨t, ht, rfl, hval, hb⟩ := hrel
    have HVAL := Lib.hid hval
    clear hval
    by_cases hlt : t < ng
    · obtain ⟨g, hgt⟩ : ∃ g, L[t]? = some g := ⟨_, List.getElem?_eq_getElem (by rw [HLL.out]; exact hlt)⟩
      obtain ⟨b, off, rfl, _, hcc⟩ := (RL4.out.below hb).2 (by omega)
      have q0 := hcc (t * 4 + 0) _ (flat_at gcells_length L t g 0 hgt (by decide))
      have q1 := hcc (t * 4 + 1) _ (flat_at gcells_length L t g 1 hgt (by decide))
      have q2 := hcc (t * 4 + 2) _ (flat_at gcells_length L t g 2 hgt (by decide))
      have q3 := hcc (t * 4 + 3) _ (flat_at gcells_length L t g 3 hgt (by decide))
      rw [← Nat.add_assoc] at q0 q1 q2 q3
      rw [Nat.add_zero] at q0
      have HGT := Lib.hid hgt
      obtain ⟨vb, hvb⟩ : ∃ vb, vb = validG ⟨g.k, g.a, g.b, g.c⟩ 3 := ⟨_, rfl⟩
      have HVB := Lib.hid hvb
      have HV := Lib.hid (hvb ▸ IsValidGate_spec g.k g.a g.b g.c 3 wr)
      clear hcc hgt hvb
      go_wp2_with fail
      refine HV.out.mono ?_
      rintro e w5 ⟨rfl, hb5, hs5⟩
      have b5 := hb.trans (hb5.mono hb.size)
      clear HV hb5 q0 q1 q2 q3
      cases vb
      · have FIN := Lib.hid (show Below w0.heap.size w0 w5 from B4.out.trans (b5.mono B4.out.size))
        go_wp2_with fail
        go_ret
        exact ⟨rfl, FIN.out⟩
      · go_wp2_with fail
        go_roundw
        case rel =>
          refine ⟨t + 1, by omega, by go_num, fun j g' hj hg' => ?_, b5⟩
          by_cases hjt : j < t
          · exact HVAL.out j g' hjt hg'
          · obtain rfl : j = t := by omega
            rw [HGT.out] at hg'
            injection hg' with hg'
            subst hg'
            exact HVB.out.symm
        case measure => simp [intOf]; omega
    · obtain rfl : t = ng := by omega
      have hv : ∀ g ∈ L, validG g 3 = true := fun g hg => by
        obtain ⟨j, hj⟩ := List.getElem?_of_mem hg
        exact HVAL.out j g (by have := (List.getElem?_eq_some_iff.1 hj).1; rw [HLL.out] at this; exact this) hj
      have RL5 := Lib.hid (RL4.out.below hb)
      have RO5 := Lib.hid (RO4.out.below hb)
      have B5 := Lib.hid (B4.out.trans (hb.mono B4.out.size))
      have HBAS := Lib.hid (basic_all hv)
      have HSAME := Lib.hid (low_same L hv HH.out)
      obtain ⟨w5, rfl⟩ : ∃ w5 : World, w5 = wr := ⟨_, rfl⟩
      clear hv HVAL hb RL4 RO4
      go_wp2_with fail
      go_loopw [6] (fun i wr => ∃ u : Nat, u ≤ nd ∧ i = .int .i64 u ∧ Below w5.heap.size w5 wr) (fun i _ => nd - (intOf i).toNat)
      case atStart => exact ⟨0, Nat.zero_le _, rfl, Below.refl _ _⟩
      case round =>
        obtain ⟨u, hu, rfl, hb⟩ := hrel
        by_cases hlu : u < nd
        · obtain ⟨g, hgt⟩ : ∃ g, (L.flatMap dgate)[u]? = some g := ⟨_, List.getElem?_eq_getElem (by rw [← HND.out]; exact hlu)⟩
          obtain ⟨b, off, rfl, _, hcc⟩ := (RO5.out.below hb).2 (by omega)
          have q0 := hcc (u * 4 + 0) _ (flat_at gcells_length _ u g 0 hgt (by decide))
          have q1 := hcc (u * 4 + 1) _ (flat_at gcells_length _ u g 1 hgt (by decide))
          have q2 := hcc (u * 4 + 2) _ (flat_at gcells_length _ u g 2 hgt (by decide))
          have q3 := hcc (u * 4 + 3) _ (flat_at gcells_length _ u g 3 hgt (by decide))
          rw [← Nat.add_assoc] at q0 q1 q2 q3
          rw [Nat.add_zero] at q0
          have HI := Lib.hid ((HBAS.out g (List.mem_of_getElem? hgt)) ▸ IsBasicGate_any g.k g.a g.b g.c wr)
          clear hcc hgt
          go_wp2_with fail
          refine HI.out.mono ?_
          rintro e w6 ⟨rfl, hb6, hs6⟩
          have b6 := hb.trans (hb6.mono hb.size)
          clear HI hb6 q0 q1 q2 q3
          go_wp2_with fail
          go_roundw
          case rel => exact ⟨u + 1, by omega, by go_num, b6⟩
          case measure => simp [intOf]; omega
        · obtain rfl : u = nd := by omega
          have HAP := Lib.hid (apart_t (outP L) Ao u co (L.flatMap dgate) Ag t cg L wr (RO5.out.below hb) HND.out.symm (by omega) (RL5.out.below hb) HLL.out (by omega) (fun i hi => HSAME.out i hi))
          have B6 := Lib.hid (B5.out.trans (hb.mono B5.out.size))
          clear hb
          go_wp2_with fail
          refine HAP.out.mono ?_
          rintro e w6 ⟨rfl, hb6, hs6⟩
          have FIN := Lib.hid (show Below w0.heap.size w0 w6 from B6.out.trans (hb6.mono B6.out.size))
          clear hb6 hs6
          go_wp2_with fail
          go_ret
          exact ⟨rfl, FIN.out⟩
set_option maxRecDepth 100000 in
theorem lifted_fnLowered (os : Os) (started : os.Started) (H : Type) (enc : TypeId × Value → H) :
    ReturnsInHanded {} Try.checked os 3 .any (Rows.fnLoweredSpec.pre6 enc Try.prog Try.f3 Rows.fnLoweredRow.domain false) (Rows.fnLoweredSpec.post enc Try.prog Try.f3 false true false false) := by
  refine returnsInHanded_of_change (C := Try.checked) own started (by kernel_rfl) Try.func3
    (ChangeSpec.witness6 (enc := enc) (C := Try.checked) false ⟨#[], #[.slice none 0 0], []⟩ 8 (by kernel_rfl) (by kernel_rfl) (by kernel_rfl) (by kernel_rfl)) ?_
  intro W base args ds gs before hval0 hW hcnd _
  have hval : ∀ (j : Nat) t v, Try.f3.params[j]? = some t → args[j]? = some v → Value.okWide Try.prog W .any base t v := hval0
  have hW' := hW
  obtain ⟨p, q, hA0, hV, rfl, hfz, hnd⟩ := hW
  have hA : DataW.TrodAll enc Try.prog W 0 (fun _ => true) true Try.f3.params.toList args.toList ds p := hA0
  obtain ⟨rfl, rfl⟩ := trodVars_none hV
  have hlt : ∀ x ∈ p, x.block < W.heap.size := fun x hx => hW'.lt x (by simp [hx])
  have key : Calls Try.prog 3 args W fun e W' => e = .returned (.bool true) ∧ Below W.heap.size W W' := by
    rw [Try.params3] at hA hval
    obtain ⟨v0, vs0, d0, ds0, p0, q0, hargs, rfl, rfl, h0, r0⟩ := trodAll_cons hA
    obtain ⟨rfl, rfl, rfl⟩ := trodAll_nil r0
    obtain rfl : args = #[v0] := by cases args; simp_all
    clear hA0 hval0 hW' hA
    obtain ⟨fuel0, hf0⟩ := h0
    obtain ⟨A, n, c, l, hv0, hnc, hcm, hl, hrd⟩ := rd_of_slice (cellsf := bcell) Try.underlying22 cells_byte (by decide) trod_byte bcell_len (slice_one (hval 0 22 v0 rfl rfl) Try.underlying22 hf0)
    subst hv0
    exact law_Lowered A n c l W hrd hl hnc hcm
  refine key.mono fun e W' ⟨he, hb⟩ => ?_
  subst he
  have hrd : (Try.f3.params.toList.all fun t => Try.prog.readableRec t && decide (t < Try.prog.types.size)) = true := by kernel_rfl
  have hst : ∀ sp : Nat → Bool, (∀ x ∈ p ++ [], sp x.block = true) → DataW.TrodAll enc Try.prog W' 0 sp true Try.f3.params.toList args.toList ds p := fun sp hsp => trodAll_stays (sp := sp) (W' := W') laidOut (fun t ht => by simpa using List.all_eq_true.1 hrd t ht) hA (fun x hx => hb.same (hlt x hx)) (fun x hx => hsp x (by simp [hx]))
  have hds : ds.length = 1 := by
    rw [Try.params3] at hA
    obtain ⟨v0, vs0, d0, ds0, p0, q0, _, rfl, rfl, h0, r0⟩ := trodAll_cons hA
    obtain ⟨_, rfl, _⟩ := trodAll_nil r0
    rfl
  clear hA hA0 hval hval0
  obtain ⟨e0, rfl⟩ : ∃ e0, ds = [e0] := by match ds, hds with | [e0], _ => exact ⟨e0, rfl⟩
  exact ⟨_, rfl, post_of_below (pa := p) (pv := []) hW' (fun _ _ _ => (trodAll_cons_mk (shut_bool Try.underlying4 _) trodAll_mk0)) hst (fun _ _ => rfl) rfl hb (ok_one (by kernel_rfl) rfl (okWide_bool_mk Try.underlying4 _))⟩
theorem over_fnLowered : Rows.fnLoweredRow.holds Try.pinned (OpenSpec.ofChange Rows.fnLoweredSpec) :=
  OpenClaim.holds_of_wide 3 Try.f3 rfl rfl rfl rfl rfl rfl rfl ⟨rfl, rfl, rfl, rfl, rfl⟩ rfl rfl rfl rfl rfl (by kernel_rfl) Try.func3 (by kernel_rfl)
    (of_decide_eq_true (by kernel_rfl)) (by unfold Func.isWrapper; first | (rw [if_pos (by decide +kernel)]; kernel_rfl) | (rw [if_neg (by decide +kernel)]; exact ⟨rfl, rfl⟩))
    (fun os started H enc _ => lifted_fnLowered os started H enc)
/-- The statement. -/
theorem fnLowered_holds : Rows.FnLoweredSaid := over_fnLowered
end Go.Proofs.Ytgjpicekdbemiaa
