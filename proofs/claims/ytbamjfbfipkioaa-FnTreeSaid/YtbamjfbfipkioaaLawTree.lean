/- Nesting depth and token count are determined by the parts: for every code. -/
import Derived.Test.YtbamjfbfipkioaaFrame
import Derived.Test.YtbamjfbfipkioaaDtree
import Derived.Test.YtbamjfbfipkioaaTreeCut
import Derived.Test.YtbamjfbfipkioaaEqTI
import Derived.Test.YtbamjfbfipkioaaBytes
import Derived.Test.YtbamjfbfipkioaaBig
import Derived.Test.YtbamjfbfipkioaaInvG
import Derived.Test.YtbamjfbfipkioaaPj
namespace Go.Proofs.Ytbamjfbfipkioaa
open Go.ChangeShapes Go.WideShapes Go.ChangeAt Go.RowKit
set_option linter.unusedVariables false
theorem below_drewT {B : Nat} {w w' : World} (h : Below B w w') : Below B w w'.drew := ⟨h.os, h.tape, h.output, h.size, h.block⟩
theorem belT {w w1 w2 : World} (f : Below w.heap.size w w1) (h : Below w1.heap.size w1 w2) : Below w.heap.size w w2 := f.trans (h.mono f.size)
theorem RdT.drop0 {w : World} {lo d : Nat} {A : Option Addr} {l : List (Tr (d + 1))} (h : RdT w lo (d + 1) A 0 l) : RdT w lo (d + 1) A 0 (l.drop 0) := by rw [List.drop_zero]; exact h
theorem RdT.dropE {w : World} {lo d n : Nat} {A A' : Option Addr} {l : List (Tr (d + 1))} (h : RdT w lo (d + 1) A n l) : RdT w lo (d + 1) A' 0 (l.drop n) := by
  rw [List.drop_of_length_le (by rw [h.1]; exact Nat.le_refl _)]
  exact RdT.nil
set_option maxRecDepth 100000 in
set_option maxHeartbeats 1000000 in
theorem at0_law (A : Option Addr) (n c : Nat) (bs : List (Fin 256)) (w : World) (h : Rd w 1 A n (bs.flatMap bcell)) (hl : bs.length = n) (hn : n ≤ 1048576) :
    Calls Try.prog 7 #[.slice A n c, .int .i64 2] w fun e w' => ∃ x : Int, 0 ≤ x ∧ x ≤ 255 ∧ e = .returned (.int .i64 x) ∧ w = w' := by
  have H := Lib.hid h
  have HL := Lib.hid hl
  clear h hl
  by_cases h2 : 2 < n
  · obtain ⟨x, hx⟩ : ∃ x, bs[2]? = some x := ⟨_, List.getElem?_eq_getElem (by rw [HL.out]; exact h2)⟩
    obtain ⟨b, off, rfl, hbl, hc⟩ := H.out.2 (by omega)
    have q0 : w.cell? ⟨b, off + 2, none⟩ = some (.int .u8 (x.val : Int)) := by
      have := hc (2 * 1 + 0) _ (flat_at bcell_len bs 2 x 0 hx (by decide))
      simpa using this
    have hx2 := x.isLt
    clear hc hx
    go_enter Try.func7, Try.ntmps7
    go_wp2_with fail
    go_ret
    exact ⟨_, by omega, by omega, rfl, rfl⟩
  · go_enter Try.func7, Try.ntmps7
    go_wp2_with fail
    go_ret
    exact ⟨_, by omega, by omega, rfl, rfl⟩
set_option maxRecDepth 100000 in
set_option maxHeartbeats 4000000 in
theorem law_Tree (A : Option Addr) (n c : Nat) (bs : List (Fin 256)) (w0 : World) (h : Rd w0 1 A n (bs.flatMap bcell)) (hl : bs.length = n) (hnc : n ≤ c) (hc : c ≤ maxLen) :
    Calls Try.prog 3 #[.slice A n c] w0 fun e w' => e = .returned (.bool true) ∧ Below w0.heap.size w0 w' := by
  have hn0 : n ≤ 9223372036854775807 := by simp only [maxLen] at hc; omega
  have H := Lib.hid h
  have HL := Lib.hid hl
  clear h hl
  by_cases hbig : 1048576 < n
  · have hB : decide (1048576 < n) = true := by simpa using hbig
    go_enter Try.func3, Try.ntmps3
    go_wp2_with (go_at_call 4; refine (big_law _ _ _ _ hn0).mono ?_; rintro e w' ⟨rfl, rfl⟩)
    go_ret
    exact ⟨rfl, Below.refl _ _⟩
  have hB : decide (1048576 < n) = false := by simpa using hbig
  go_enter Try.func3, Try.ntmps3
  go_wp2_with (go_at_call 4; refine (big_law _ _ _ _ hn0).mono ?_; rintro e w' ⟨rfl, rfl⟩)
  clear hB
  refine (DrawNestingDepth_any _ _ _ bs w0 H.out HL.out (by omega)).mono ?_
  rintro e w1 ⟨A1, m, c1, l, rfl, hr, ⟨hmc, hcm, hz, hAl⟩, hb1⟩
  have HR := Lib.hid hr
  have HB1 := Lib.hid hb1
  have HAl := Lib.hid hAl
  have hs1 := hb1.size
  have HLN := Lib.hid (RdT.len hr)
  have hm6 : m ≤ 100000 := by
    have h1 : szT 6 l = l.length + sumE l := szT_succ l
    rw [HLN.out] at h1
    omega
  clear hr hb1 hAl
  go_wp2_with fail
  refine (NestingDepth_impl 6 0 _ _ _ l w1 HR.out (by omega)).mono ?_
  rintro e w2 ⟨rfl, b2, s2⟩
  have HN := Lib.hid (nestT_le 6 l)
  have hnz : nestT 6 l ≤ 100000 := Nat.le_trans HN.out hz
  have B2 := Lib.hid b2
  clear b2
  go_upto_region 5 with (fail)
  go_wp2_with fail
  refine (at0_law _ _ _ bs w2 ((H.out.below HB1.out).below B2.out) HL.out (by omega)).mono ?_
  rintro e w3 ⟨x, hx0, hx1, rfl, rfl⟩
  obtain ⟨k, hk, hkm⟩ : ∃ k : Nat, x % ((m : Int) + 1) = k ∧ k ≤ m := by
    have e3 : 0 ≤ x % ((m : Int) + 1) := Int.emod_nonneg _ (by omega)
    have e4 : x % ((m : Int) + 1) < (m : Int) + 1 := Int.emod_lt_of_pos _ (by omega)
    exact ⟨(x % ((m : Int) + 1)).toNat, by omega, by omega⟩
  go_upto_region 6 with (fail)
  rw [hk]
  clear hk hx0 hx1
  obtain ⟨N, hN⟩ : ∃ N, N = nestT 6 l := ⟨_, rfl⟩
  obtain ⟨aa, ha⟩ : ∃ aa, aa = nestT 6 (l.take k) := ⟨_, rfl⟩
  obtain ⟨bb, hb⟩ : ∃ bb, bb = nestT 6 (l.drop k) := ⟨_, rfl⟩
  have hmx : N = max aa bb := by rw [hN, ha, hb]; exact nest_cut l k
  have hNl : N ≤ 100000 := by omega
  have hmax : (N = aa ∨ (N ≠ aa ∧ N = bb)) ∧ aa ≤ N ∧ bb ≤ N := by omega
  have HMX := Lib.hid hmax
  have HEN := Lib.hid hN
  have HEa := Lib.hid ha
  have HEb := Lib.hid hb
  rw [← hN]
  clear hN ha hb hmx hmax
  have hzc := sz_cut l k
  have HRw := Lib.hid (HR.out.below B2.out)
  have RT := Lib.hid (RdT.take HRw.out hkm)
  have hzt : szT 6 (l.take k) ≤ 100000 := by
    have h1 : szT 6 l = szT 6 (l.take k) + szT 6 (l.drop k) := hzc
    omega
  have hzd : szT 6 (l.drop k) ≤ 100000 := by
    have h1 : szT 6 l = szT 6 (l.take k) + szT 6 (l.drop k) := hzc
    omega
  clear hzc
  rcases HAl.out with ⟨rfl, rfl, rfl⟩ | ⟨g, rfl, hg⟩
  · obtain rfl : k = 0 := by omega
    have RD : Hid (RdT w2 0 6 none 0 (l.drop 0)) := RdT.drop0 HRw.out
    go_wp2_with fail
    refine (NestingDepth_impl 6 0 _ _ _ (l.take 0) w2 RT.out (by omega)).mono ?_
    rintro e w3 ⟨rfl, b3, s3⟩
    rw [← HEa.out]
    have B3 := Lib.hid b3
    clear b3
    go_wp2_with fail
    refine (NestingDepth_impl 6 0 _ _ _ (l.drop 0) w3 (RD.out.below B3.out) (by omega)).mono ?_
    rintro e w4 ⟨rfl, b4, s4⟩
    rw [← HEb.out]
    have B4 := Lib.hid (B3.out.trans (b4.mono (by omega)))
    clear b4
    go_wp2_with fail
    refine (NestingDepth_spec 6 0 _ _ _ l w4 (HRw.out.below B4.out) (by omega)).mono ?_
    rintro e w5 ⟨rfl, b5, s5⟩
    rw [← HEN.out]
    have B5 := Lib.hid (B4.out.trans (b5.mono (by omega)))
    clear b5
    go_wp2_with fail
    refine (StmtTokenCount_impl 6 0 _ _ _ l w5 (HRw.out.below B5.out) (by omega)).mono ?_
    rintro e w6 ⟨rfl, b6, s6⟩
    have B6 := Lib.hid (B5.out.trans (b6.mono (by omega)))
    clear b6
    go_wp2_with fail
    refine (StmtTokenCount_spec 6 0 _ _ _ l w6 (HRw.out.below B6.out) (by omega)).mono ?_
    rintro e w7 ⟨rfl, b7, s7⟩
    have B7 := Lib.hid (B6.out.trans (b7.mono (by omega)))
    clear b7
    go_wp2_with fail
    refine (EqualStmts_impl 6 0 0 _ _ _ _ _ _ l l w7 (HRw.out.below B7.out) (HRw.out.below B7.out) (by omega) (by omega)).mono ?_
    rintro e w8 ⟨rfl, b8, s8⟩
    rw [eqTs_refl]
    have B8 := Lib.hid (B7.out.trans (b8.mono (by omega)))
    clear b8
    go_upto_region 10 with (fail)
    obtain rfl : l = [] := List.length_eq_zero_iff.1 HLN.out
    have HT : Hid (tokT 6 ([] : List (Tr 6)) = 0) := rfl
    clear B3 B4 B5 B6 B7
    obtain rfl : aa = 0 := HEa.out
    obtain rfl : bb = 0 := HEb.out
    obtain rfl : N = 0 := HEN.out
    rw [show ((0 : Nat) : Int) = (0 : Int) from rfl]
    have d1 : decide (0 ≤ 0) = true := decide_eq_true (by omega)
    have d2 : decide (0 ≤ 0) = true := decide_eq_true (by omega)
    have d3 : decide ((0 : Int) ≤ (0 : Int)) = true := decide_eq_true (by omega)
    have d4 : decide ((0 : Int) ≤ (0 : Int)) = true := decide_eq_true (by omega)
    obtain ⟨J0, hJ0⟩ : ∃ J : Array Value → Array Bool → Act → World → Prop, J = (fun A0 listed a W => ∃ (tok : Nat), ∃ x2 x45 x46 x47 x48 x49 x50 x51 x52 x53 x54 x55 x56 x57 x58 x59 x60 x61 x62 x63 x64 x65 x66 x67 x68 x69 x70 x71 x72 x73 x74 x75 x76 : Value, a = ⟨(((((((((((((((((((((((((((((((((A0.setIfInBounds 2 x2).setIfInBounds 45 x45).setIfInBounds 46 x46).setIfInBounds 47 x47).setIfInBounds 48 x48).setIfInBounds 49 x49).setIfInBounds 50 x50).setIfInBounds 51 x51).setIfInBounds 52 x52).setIfInBounds 53 x53).setIfInBounds 54 x54).setIfInBounds 55 x55).setIfInBounds 56 x56).setIfInBounds 57 x57).setIfInBounds 58 x58).setIfInBounds 59 x59).setIfInBounds 60 x60).setIfInBounds 61 x61).setIfInBounds 62 x62).setIfInBounds 63 x63).setIfInBounds 64 x64).setIfInBounds 65 x65).setIfInBounds 66 x66).setIfInBounds 67 x67).setIfInBounds 68 x68).setIfInBounds 69 x69).setIfInBounds 70 x70).setIfInBounds 71 x71).setIfInBounds 72 x72).setIfInBounds 73 x73).setIfInBounds 74 x74).setIfInBounds 75 x75).setIfInBounds 76 x76), []⟩ ∧ (Ls listed 0 → x45 = .int .i64 0) ∧ (Ls listed 1 → x46 = .int .i64 0) ∧ (Ls listed 2 → x47 = .bool true) ∧ (Ls listed 3 → x48 = .bool true) ∧ (Ls listed 4 → True) ∧ (Ls listed 5 → True) ∧ (Ls listed 6 → True) ∧ (Ls listed 7 → x52 = .bool true) ∧ (Ls listed 8 → x53 = .bool true) ∧ (Ls listed 9 → x54 = .int .i64 0) ∧ (Ls listed 10 → x55 = .int .i64 0) ∧ (Ls listed 11 → x56 = .bool true) ∧ (Ls listed 12 → x57 = .bool true) ∧ (Ls listed 13 → x58 = .bool true) ∧ (Ls listed 14 → x59 = .int .i64 0) ∧ (Ls listed 15 → x60 = .int .i64 0) ∧ (Ls listed 16 → x61 = .bool true) ∧ (Ls listed 17 → x62 = .bool true) ∧ (Ls listed 18 → x63 = .bool true) ∧ (Ls listed 19 → x64 = .slice none 0 0) ∧ (Ls listed 20 → x65 = .int .i64 0) ∧ (Ls listed 21 → x66 = .slice none 0 0) ∧ (Ls listed 22 → x67 = .int .i64 0) ∧ (Ls listed 23 → x68 = .slice none 0 0) ∧ (Ls listed 24 → x69 = .int .i64 0) ∧ (Ls listed 25 → x70 = .slice none 0 0) ∧ (Ls listed 26 → x71 = .int .i64 0) ∧ (Ls listed 27 → x72 = .slice none 0 0) ∧ (Ls listed 28 → x73 = .int .i64 0) ∧ (Ls listed 29 → x74 = .int .i64 0) ∧ (Ls listed 30 → x75 = .bool true) ∧ (Ls listed 31 → x76 = .bool true) ∧ (Ls listed 32 → x2 = .bool true ∧ Below w2.heap.size w2 W) ∧ (¬ Ls listed 32 → Below w2.heap.size w2 W) ∧ (Ls listed 32 → ¬ Ls listed 32 → True)) := ⟨_, rfl⟩
    have HJ0 := Lib.hid hJ0
    clear hJ0
    refine wp_region_inv2 (by kernel_rfl) J0 ?_ ?_ ?_
    · intro A0
      rw [HJ0.out]
      exact ⟨0, A0.getD 2 undef, A0.getD 45 undef, A0.getD 46 undef, A0.getD 47 undef, A0.getD 48 undef, A0.getD 49 undef, A0.getD 50 undef, A0.getD 51 undef, A0.getD 52 undef, A0.getD 53 undef, A0.getD 54 undef, A0.getD 55 undef, A0.getD 56 undef, A0.getD 57 undef, A0.getD 58 undef, A0.getD 59 undef, A0.getD 60 undef, A0.getD 61 undef, A0.getD 62 undef, A0.getD 63 undef, A0.getD 64 undef, A0.getD 65 undef, A0.getD 66 undef, A0.getD 67 undef, A0.getD 68 undef, A0.getD 69 undef, A0.getD 70 undef, A0.getD 71 undef, A0.getD 72 undef, A0.getD 73 undef, A0.getD 74 undef, A0.getD 75 undef, A0.getD 76 undef, by simp only [set_self], fun h => h.none, fun h => h.none, fun h => h.none, fun h => h.none, fun h => h.none, fun h => h.none, fun h => h.none, fun h => h.none, fun h => h.none, fun h => h.none, fun h => h.none, fun h => h.none, fun h => h.none, fun h => h.none, fun h => h.none, fun h => h.none, fun h => h.none, fun h => h.none, fun h => h.none, fun h => h.none, fun h => h.none, fun h => h.none, fun h => h.none, fun h => h.none, fun h => h.none, fun h => h.none, fun h => h.none, fun h => h.none, fun h => h.none, fun h => h.none, fun h => h.none, fun h => h.none, fun h => h.none, fun _ => below_drewT B8.out, fun h => h.none⟩
    · intro listed a W hsize hcl hJ i hi
      have hil := ready_lt hi
      have hnl := ready_not hi
      have hnow := ready_now hi hsize
      have HCL := Lib.hid hcl
      rw [HJ0.out] at hJ
      obtain ⟨tok, x2, x45, x46, x47, x48, x49, x50, x51, x52, x53, x54, x55, x56, x57, x58, x59, x60, x61, x62, x63, x64, x65, x66, x67, x68, x69, x70, x71, x72, x73, x74, x75, x76, rfl, HF⟩ := hJ
      have HH := Lib.hid HF
      have hi2 : i = 0 ∨ i = 1 ∨ i = 2 ∨ i = 3 ∨ i = 4 ∨ i = 5 ∨ i = 6 ∨ i = 7 ∨ i = 8 ∨ i = 9 ∨ i = 10 ∨ i = 11 ∨ i = 12 ∨ i = 13 ∨ i = 14 ∨ i = 15 ∨ i = 16 ∨ i = 17 ∨ i = 18 ∨ i = 19 ∨ i = 20 ∨ i = 21 ∨ i = 22 ∨ i = 23 ∨ i = 24 ∨ i = 25 ∨ i = 26 ∨ i = 27 ∨ i = 28 ∨ i = 29 ∨ i = 30 ∨ i = 31 ∨ i = 32 := by simp at hil; omega
      clear hil hcl HF
      rcases hi2 with rfl | rfl | rfl | rfl | rfl | rfl | rfl | rfl | rfl | rfl | rfl | rfl | rfl | rfl | rfl | rfl | rfl | rfl | rfl | rfl | rfl | rfl | rfl | rfl | rfl | rfl | rfl | rfl | rfl | rfl | rfl | rfl | rfl
      · clear hi HCL
        simp only [List.setIfInBounds_toArray, List.set_cons_succ, List.set_cons_zero]
        refine wpOp_one rfl rfl ?_
        intro K hK
        go_wp2_with fail
        rw [HJ0.out]
        exact ⟨tok, x2, .int .i64 0, x46, x47, x48, x49, x50, x51, x52, x53, x54, x55, x56, x57, x58, x59, x60, x61, x62, x63, x64, x65, x66, x67, x68, x69, x70, x71, x72, x73, x74, x75, x76, (by simp only [List.setIfInBounds_toArray, List.set_cons_succ, List.set_cons_zero]), fun _ => rfl, Bk (pj1 HH.out), Bk (pj2 HH.out), Bk (pj3 HH.out), Bk (pj4 HH.out), Bk (pj5 HH.out), Bk (pj6 HH.out), Bk (pj7 HH.out), Bk (pj8 HH.out), Bk (pj9 HH.out), Bk (pj10 HH.out), Bk (pj11 HH.out), Bk (pj12 HH.out), Bk (pj13 HH.out), Bk (pj14 HH.out), Bk (pj15 HH.out), Bk (pj16 HH.out), Bk (pj17 HH.out), Bk (pj18 HH.out), Bk (pj19 HH.out), Bk (pj20 HH.out), Bk (pj21 HH.out), Bk (pj22 HH.out), Bk (pj23 HH.out), Bk (pj24 HH.out), Bk (pj25 HH.out), Bk (pj26 HH.out), Bk (pj27 HH.out), Bk (pj28 HH.out), Bk (pj29 HH.out), Bk (pj30 HH.out), Bk (pj31 HH.out), Bk (pj32 HH.out), Bi (pj33 HH.out), Bw (pe34 HH.out)⟩
      · clear hi HCL
        simp only [List.setIfInBounds_toArray, List.set_cons_succ, List.set_cons_zero]
        refine wpOp_one rfl rfl ?_
        intro K hK
        go_wp2_with fail
        rw [HJ0.out]
        exact ⟨tok, x2, x45, .int .i64 0, x47, x48, x49, x50, x51, x52, x53, x54, x55, x56, x57, x58, x59, x60, x61, x62, x63, x64, x65, x66, x67, x68, x69, x70, x71, x72, x73, x74, x75, x76, (by simp only [List.setIfInBounds_toArray, List.set_cons_succ, List.set_cons_zero]), Bk (pj0 HH.out), fun _ => rfl, Bk (pj2 HH.out), Bk (pj3 HH.out), Bk (pj4 HH.out), Bk (pj5 HH.out), Bk (pj6 HH.out), Bk (pj7 HH.out), Bk (pj8 HH.out), Bk (pj9 HH.out), Bk (pj10 HH.out), Bk (pj11 HH.out), Bk (pj12 HH.out), Bk (pj13 HH.out), Bk (pj14 HH.out), Bk (pj15 HH.out), Bk (pj16 HH.out), Bk (pj17 HH.out), Bk (pj18 HH.out), Bk (pj19 HH.out), Bk (pj20 HH.out), Bk (pj21 HH.out), Bk (pj22 HH.out), Bk (pj23 HH.out), Bk (pj24 HH.out), Bk (pj25 HH.out), Bk (pj26 HH.out), Bk (pj27 HH.out), Bk (pj28 HH.out), Bk (pj29 HH.out), Bk (pj30 HH.out), Bk (pj31 HH.out), Bk (pj32 HH.out), Bi (pj33 HH.out), Bw (pe34 HH.out)⟩
      · have D0 := (pj0 HH.out) (ready_dep2 hi 0 (by kernel_rfl))
        have D1 := (pj1 HH.out) (ready_dep2 hi 1 (by kernel_rfl))
        clear hi HCL
        simp only [List.setIfInBounds_toArray, List.set_cons_succ, List.set_cons_zero, D0, D1]
        refine wpOp_one rfl rfl ?_
        intro K hK
        go_wp2_with fail
        rw [HJ0.out]
        exact ⟨tok, x2, x45, x46, .bool true, x48, x49, x50, x51, x52, x53, x54, x55, x56, x57, x58, x59, x60, x61, x62, x63, x64, x65, x66, x67, x68, x69, x70, x71, x72, x73, x74, x75, x76, (by simp only [List.setIfInBounds_toArray, List.set_cons_succ, List.set_cons_zero, D0, D1]), Bk (pj0 HH.out), Bk (pj1 HH.out), fun _ => rfl, Bk (pj3 HH.out), Bk (pj4 HH.out), Bk (pj5 HH.out), Bk (pj6 HH.out), Bk (pj7 HH.out), Bk (pj8 HH.out), Bk (pj9 HH.out), Bk (pj10 HH.out), Bk (pj11 HH.out), Bk (pj12 HH.out), Bk (pj13 HH.out), Bk (pj14 HH.out), Bk (pj15 HH.out), Bk (pj16 HH.out), Bk (pj17 HH.out), Bk (pj18 HH.out), Bk (pj19 HH.out), Bk (pj20 HH.out), Bk (pj21 HH.out), Bk (pj22 HH.out), Bk (pj23 HH.out), Bk (pj24 HH.out), Bk (pj25 HH.out), Bk (pj26 HH.out), Bk (pj27 HH.out), Bk (pj28 HH.out), Bk (pj29 HH.out), Bk (pj30 HH.out), Bk (pj31 HH.out), Bk (pj32 HH.out), Bi (pj33 HH.out), Bw (pe34 HH.out)⟩
      · have D2 := (pj2 HH.out) (ready_dep2 hi 2 (by kernel_rfl))
        clear hi HCL
        simp only [List.setIfInBounds_toArray, List.set_cons_succ, List.set_cons_zero, D2]
        refine wpOp_one rfl rfl ?_
        intro K hK
        go_wp2_with fail
        rw [HJ0.out]
        exact ⟨tok, x2, x45, x46, x47, .bool true, x49, x50, x51, x52, x53, x54, x55, x56, x57, x58, x59, x60, x61, x62, x63, x64, x65, x66, x67, x68, x69, x70, x71, x72, x73, x74, x75, x76, (by simp only [List.setIfInBounds_toArray, List.set_cons_succ, List.set_cons_zero, D2]), Bk (pj0 HH.out), Bk (pj1 HH.out), Bk (pj2 HH.out), fun _ => rfl, Bk (pj4 HH.out), Bk (pj5 HH.out), Bk (pj6 HH.out), Bk (pj7 HH.out), Bk (pj8 HH.out), Bk (pj9 HH.out), Bk (pj10 HH.out), Bk (pj11 HH.out), Bk (pj12 HH.out), Bk (pj13 HH.out), Bk (pj14 HH.out), Bk (pj15 HH.out), Bk (pj16 HH.out), Bk (pj17 HH.out), Bk (pj18 HH.out), Bk (pj19 HH.out), Bk (pj20 HH.out), Bk (pj21 HH.out), Bk (pj22 HH.out), Bk (pj23 HH.out), Bk (pj24 HH.out), Bk (pj25 HH.out), Bk (pj26 HH.out), Bk (pj27 HH.out), Bk (pj28 HH.out), Bk (pj29 HH.out), Bk (pj30 HH.out), Bk (pj31 HH.out), Bk (pj32 HH.out), Bi (pj33 HH.out), Bw (pe34 HH.out)⟩
      · have D3 := (pj3 HH.out) (ready_dep2 hi 3 (by kernel_rfl))
        clear hi HCL
        simp only [List.setIfInBounds_toArray, List.set_cons_succ, List.set_cons_zero, D3]
        refine wpOp_off 49 rfl rfl (by rfl) ?_
        simp only [List.setIfInBounds_toArray, List.set_cons_succ, List.set_cons_zero]
        rw [HJ0.out]
        exact ⟨tok, x2, x45, x46, x47, x48, undef, x50, x51, x52, x53, x54, x55, x56, x57, x58, x59, x60, x61, x62, x63, x64, x65, x66, x67, x68, x69, x70, x71, x72, x73, x74, x75, x76, (by simp only [List.setIfInBounds_toArray, List.set_cons_succ, List.set_cons_zero, D3]), Bk (pj0 HH.out), Bk (pj1 HH.out), Bk (pj2 HH.out), Bk (pj3 HH.out), fun _ => trivial, Bk (pj5 HH.out), Bk (pj6 HH.out), Bk (pj7 HH.out), Bk (pj8 HH.out), Bk (pj9 HH.out), Bk (pj10 HH.out), Bk (pj11 HH.out), Bk (pj12 HH.out), Bk (pj13 HH.out), Bk (pj14 HH.out), Bk (pj15 HH.out), Bk (pj16 HH.out), Bk (pj17 HH.out), Bk (pj18 HH.out), Bk (pj19 HH.out), Bk (pj20 HH.out), Bk (pj21 HH.out), Bk (pj22 HH.out), Bk (pj23 HH.out), Bk (pj24 HH.out), Bk (pj25 HH.out), Bk (pj26 HH.out), Bk (pj27 HH.out), Bk (pj28 HH.out), Bk (pj29 HH.out), Bk (pj30 HH.out), Bk (pj31 HH.out), Bk (pj32 HH.out), Bi (pj33 HH.out), Bw (pe34 HH.out)⟩
      · have D3 := (pj3 HH.out) (ready_dep2 hi 3 (by kernel_rfl))
        clear hi HCL
        simp only [List.setIfInBounds_toArray, List.set_cons_succ, List.set_cons_zero, D3]
        refine wpOp_off 50 rfl rfl (by rfl) ?_
        simp only [List.setIfInBounds_toArray, List.set_cons_succ, List.set_cons_zero]
        rw [HJ0.out]
        exact ⟨tok, x2, x45, x46, x47, x48, x49, undef, x51, x52, x53, x54, x55, x56, x57, x58, x59, x60, x61, x62, x63, x64, x65, x66, x67, x68, x69, x70, x71, x72, x73, x74, x75, x76, (by simp only [List.setIfInBounds_toArray, List.set_cons_succ, List.set_cons_zero, D3]), Bk (pj0 HH.out), Bk (pj1 HH.out), Bk (pj2 HH.out), Bk (pj3 HH.out), Bk (pj4 HH.out), fun _ => trivial, Bk (pj6 HH.out), Bk (pj7 HH.out), Bk (pj8 HH.out), Bk (pj9 HH.out), Bk (pj10 HH.out), Bk (pj11 HH.out), Bk (pj12 HH.out), Bk (pj13 HH.out), Bk (pj14 HH.out), Bk (pj15 HH.out), Bk (pj16 HH.out), Bk (pj17 HH.out), Bk (pj18 HH.out), Bk (pj19 HH.out), Bk (pj20 HH.out), Bk (pj21 HH.out), Bk (pj22 HH.out), Bk (pj23 HH.out), Bk (pj24 HH.out), Bk (pj25 HH.out), Bk (pj26 HH.out), Bk (pj27 HH.out), Bk (pj28 HH.out), Bk (pj29 HH.out), Bk (pj30 HH.out), Bk (pj31 HH.out), Bk (pj32 HH.out), Bi (pj33 HH.out), Bw (pe34 HH.out)⟩
      · have D3 := (pj3 HH.out) (ready_dep2 hi 3 (by kernel_rfl))
        clear hi HCL
        simp only [List.setIfInBounds_toArray, List.set_cons_succ, List.set_cons_zero, D3]
        refine wpOp_off 51 rfl rfl (by rfl) ?_
        simp only [List.setIfInBounds_toArray, List.set_cons_succ, List.set_cons_zero]
        rw [HJ0.out]
        exact ⟨tok, x2, x45, x46, x47, x48, x49, x50, undef, x52, x53, x54, x55, x56, x57, x58, x59, x60, x61, x62, x63, x64, x65, x66, x67, x68, x69, x70, x71, x72, x73, x74, x75, x76, (by simp only [List.setIfInBounds_toArray, List.set_cons_succ, List.set_cons_zero, D3]), Bk (pj0 HH.out), Bk (pj1 HH.out), Bk (pj2 HH.out), Bk (pj3 HH.out), Bk (pj4 HH.out), Bk (pj5 HH.out), fun _ => trivial, Bk (pj7 HH.out), Bk (pj8 HH.out), Bk (pj9 HH.out), Bk (pj10 HH.out), Bk (pj11 HH.out), Bk (pj12 HH.out), Bk (pj13 HH.out), Bk (pj14 HH.out), Bk (pj15 HH.out), Bk (pj16 HH.out), Bk (pj17 HH.out), Bk (pj18 HH.out), Bk (pj19 HH.out), Bk (pj20 HH.out), Bk (pj21 HH.out), Bk (pj22 HH.out), Bk (pj23 HH.out), Bk (pj24 HH.out), Bk (pj25 HH.out), Bk (pj26 HH.out), Bk (pj27 HH.out), Bk (pj28 HH.out), Bk (pj29 HH.out), Bk (pj30 HH.out), Bk (pj31 HH.out), Bk (pj32 HH.out), Bi (pj33 HH.out), Bw (pe34 HH.out)⟩
      · have D3 := (pj3 HH.out) (ready_dep2 hi 3 (by kernel_rfl))
        clear hi HCL
        simp only [List.setIfInBounds_toArray, List.set_cons_succ, List.set_cons_zero, D3]
        refine wpOp_one rfl rfl ?_
        intro K hK
        go_wp2_with fail
        rw [HJ0.out]
        exact ⟨tok, x2, x45, x46, x47, x48, x49, x50, x51, .bool true, x53, x54, x55, x56, x57, x58, x59, x60, x61, x62, x63, x64, x65, x66, x67, x68, x69, x70, x71, x72, x73, x74, x75, x76, (by simp only [List.setIfInBounds_toArray, List.set_cons_succ, List.set_cons_zero, D3]), Bk (pj0 HH.out), Bk (pj1 HH.out), Bk (pj2 HH.out), Bk (pj3 HH.out), Bk (pj4 HH.out), Bk (pj5 HH.out), Bk (pj6 HH.out), fun _ => rfl, Bk (pj8 HH.out), Bk (pj9 HH.out), Bk (pj10 HH.out), Bk (pj11 HH.out), Bk (pj12 HH.out), Bk (pj13 HH.out), Bk (pj14 HH.out), Bk (pj15 HH.out), Bk (pj16 HH.out), Bk (pj17 HH.out), Bk (pj18 HH.out), Bk (pj19 HH.out), Bk (pj20 HH.out), Bk (pj21 HH.out), Bk (pj22 HH.out), Bk (pj23 HH.out), Bk (pj24 HH.out), Bk (pj25 HH.out), Bk (pj26 HH.out), Bk (pj27 HH.out), Bk (pj28 HH.out), Bk (pj29 HH.out), Bk (pj30 HH.out), Bk (pj31 HH.out), Bk (pj32 HH.out), Bi (pj33 HH.out), Bw (pe34 HH.out)⟩
      · have D7 := (pj7 HH.out) (ready_dep2 hi 7 (by kernel_rfl))
        clear hi HCL
        simp only [List.setIfInBounds_toArray, List.set_cons_succ, List.set_cons_zero, D7]
        refine wpOp_one rfl rfl ?_
        intro K hK
        go_wp2_with fail
        rw [HJ0.out]
        exact ⟨tok, x2, x45, x46, x47, x48, x49, x50, x51, x52, .bool true, x54, x55, x56, x57, x58, x59, x60, x61, x62, x63, x64, x65, x66, x67, x68, x69, x70, x71, x72, x73, x74, x75, x76, (by simp only [List.setIfInBounds_toArray, List.set_cons_succ, List.set_cons_zero, D7]), Bk (pj0 HH.out), Bk (pj1 HH.out), Bk (pj2 HH.out), Bk (pj3 HH.out), Bk (pj4 HH.out), Bk (pj5 HH.out), Bk (pj6 HH.out), Bk (pj7 HH.out), fun _ => rfl, Bk (pj9 HH.out), Bk (pj10 HH.out), Bk (pj11 HH.out), Bk (pj12 HH.out), Bk (pj13 HH.out), Bk (pj14 HH.out), Bk (pj15 HH.out), Bk (pj16 HH.out), Bk (pj17 HH.out), Bk (pj18 HH.out), Bk (pj19 HH.out), Bk (pj20 HH.out), Bk (pj21 HH.out), Bk (pj22 HH.out), Bk (pj23 HH.out), Bk (pj24 HH.out), Bk (pj25 HH.out), Bk (pj26 HH.out), Bk (pj27 HH.out), Bk (pj28 HH.out), Bk (pj29 HH.out), Bk (pj30 HH.out), Bk (pj31 HH.out), Bk (pj32 HH.out), Bi (pj33 HH.out), Bw (pe34 HH.out)⟩
      · have D8 := (pj8 HH.out) (ready_dep2 hi 8 (by kernel_rfl))
        clear hi HCL
        simp only [List.setIfInBounds_toArray, List.set_cons_succ, List.set_cons_zero, D8]
        refine wpOp_yes rfl (by rfl) ?_
        intro K hK
        go_wp2_with fail
        rw [HJ0.out]
        exact ⟨tok, x2, x45, x46, x47, x48, x49, x50, x51, x52, x53, .int .i64 0, x55, x56, x57, x58, x59, x60, x61, x62, x63, x64, x65, x66, x67, x68, x69, x70, x71, x72, x73, x74, x75, x76, (by simp only [List.setIfInBounds_toArray, List.set_cons_succ, List.set_cons_zero, D8]), Bk (pj0 HH.out), Bk (pj1 HH.out), Bk (pj2 HH.out), Bk (pj3 HH.out), Bk (pj4 HH.out), Bk (pj5 HH.out), Bk (pj6 HH.out), Bk (pj7 HH.out), Bk (pj8 HH.out), fun _ => rfl, Bk (pj10 HH.out), Bk (pj11 HH.out), Bk (pj12 HH.out), Bk (pj13 HH.out), Bk (pj14 HH.out), Bk (pj15 HH.out), Bk (pj16 HH.out), Bk (pj17 HH.out), Bk (pj18 HH.out), Bk (pj19 HH.out), Bk (pj20 HH.out), Bk (pj21 HH.out), Bk (pj22 HH.out), Bk (pj23 HH.out), Bk (pj24 HH.out), Bk (pj25 HH.out), Bk (pj26 HH.out), Bk (pj27 HH.out), Bk (pj28 HH.out), Bk (pj29 HH.out), Bk (pj30 HH.out), Bk (pj31 HH.out), Bk (pj32 HH.out), Bi (pj33 HH.out), Bw (pe34 HH.out)⟩
      · have D8 := (pj8 HH.out) (ready_dep2 hi 8 (by kernel_rfl))
        clear hi HCL
        simp only [List.setIfInBounds_toArray, List.set_cons_succ, List.set_cons_zero, D8]
        refine wpOp_yes rfl (by rfl) ?_
        intro K hK
        go_wp2_with fail
        rw [HJ0.out]
        exact ⟨tok, x2, x45, x46, x47, x48, x49, x50, x51, x52, x53, x54, .int .i64 0, x56, x57, x58, x59, x60, x61, x62, x63, x64, x65, x66, x67, x68, x69, x70, x71, x72, x73, x74, x75, x76, (by simp only [List.setIfInBounds_toArray, List.set_cons_succ, List.set_cons_zero, D8]), Bk (pj0 HH.out), Bk (pj1 HH.out), Bk (pj2 HH.out), Bk (pj3 HH.out), Bk (pj4 HH.out), Bk (pj5 HH.out), Bk (pj6 HH.out), Bk (pj7 HH.out), Bk (pj8 HH.out), Bk (pj9 HH.out), fun _ => rfl, Bk (pj11 HH.out), Bk (pj12 HH.out), Bk (pj13 HH.out), Bk (pj14 HH.out), Bk (pj15 HH.out), Bk (pj16 HH.out), Bk (pj17 HH.out), Bk (pj18 HH.out), Bk (pj19 HH.out), Bk (pj20 HH.out), Bk (pj21 HH.out), Bk (pj22 HH.out), Bk (pj23 HH.out), Bk (pj24 HH.out), Bk (pj25 HH.out), Bk (pj26 HH.out), Bk (pj27 HH.out), Bk (pj28 HH.out), Bk (pj29 HH.out), Bk (pj30 HH.out), Bk (pj31 HH.out), Bk (pj32 HH.out), Bi (pj33 HH.out), Bw (pe34 HH.out)⟩
      · have D8 := (pj8 HH.out) (ready_dep2 hi 8 (by kernel_rfl))
        have D9 := (pj9 HH.out) (ready_dep2 hi 9 (by kernel_rfl))
        have D10 := (pj10 HH.out) (ready_dep2 hi 10 (by kernel_rfl))
        clear hi HCL
        simp only [List.setIfInBounds_toArray, List.set_cons_succ, List.set_cons_zero, D8, D9, D10]
        refine wpOp_yes rfl (by rfl) ?_
        intro K hK
        go_wp2_with fail
        rw [HJ0.out]
        exact ⟨tok, x2, x45, x46, x47, x48, x49, x50, x51, x52, x53, x54, x55, .bool true, x57, x58, x59, x60, x61, x62, x63, x64, x65, x66, x67, x68, x69, x70, x71, x72, x73, x74, x75, x76, (by simp only [List.setIfInBounds_toArray, List.set_cons_succ, List.set_cons_zero, D8, D9, D10]), Bk (pj0 HH.out), Bk (pj1 HH.out), Bk (pj2 HH.out), Bk (pj3 HH.out), Bk (pj4 HH.out), Bk (pj5 HH.out), Bk (pj6 HH.out), Bk (pj7 HH.out), Bk (pj8 HH.out), Bk (pj9 HH.out), Bk (pj10 HH.out), fun _ => rfl, Bk (pj12 HH.out), Bk (pj13 HH.out), Bk (pj14 HH.out), Bk (pj15 HH.out), Bk (pj16 HH.out), Bk (pj17 HH.out), Bk (pj18 HH.out), Bk (pj19 HH.out), Bk (pj20 HH.out), Bk (pj21 HH.out), Bk (pj22 HH.out), Bk (pj23 HH.out), Bk (pj24 HH.out), Bk (pj25 HH.out), Bk (pj26 HH.out), Bk (pj27 HH.out), Bk (pj28 HH.out), Bk (pj29 HH.out), Bk (pj30 HH.out), Bk (pj31 HH.out), Bk (pj32 HH.out), Bi (pj33 HH.out), Bw (pe34 HH.out)⟩
      · have D8 := (pj8 HH.out) (ready_dep2 hi 8 (by kernel_rfl))
        have D11 := (pj11 HH.out) (ready_dep2 hi 11 (by kernel_rfl))
        clear hi HCL
        simp only [List.setIfInBounds_toArray, List.set_cons_succ, List.set_cons_zero, D8, D11]
        refine wpOp_one rfl rfl ?_
        intro K hK
        go_wp2_with fail
        rw [HJ0.out]
        exact ⟨tok, x2, x45, x46, x47, x48, x49, x50, x51, x52, x53, x54, x55, x56, .bool true, x58, x59, x60, x61, x62, x63, x64, x65, x66, x67, x68, x69, x70, x71, x72, x73, x74, x75, x76, (by simp only [List.setIfInBounds_toArray, List.set_cons_succ, List.set_cons_zero, D8, D11]), Bk (pj0 HH.out), Bk (pj1 HH.out), Bk (pj2 HH.out), Bk (pj3 HH.out), Bk (pj4 HH.out), Bk (pj5 HH.out), Bk (pj6 HH.out), Bk (pj7 HH.out), Bk (pj8 HH.out), Bk (pj9 HH.out), Bk (pj10 HH.out), Bk (pj11 HH.out), fun _ => rfl, Bk (pj13 HH.out), Bk (pj14 HH.out), Bk (pj15 HH.out), Bk (pj16 HH.out), Bk (pj17 HH.out), Bk (pj18 HH.out), Bk (pj19 HH.out), Bk (pj20 HH.out), Bk (pj21 HH.out), Bk (pj22 HH.out), Bk (pj23 HH.out), Bk (pj24 HH.out), Bk (pj25 HH.out), Bk (pj26 HH.out), Bk (pj27 HH.out), Bk (pj28 HH.out), Bk (pj29 HH.out), Bk (pj30 HH.out), Bk (pj31 HH.out), Bk (pj32 HH.out), Bi (pj33 HH.out), Bw (pe34 HH.out)⟩
      · have D12 := (pj12 HH.out) (ready_dep2 hi 12 (by kernel_rfl))
        clear hi HCL
        simp only [List.setIfInBounds_toArray, List.set_cons_succ, List.set_cons_zero, D12]
        refine wpOp_one rfl rfl ?_
        intro K hK
        go_wp2_with fail
        rw [HJ0.out]
        exact ⟨tok, x2, x45, x46, x47, x48, x49, x50, x51, x52, x53, x54, x55, x56, x57, .bool true, x59, x60, x61, x62, x63, x64, x65, x66, x67, x68, x69, x70, x71, x72, x73, x74, x75, x76, (by simp only [List.setIfInBounds_toArray, List.set_cons_succ, List.set_cons_zero, D12]), Bk (pj0 HH.out), Bk (pj1 HH.out), Bk (pj2 HH.out), Bk (pj3 HH.out), Bk (pj4 HH.out), Bk (pj5 HH.out), Bk (pj6 HH.out), Bk (pj7 HH.out), Bk (pj8 HH.out), Bk (pj9 HH.out), Bk (pj10 HH.out), Bk (pj11 HH.out), Bk (pj12 HH.out), fun _ => rfl, Bk (pj14 HH.out), Bk (pj15 HH.out), Bk (pj16 HH.out), Bk (pj17 HH.out), Bk (pj18 HH.out), Bk (pj19 HH.out), Bk (pj20 HH.out), Bk (pj21 HH.out), Bk (pj22 HH.out), Bk (pj23 HH.out), Bk (pj24 HH.out), Bk (pj25 HH.out), Bk (pj26 HH.out), Bk (pj27 HH.out), Bk (pj28 HH.out), Bk (pj29 HH.out), Bk (pj30 HH.out), Bk (pj31 HH.out), Bk (pj32 HH.out), Bi (pj33 HH.out), Bw (pe34 HH.out)⟩
      · have D13 := (pj13 HH.out) (ready_dep2 hi 13 (by kernel_rfl))
        clear hi HCL
        simp only [List.setIfInBounds_toArray, List.set_cons_succ, List.set_cons_zero, D13]
        refine wpOp_yes rfl (by rfl) ?_
        intro K hK
        go_wp2_with fail
        rw [HJ0.out]
        exact ⟨tok, x2, x45, x46, x47, x48, x49, x50, x51, x52, x53, x54, x55, x56, x57, x58, .int .i64 0, x60, x61, x62, x63, x64, x65, x66, x67, x68, x69, x70, x71, x72, x73, x74, x75, x76, (by simp only [List.setIfInBounds_toArray, List.set_cons_succ, List.set_cons_zero, D13]), Bk (pj0 HH.out), Bk (pj1 HH.out), Bk (pj2 HH.out), Bk (pj3 HH.out), Bk (pj4 HH.out), Bk (pj5 HH.out), Bk (pj6 HH.out), Bk (pj7 HH.out), Bk (pj8 HH.out), Bk (pj9 HH.out), Bk (pj10 HH.out), Bk (pj11 HH.out), Bk (pj12 HH.out), Bk (pj13 HH.out), fun _ => rfl, Bk (pj15 HH.out), Bk (pj16 HH.out), Bk (pj17 HH.out), Bk (pj18 HH.out), Bk (pj19 HH.out), Bk (pj20 HH.out), Bk (pj21 HH.out), Bk (pj22 HH.out), Bk (pj23 HH.out), Bk (pj24 HH.out), Bk (pj25 HH.out), Bk (pj26 HH.out), Bk (pj27 HH.out), Bk (pj28 HH.out), Bk (pj29 HH.out), Bk (pj30 HH.out), Bk (pj31 HH.out), Bk (pj32 HH.out), Bi (pj33 HH.out), Bw (pe34 HH.out)⟩
      · have D13 := (pj13 HH.out) (ready_dep2 hi 13 (by kernel_rfl))
        clear hi HCL
        simp only [List.setIfInBounds_toArray, List.set_cons_succ, List.set_cons_zero, D13]
        refine wpOp_yes rfl (by rfl) ?_
        intro K hK
        go_wp2_with fail
        rw [HJ0.out]
        exact ⟨tok, x2, x45, x46, x47, x48, x49, x50, x51, x52, x53, x54, x55, x56, x57, x58, x59, .int .i64 0, x61, x62, x63, x64, x65, x66, x67, x68, x69, x70, x71, x72, x73, x74, x75, x76, (by simp only [List.setIfInBounds_toArray, List.set_cons_succ, List.set_cons_zero, D13]), Bk (pj0 HH.out), Bk (pj1 HH.out), Bk (pj2 HH.out), Bk (pj3 HH.out), Bk (pj4 HH.out), Bk (pj5 HH.out), Bk (pj6 HH.out), Bk (pj7 HH.out), Bk (pj8 HH.out), Bk (pj9 HH.out), Bk (pj10 HH.out), Bk (pj11 HH.out), Bk (pj12 HH.out), Bk (pj13 HH.out), Bk (pj14 HH.out), fun _ => rfl, Bk (pj16 HH.out), Bk (pj17 HH.out), Bk (pj18 HH.out), Bk (pj19 HH.out), Bk (pj20 HH.out), Bk (pj21 HH.out), Bk (pj22 HH.out), Bk (pj23 HH.out), Bk (pj24 HH.out), Bk (pj25 HH.out), Bk (pj26 HH.out), Bk (pj27 HH.out), Bk (pj28 HH.out), Bk (pj29 HH.out), Bk (pj30 HH.out), Bk (pj31 HH.out), Bk (pj32 HH.out), Bi (pj33 HH.out), Bw (pe34 HH.out)⟩
      · have D13 := (pj13 HH.out) (ready_dep2 hi 13 (by kernel_rfl))
        have D14 := (pj14 HH.out) (ready_dep2 hi 14 (by kernel_rfl))
        have D15 := (pj15 HH.out) (ready_dep2 hi 15 (by kernel_rfl))
        clear hi HCL
        simp only [List.setIfInBounds_toArray, List.set_cons_succ, List.set_cons_zero, D13, D14, D15]
        refine wpOp_yes rfl (by rfl) ?_
        intro K hK
        go_wp2_with fail
        rw [HJ0.out]
        exact ⟨tok, x2, x45, x46, x47, x48, x49, x50, x51, x52, x53, x54, x55, x56, x57, x58, x59, x60, .bool true, x62, x63, x64, x65, x66, x67, x68, x69, x70, x71, x72, x73, x74, x75, x76, (by simp only [List.setIfInBounds_toArray, List.set_cons_succ, List.set_cons_zero, D13, D14, D15]), Bk (pj0 HH.out), Bk (pj1 HH.out), Bk (pj2 HH.out), Bk (pj3 HH.out), Bk (pj4 HH.out), Bk (pj5 HH.out), Bk (pj6 HH.out), Bk (pj7 HH.out), Bk (pj8 HH.out), Bk (pj9 HH.out), Bk (pj10 HH.out), Bk (pj11 HH.out), Bk (pj12 HH.out), Bk (pj13 HH.out), Bk (pj14 HH.out), Bk (pj15 HH.out), fun _ => rfl, Bk (pj17 HH.out), Bk (pj18 HH.out), Bk (pj19 HH.out), Bk (pj20 HH.out), Bk (pj21 HH.out), Bk (pj22 HH.out), Bk (pj23 HH.out), Bk (pj24 HH.out), Bk (pj25 HH.out), Bk (pj26 HH.out), Bk (pj27 HH.out), Bk (pj28 HH.out), Bk (pj29 HH.out), Bk (pj30 HH.out), Bk (pj31 HH.out), Bk (pj32 HH.out), Bi (pj33 HH.out), Bw (pe34 HH.out)⟩
      · have D13 := (pj13 HH.out) (ready_dep2 hi 13 (by kernel_rfl))
        have D16 := (pj16 HH.out) (ready_dep2 hi 16 (by kernel_rfl))
        clear hi HCL
        simp only [List.setIfInBounds_toArray, List.set_cons_succ, List.set_cons_zero, D13, D16]
        refine wpOp_one rfl rfl ?_
        intro K hK
        go_wp2_with fail
        rw [HJ0.out]
        exact ⟨tok, x2, x45, x46, x47, x48, x49, x50, x51, x52, x53, x54, x55, x56, x57, x58, x59, x60, x61, .bool true, x63, x64, x65, x66, x67, x68, x69, x70, x71, x72, x73, x74, x75, x76, (by simp only [List.setIfInBounds_toArray, List.set_cons_succ, List.set_cons_zero, D13, D16]), Bk (pj0 HH.out), Bk (pj1 HH.out), Bk (pj2 HH.out), Bk (pj3 HH.out), Bk (pj4 HH.out), Bk (pj5 HH.out), Bk (pj6 HH.out), Bk (pj7 HH.out), Bk (pj8 HH.out), Bk (pj9 HH.out), Bk (pj10 HH.out), Bk (pj11 HH.out), Bk (pj12 HH.out), Bk (pj13 HH.out), Bk (pj14 HH.out), Bk (pj15 HH.out), Bk (pj16 HH.out), fun _ => rfl, Bk (pj18 HH.out), Bk (pj19 HH.out), Bk (pj20 HH.out), Bk (pj21 HH.out), Bk (pj22 HH.out), Bk (pj23 HH.out), Bk (pj24 HH.out), Bk (pj25 HH.out), Bk (pj26 HH.out), Bk (pj27 HH.out), Bk (pj28 HH.out), Bk (pj29 HH.out), Bk (pj30 HH.out), Bk (pj31 HH.out), Bk (pj32 HH.out), Bi (pj33 HH.out), Bw (pe34 HH.out)⟩
      · have D17 := (pj17 HH.out) (ready_dep2 hi 17 (by kernel_rfl))
        clear hi HCL
        simp only [List.setIfInBounds_toArray, List.set_cons_succ, List.set_cons_zero, D17]
        refine wpOp_one rfl rfl ?_
        intro K hK
        go_wp2_with fail
        rw [HJ0.out]
        exact ⟨tok, x2, x45, x46, x47, x48, x49, x50, x51, x52, x53, x54, x55, x56, x57, x58, x59, x60, x61, x62, .bool true, x64, x65, x66, x67, x68, x69, x70, x71, x72, x73, x74, x75, x76, (by simp only [List.setIfInBounds_toArray, List.set_cons_succ, List.set_cons_zero, D17]), Bk (pj0 HH.out), Bk (pj1 HH.out), Bk (pj2 HH.out), Bk (pj3 HH.out), Bk (pj4 HH.out), Bk (pj5 HH.out), Bk (pj6 HH.out), Bk (pj7 HH.out), Bk (pj8 HH.out), Bk (pj9 HH.out), Bk (pj10 HH.out), Bk (pj11 HH.out), Bk (pj12 HH.out), Bk (pj13 HH.out), Bk (pj14 HH.out), Bk (pj15 HH.out), Bk (pj16 HH.out), Bk (pj17 HH.out), fun _ => rfl, Bk (pj19 HH.out), Bk (pj20 HH.out), Bk (pj21 HH.out), Bk (pj22 HH.out), Bk (pj23 HH.out), Bk (pj24 HH.out), Bk (pj25 HH.out), Bk (pj26 HH.out), Bk (pj27 HH.out), Bk (pj28 HH.out), Bk (pj29 HH.out), Bk (pj30 HH.out), Bk (pj31 HH.out), Bk (pj32 HH.out), Bi (pj33 HH.out), Bw (pe34 HH.out)⟩
      · have D18 := (pj18 HH.out) (ready_dep2 hi 18 (by kernel_rfl))
        clear hi HCL
        simp only [List.setIfInBounds_toArray, List.set_cons_succ, List.set_cons_zero, D18]
        refine wpOp_yes rfl (by rfl) ?_
        intro K hK
        go_wp2_with fail
        rw [HJ0.out]
        exact ⟨tok, x2, x45, x46, x47, x48, x49, x50, x51, x52, x53, x54, x55, x56, x57, x58, x59, x60, x61, x62, x63, .slice none 0 0, x65, x66, x67, x68, x69, x70, x71, x72, x73, x74, x75, x76, (by simp only [List.setIfInBounds_toArray, List.set_cons_succ, List.set_cons_zero, D18]), Bk (pj0 HH.out), Bk (pj1 HH.out), Bk (pj2 HH.out), Bk (pj3 HH.out), Bk (pj4 HH.out), Bk (pj5 HH.out), Bk (pj6 HH.out), Bk (pj7 HH.out), Bk (pj8 HH.out), Bk (pj9 HH.out), Bk (pj10 HH.out), Bk (pj11 HH.out), Bk (pj12 HH.out), Bk (pj13 HH.out), Bk (pj14 HH.out), Bk (pj15 HH.out), Bk (pj16 HH.out), Bk (pj17 HH.out), Bk (pj18 HH.out), fun _ => rfl, Bk (pj20 HH.out), Bk (pj21 HH.out), Bk (pj22 HH.out), Bk (pj23 HH.out), Bk (pj24 HH.out), Bk (pj25 HH.out), Bk (pj26 HH.out), Bk (pj27 HH.out), Bk (pj28 HH.out), Bk (pj29 HH.out), Bk (pj30 HH.out), Bk (pj31 HH.out), Bk (pj32 HH.out), Bi (pj33 HH.out), Bw (pe34 HH.out)⟩
      · have hns : ¬ Ls listed 32 := fun h => hnl (HCL.out.dep2 (HCL.out.dep2 (HCL.out.dep2 h 31 (by kernel_rfl)) 30 (by kernel_rfl)) 20 (by kernel_rfl))
        have D18 := (pj18 HH.out) (ready_dep2 hi 18 (by kernel_rfl))
        have D19 := (pj19 HH.out) (ready_dep2 hi 19 (by kernel_rfl))
        have V0 := (pj33 HH.out) hns
        clear hi HCL
        simp only [List.setIfInBounds_toArray, List.set_cons_succ, List.set_cons_zero, D18, D19]
        refine wpOp_yes rfl (by rfl) ?_
        intro K hK
        go_wp2_with fail
        refine (StmtTokenCount_impl 6 0 _ _ _ [] W (HRw.out.below V0) (by omega)).mono ?_
        rintro e y ⟨he, hb, hs⟩
        obtain rfl : e = .returned (.int .i64 0) := by rw [he, HT.out] <;> rfl
        go_wp2_with fail
        rw [HJ0.out]
        exact ⟨tok, x2, x45, x46, x47, x48, x49, x50, x51, x52, x53, x54, x55, x56, x57, x58, x59, x60, x61, x62, x63, x64, .int .i64 0, x66, x67, x68, x69, x70, x71, x72, x73, x74, x75, x76, (by simp only [List.setIfInBounds_toArray, List.set_cons_succ, List.set_cons_zero, D18, D19]), Bk (pj0 HH.out), Bk (pj1 HH.out), Bk (pj2 HH.out), Bk (pj3 HH.out), Bk (pj4 HH.out), Bk (pj5 HH.out), Bk (pj6 HH.out), Bk (pj7 HH.out), Bk (pj8 HH.out), Bk (pj9 HH.out), Bk (pj10 HH.out), Bk (pj11 HH.out), Bk (pj12 HH.out), Bk (pj13 HH.out), Bk (pj14 HH.out), Bk (pj15 HH.out), Bk (pj16 HH.out), Bk (pj17 HH.out), Bk (pj18 HH.out), Bk (pj19 HH.out), fun _ => rfl, Bk (pj21 HH.out), Bk (pj22 HH.out), Bk (pj23 HH.out), Bk (pj24 HH.out), Bk (pj25 HH.out), Bk (pj26 HH.out), Bk (pj27 HH.out), Bk (pj28 HH.out), Bk (pj29 HH.out), Bk (pj30 HH.out), Bk (pj31 HH.out), fun h => absurd (h.back (by decide)) hns, fun h => belT ((pj33 HH.out) (fun h2 => h h2.fwd)) hb, fun h1 _ => absurd (h1.back (by decide)) hns⟩
      · have D18 := (pj18 HH.out) (ready_dep2 hi 18 (by kernel_rfl))
        clear hi HCL
        simp only [List.setIfInBounds_toArray, List.set_cons_succ, List.set_cons_zero, D18]
        refine wpOp_yes rfl (by rfl) ?_
        intro K hK
        go_wp2_with fail
        rw [HJ0.out]
        exact ⟨tok, x2, x45, x46, x47, x48, x49, x50, x51, x52, x53, x54, x55, x56, x57, x58, x59, x60, x61, x62, x63, x64, x65, .slice none 0 0, x67, x68, x69, x70, x71, x72, x73, x74, x75, x76, (by simp only [List.setIfInBounds_toArray, List.set_cons_succ, List.set_cons_zero, D18]), Bk (pj0 HH.out), Bk (pj1 HH.out), Bk (pj2 HH.out), Bk (pj3 HH.out), Bk (pj4 HH.out), Bk (pj5 HH.out), Bk (pj6 HH.out), Bk (pj7 HH.out), Bk (pj8 HH.out), Bk (pj9 HH.out), Bk (pj10 HH.out), Bk (pj11 HH.out), Bk (pj12 HH.out), Bk (pj13 HH.out), Bk (pj14 HH.out), Bk (pj15 HH.out), Bk (pj16 HH.out), Bk (pj17 HH.out), Bk (pj18 HH.out), Bk (pj19 HH.out), Bk (pj20 HH.out), fun _ => rfl, Bk (pj22 HH.out), Bk (pj23 HH.out), Bk (pj24 HH.out), Bk (pj25 HH.out), Bk (pj26 HH.out), Bk (pj27 HH.out), Bk (pj28 HH.out), Bk (pj29 HH.out), Bk (pj30 HH.out), Bk (pj31 HH.out), Bk (pj32 HH.out), Bi (pj33 HH.out), Bw (pe34 HH.out)⟩
      · have D18 := (pj18 HH.out) (ready_dep2 hi 18 (by kernel_rfl))
        clear hi HCL
        simp only [List.setIfInBounds_toArray, List.set_cons_succ, List.set_cons_zero, D18]
        refine wpOp_yes rfl (by rfl) ?_
        intro K hK
        go_wp2_with fail
        rw [HJ0.out]
        exact ⟨tok, x2, x45, x46, x47, x48, x49, x50, x51, x52, x53, x54, x55, x56, x57, x58, x59, x60, x61, x62, x63, x64, x65, x66, .int .i64 0, x68, x69, x70, x71, x72, x73, x74, x75, x76, (by simp only [List.setIfInBounds_toArray, List.set_cons_succ, List.set_cons_zero, D18]), Bk (pj0 HH.out), Bk (pj1 HH.out), Bk (pj2 HH.out), Bk (pj3 HH.out), Bk (pj4 HH.out), Bk (pj5 HH.out), Bk (pj6 HH.out), Bk (pj7 HH.out), Bk (pj8 HH.out), Bk (pj9 HH.out), Bk (pj10 HH.out), Bk (pj11 HH.out), Bk (pj12 HH.out), Bk (pj13 HH.out), Bk (pj14 HH.out), Bk (pj15 HH.out), Bk (pj16 HH.out), Bk (pj17 HH.out), Bk (pj18 HH.out), Bk (pj19 HH.out), Bk (pj20 HH.out), Bk (pj21 HH.out), fun _ => rfl, Bk (pj23 HH.out), Bk (pj24 HH.out), Bk (pj25 HH.out), Bk (pj26 HH.out), Bk (pj27 HH.out), Bk (pj28 HH.out), Bk (pj29 HH.out), Bk (pj30 HH.out), Bk (pj31 HH.out), Bk (pj32 HH.out), Bi (pj33 HH.out), Bw (pe34 HH.out)⟩
      · have D18 := (pj18 HH.out) (ready_dep2 hi 18 (by kernel_rfl))
        have D21 := (pj21 HH.out) (ready_dep2 hi 21 (by kernel_rfl))
        have D22 := (pj22 HH.out) (ready_dep2 hi 22 (by kernel_rfl))
        clear hi HCL
        simp only [List.setIfInBounds_toArray, List.set_cons_succ, List.set_cons_zero, D18, D21, D22]
        refine wpOp_yes rfl (by rfl) ?_
        intro K hK
        go_wp2_with fail
        rw [HJ0.out]
        exact ⟨tok, x2, x45, x46, x47, x48, x49, x50, x51, x52, x53, x54, x55, x56, x57, x58, x59, x60, x61, x62, x63, x64, x65, x66, x67, .slice none 0 0, x69, x70, x71, x72, x73, x74, x75, x76, (by simp only [List.setIfInBounds_toArray, List.set_cons_succ, List.set_cons_zero, D18, D21, D22]), Bk (pj0 HH.out), Bk (pj1 HH.out), Bk (pj2 HH.out), Bk (pj3 HH.out), Bk (pj4 HH.out), Bk (pj5 HH.out), Bk (pj6 HH.out), Bk (pj7 HH.out), Bk (pj8 HH.out), Bk (pj9 HH.out), Bk (pj10 HH.out), Bk (pj11 HH.out), Bk (pj12 HH.out), Bk (pj13 HH.out), Bk (pj14 HH.out), Bk (pj15 HH.out), Bk (pj16 HH.out), Bk (pj17 HH.out), Bk (pj18 HH.out), Bk (pj19 HH.out), Bk (pj20 HH.out), Bk (pj21 HH.out), Bk (pj22 HH.out), fun _ => rfl, Bk (pj24 HH.out), Bk (pj25 HH.out), Bk (pj26 HH.out), Bk (pj27 HH.out), Bk (pj28 HH.out), Bk (pj29 HH.out), Bk (pj30 HH.out), Bk (pj31 HH.out), Bk (pj32 HH.out), Bi (pj33 HH.out), Bw (pe34 HH.out)⟩
      · have hns : ¬ Ls listed 32 := fun h => hnl (HCL.out.dep2 (HCL.out.dep2 (HCL.out.dep2 (HCL.out.dep2 h 31 (by kernel_rfl)) 30 (by kernel_rfl)) 29 (by kernel_rfl)) 24 (by kernel_rfl))
        have D18 := (pj18 HH.out) (ready_dep2 hi 18 (by kernel_rfl))
        have D23 := (pj23 HH.out) (ready_dep2 hi 23 (by kernel_rfl))
        have V0 := (pj33 HH.out) hns
        clear hi HCL
        simp only [List.setIfInBounds_toArray, List.set_cons_succ, List.set_cons_zero, D18, D23]
        refine wpOp_yes rfl (by rfl) ?_
        intro K hK
        go_wp2_with fail
        refine (StmtTokenCount_impl 6 0 _ _ _ [] W (HRw.out.below V0) (by omega)).mono ?_
        rintro e y ⟨he, hb, hs⟩
        obtain rfl : e = .returned (.int .i64 0) := by rw [he, HT.out] <;> rfl
        go_wp2_with fail
        rw [HJ0.out]
        exact ⟨tok, x2, x45, x46, x47, x48, x49, x50, x51, x52, x53, x54, x55, x56, x57, x58, x59, x60, x61, x62, x63, x64, x65, x66, x67, x68, .int .i64 0, x70, x71, x72, x73, x74, x75, x76, (by simp only [List.setIfInBounds_toArray, List.set_cons_succ, List.set_cons_zero, D18, D23]), Bk (pj0 HH.out), Bk (pj1 HH.out), Bk (pj2 HH.out), Bk (pj3 HH.out), Bk (pj4 HH.out), Bk (pj5 HH.out), Bk (pj6 HH.out), Bk (pj7 HH.out), Bk (pj8 HH.out), Bk (pj9 HH.out), Bk (pj10 HH.out), Bk (pj11 HH.out), Bk (pj12 HH.out), Bk (pj13 HH.out), Bk (pj14 HH.out), Bk (pj15 HH.out), Bk (pj16 HH.out), Bk (pj17 HH.out), Bk (pj18 HH.out), Bk (pj19 HH.out), Bk (pj20 HH.out), Bk (pj21 HH.out), Bk (pj22 HH.out), Bk (pj23 HH.out), fun _ => rfl, Bk (pj25 HH.out), Bk (pj26 HH.out), Bk (pj27 HH.out), Bk (pj28 HH.out), Bk (pj29 HH.out), Bk (pj30 HH.out), Bk (pj31 HH.out), fun h => absurd (h.back (by decide)) hns, fun h => belT ((pj33 HH.out) (fun h2 => h h2.fwd)) hb, fun h1 _ => absurd (h1.back (by decide)) hns⟩
      · have D18 := (pj18 HH.out) (ready_dep2 hi 18 (by kernel_rfl))
        clear hi HCL
        simp only [List.setIfInBounds_toArray, List.set_cons_succ, List.set_cons_zero, D18]
        refine wpOp_yes rfl (by rfl) ?_
        intro K hK
        go_wp2_with fail
        rw [HJ0.out]
        exact ⟨tok, x2, x45, x46, x47, x48, x49, x50, x51, x52, x53, x54, x55, x56, x57, x58, x59, x60, x61, x62, x63, x64, x65, x66, x67, x68, x69, .slice none 0 0, x71, x72, x73, x74, x75, x76, (by simp only [List.setIfInBounds_toArray, List.set_cons_succ, List.set_cons_zero, D18]), Bk (pj0 HH.out), Bk (pj1 HH.out), Bk (pj2 HH.out), Bk (pj3 HH.out), Bk (pj4 HH.out), Bk (pj5 HH.out), Bk (pj6 HH.out), Bk (pj7 HH.out), Bk (pj8 HH.out), Bk (pj9 HH.out), Bk (pj10 HH.out), Bk (pj11 HH.out), Bk (pj12 HH.out), Bk (pj13 HH.out), Bk (pj14 HH.out), Bk (pj15 HH.out), Bk (pj16 HH.out), Bk (pj17 HH.out), Bk (pj18 HH.out), Bk (pj19 HH.out), Bk (pj20 HH.out), Bk (pj21 HH.out), Bk (pj22 HH.out), Bk (pj23 HH.out), Bk (pj24 HH.out), fun _ => rfl, Bk (pj26 HH.out), Bk (pj27 HH.out), Bk (pj28 HH.out), Bk (pj29 HH.out), Bk (pj30 HH.out), Bk (pj31 HH.out), Bk (pj32 HH.out), Bi (pj33 HH.out), Bw (pe34 HH.out)⟩
      · have D18 := (pj18 HH.out) (ready_dep2 hi 18 (by kernel_rfl))
        clear hi HCL
        simp only [List.setIfInBounds_toArray, List.set_cons_succ, List.set_cons_zero, D18]
        refine wpOp_yes rfl (by rfl) ?_
        intro K hK
        go_wp2_with fail
        rw [HJ0.out]
        exact ⟨tok, x2, x45, x46, x47, x48, x49, x50, x51, x52, x53, x54, x55, x56, x57, x58, x59, x60, x61, x62, x63, x64, x65, x66, x67, x68, x69, x70, .int .i64 0, x72, x73, x74, x75, x76, (by simp only [List.setIfInBounds_toArray, List.set_cons_succ, List.set_cons_zero, D18]), Bk (pj0 HH.out), Bk (pj1 HH.out), Bk (pj2 HH.out), Bk (pj3 HH.out), Bk (pj4 HH.out), Bk (pj5 HH.out), Bk (pj6 HH.out), Bk (pj7 HH.out), Bk (pj8 HH.out), Bk (pj9 HH.out), Bk (pj10 HH.out), Bk (pj11 HH.out), Bk (pj12 HH.out), Bk (pj13 HH.out), Bk (pj14 HH.out), Bk (pj15 HH.out), Bk (pj16 HH.out), Bk (pj17 HH.out), Bk (pj18 HH.out), Bk (pj19 HH.out), Bk (pj20 HH.out), Bk (pj21 HH.out), Bk (pj22 HH.out), Bk (pj23 HH.out), Bk (pj24 HH.out), Bk (pj25 HH.out), fun _ => rfl, Bk (pj27 HH.out), Bk (pj28 HH.out), Bk (pj29 HH.out), Bk (pj30 HH.out), Bk (pj31 HH.out), Bk (pj32 HH.out), Bi (pj33 HH.out), Bw (pe34 HH.out)⟩
      · have D18 := (pj18 HH.out) (ready_dep2 hi 18 (by kernel_rfl))
        have D25 := (pj25 HH.out) (ready_dep2 hi 25 (by kernel_rfl))
        have D26 := (pj26 HH.out) (ready_dep2 hi 26 (by kernel_rfl))
        clear hi HCL
        simp only [List.setIfInBounds_toArray, List.set_cons_succ, List.set_cons_zero, D18, D25, D26]
        refine wpOp_yes rfl (by rfl) ?_
        intro K hK
        go_wp2_with fail
        rw [HJ0.out]
        exact ⟨tok, x2, x45, x46, x47, x48, x49, x50, x51, x52, x53, x54, x55, x56, x57, x58, x59, x60, x61, x62, x63, x64, x65, x66, x67, x68, x69, x70, x71, .slice none 0 0, x73, x74, x75, x76, (by simp only [List.setIfInBounds_toArray, List.set_cons_succ, List.set_cons_zero, D18, D25, D26]), Bk (pj0 HH.out), Bk (pj1 HH.out), Bk (pj2 HH.out), Bk (pj3 HH.out), Bk (pj4 HH.out), Bk (pj5 HH.out), Bk (pj6 HH.out), Bk (pj7 HH.out), Bk (pj8 HH.out), Bk (pj9 HH.out), Bk (pj10 HH.out), Bk (pj11 HH.out), Bk (pj12 HH.out), Bk (pj13 HH.out), Bk (pj14 HH.out), Bk (pj15 HH.out), Bk (pj16 HH.out), Bk (pj17 HH.out), Bk (pj18 HH.out), Bk (pj19 HH.out), Bk (pj20 HH.out), Bk (pj21 HH.out), Bk (pj22 HH.out), Bk (pj23 HH.out), Bk (pj24 HH.out), Bk (pj25 HH.out), Bk (pj26 HH.out), fun _ => rfl, Bk (pj28 HH.out), Bk (pj29 HH.out), Bk (pj30 HH.out), Bk (pj31 HH.out), Bk (pj32 HH.out), Bi (pj33 HH.out), Bw (pe34 HH.out)⟩
      · have hns : ¬ Ls listed 32 := fun h => hnl (HCL.out.dep2 (HCL.out.dep2 (HCL.out.dep2 (HCL.out.dep2 h 31 (by kernel_rfl)) 30 (by kernel_rfl)) 29 (by kernel_rfl)) 28 (by kernel_rfl))
        have D18 := (pj18 HH.out) (ready_dep2 hi 18 (by kernel_rfl))
        have D27 := (pj27 HH.out) (ready_dep2 hi 27 (by kernel_rfl))
        have V0 := (pj33 HH.out) hns
        clear hi HCL
        simp only [List.setIfInBounds_toArray, List.set_cons_succ, List.set_cons_zero, D18, D27]
        refine wpOp_yes rfl (by rfl) ?_
        intro K hK
        go_wp2_with fail
        refine (StmtTokenCount_impl 6 0 _ _ _ [] W (HRw.out.below V0) (by omega)).mono ?_
        rintro e y ⟨he, hb, hs⟩
        obtain rfl : e = .returned (.int .i64 0) := by rw [he, HT.out] <;> rfl
        go_wp2_with fail
        rw [HJ0.out]
        exact ⟨tok, x2, x45, x46, x47, x48, x49, x50, x51, x52, x53, x54, x55, x56, x57, x58, x59, x60, x61, x62, x63, x64, x65, x66, x67, x68, x69, x70, x71, x72, .int .i64 0, x74, x75, x76, (by simp only [List.setIfInBounds_toArray, List.set_cons_succ, List.set_cons_zero, D18, D27]), Bk (pj0 HH.out), Bk (pj1 HH.out), Bk (pj2 HH.out), Bk (pj3 HH.out), Bk (pj4 HH.out), Bk (pj5 HH.out), Bk (pj6 HH.out), Bk (pj7 HH.out), Bk (pj8 HH.out), Bk (pj9 HH.out), Bk (pj10 HH.out), Bk (pj11 HH.out), Bk (pj12 HH.out), Bk (pj13 HH.out), Bk (pj14 HH.out), Bk (pj15 HH.out), Bk (pj16 HH.out), Bk (pj17 HH.out), Bk (pj18 HH.out), Bk (pj19 HH.out), Bk (pj20 HH.out), Bk (pj21 HH.out), Bk (pj22 HH.out), Bk (pj23 HH.out), Bk (pj24 HH.out), Bk (pj25 HH.out), Bk (pj26 HH.out), Bk (pj27 HH.out), fun _ => rfl, Bk (pj29 HH.out), Bk (pj30 HH.out), Bk (pj31 HH.out), fun h => absurd (h.back (by decide)) hns, fun h => belT ((pj33 HH.out) (fun h2 => h h2.fwd)) hb, fun h1 _ => absurd (h1.back (by decide)) hns⟩
      · have D18 := (pj18 HH.out) (ready_dep2 hi 18 (by kernel_rfl))
        have D24 := (pj24 HH.out) (ready_dep2 hi 24 (by kernel_rfl))
        have D28 := (pj28 HH.out) (ready_dep2 hi 28 (by kernel_rfl))
        clear hi HCL
        simp only [List.setIfInBounds_toArray, List.set_cons_succ, List.set_cons_zero, D18, D24, D28]
        refine wpOp_yes rfl (by rfl) ?_
        intro K hK
        go_wp2_with fail
        rw [HJ0.out]
        exact ⟨tok, x2, x45, x46, x47, x48, x49, x50, x51, x52, x53, x54, x55, x56, x57, x58, x59, x60, x61, x62, x63, x64, x65, x66, x67, x68, x69, x70, x71, x72, x73, .int .i64 0, x75, x76, (by simp only [List.setIfInBounds_toArray, List.set_cons_succ, List.set_cons_zero, D18, D24, D28]), Bk (pj0 HH.out), Bk (pj1 HH.out), Bk (pj2 HH.out), Bk (pj3 HH.out), Bk (pj4 HH.out), Bk (pj5 HH.out), Bk (pj6 HH.out), Bk (pj7 HH.out), Bk (pj8 HH.out), Bk (pj9 HH.out), Bk (pj10 HH.out), Bk (pj11 HH.out), Bk (pj12 HH.out), Bk (pj13 HH.out), Bk (pj14 HH.out), Bk (pj15 HH.out), Bk (pj16 HH.out), Bk (pj17 HH.out), Bk (pj18 HH.out), Bk (pj19 HH.out), Bk (pj20 HH.out), Bk (pj21 HH.out), Bk (pj22 HH.out), Bk (pj23 HH.out), Bk (pj24 HH.out), Bk (pj25 HH.out), Bk (pj26 HH.out), Bk (pj27 HH.out), Bk (pj28 HH.out), fun _ => rfl, Bk (pj30 HH.out), Bk (pj31 HH.out), Bk (pj32 HH.out), Bi (pj33 HH.out), Bw (pe34 HH.out)⟩
      · have D18 := (pj18 HH.out) (ready_dep2 hi 18 (by kernel_rfl))
        have D20 := (pj20 HH.out) (ready_dep2 hi 20 (by kernel_rfl))
        have D29 := (pj29 HH.out) (ready_dep2 hi 29 (by kernel_rfl))
        clear hi HCL
        simp only [List.setIfInBounds_toArray, List.set_cons_succ, List.set_cons_zero, D18, D20, D29]
        refine wpOp_yes rfl (by rfl) ?_
        intro K hK
        go_wp2_with fail
        rw [HJ0.out]
        exact ⟨tok, x2, x45, x46, x47, x48, x49, x50, x51, x52, x53, x54, x55, x56, x57, x58, x59, x60, x61, x62, x63, x64, x65, x66, x67, x68, x69, x70, x71, x72, x73, x74, .bool true, x76, (by simp only [List.setIfInBounds_toArray, List.set_cons_succ, List.set_cons_zero, D18, D20, D29]), Bk (pj0 HH.out), Bk (pj1 HH.out), Bk (pj2 HH.out), Bk (pj3 HH.out), Bk (pj4 HH.out), Bk (pj5 HH.out), Bk (pj6 HH.out), Bk (pj7 HH.out), Bk (pj8 HH.out), Bk (pj9 HH.out), Bk (pj10 HH.out), Bk (pj11 HH.out), Bk (pj12 HH.out), Bk (pj13 HH.out), Bk (pj14 HH.out), Bk (pj15 HH.out), Bk (pj16 HH.out), Bk (pj17 HH.out), Bk (pj18 HH.out), Bk (pj19 HH.out), Bk (pj20 HH.out), Bk (pj21 HH.out), Bk (pj22 HH.out), Bk (pj23 HH.out), Bk (pj24 HH.out), Bk (pj25 HH.out), Bk (pj26 HH.out), Bk (pj27 HH.out), Bk (pj28 HH.out), Bk (pj29 HH.out), fun _ => rfl, Bk (pj31 HH.out), Bk (pj32 HH.out), Bi (pj33 HH.out), Bw (pe34 HH.out)⟩
      · have D18 := (pj18 HH.out) (ready_dep2 hi 18 (by kernel_rfl))
        have D30 := (pj30 HH.out) (ready_dep2 hi 30 (by kernel_rfl))
        clear hi HCL
        simp only [List.setIfInBounds_toArray, List.set_cons_succ, List.set_cons_zero, D18, D30]
        refine wpOp_one rfl rfl ?_
        intro K hK
        go_wp2_with fail
        rw [HJ0.out]
        exact ⟨tok, x2, x45, x46, x47, x48, x49, x50, x51, x52, x53, x54, x55, x56, x57, x58, x59, x60, x61, x62, x63, x64, x65, x66, x67, x68, x69, x70, x71, x72, x73, x74, x75, .bool true, (by simp only [List.setIfInBounds_toArray, List.set_cons_succ, List.set_cons_zero, D18, D30]), Bk (pj0 HH.out), Bk (pj1 HH.out), Bk (pj2 HH.out), Bk (pj3 HH.out), Bk (pj4 HH.out), Bk (pj5 HH.out), Bk (pj6 HH.out), Bk (pj7 HH.out), Bk (pj8 HH.out), Bk (pj9 HH.out), Bk (pj10 HH.out), Bk (pj11 HH.out), Bk (pj12 HH.out), Bk (pj13 HH.out), Bk (pj14 HH.out), Bk (pj15 HH.out), Bk (pj16 HH.out), Bk (pj17 HH.out), Bk (pj18 HH.out), Bk (pj19 HH.out), Bk (pj20 HH.out), Bk (pj21 HH.out), Bk (pj22 HH.out), Bk (pj23 HH.out), Bk (pj24 HH.out), Bk (pj25 HH.out), Bk (pj26 HH.out), Bk (pj27 HH.out), Bk (pj28 HH.out), Bk (pj29 HH.out), Bk (pj30 HH.out), fun _ => rfl, Bk (pj32 HH.out), Bi (pj33 HH.out), Bw (pe34 HH.out)⟩
      · have hns : ¬ Ls listed 32 := hnl
        have D31 := (pj31 HH.out) (ready_dep2 hi 31 (by kernel_rfl))
        have V0 := (pj33 HH.out) hns
        clear hi HCL
        simp only [List.setIfInBounds_toArray, List.set_cons_succ, List.set_cons_zero, D31]
        refine wpOp_one rfl rfl ?_
        intro K hK
        go_wp2_with fail
        rw [HJ0.out]
        exact ⟨tok, .bool true, x45, x46, x47, x48, x49, x50, x51, x52, x53, x54, x55, x56, x57, x58, x59, x60, x61, x62, x63, x64, x65, x66, x67, x68, x69, x70, x71, x72, x73, x74, x75, x76, (by first | (simp only [List.setIfInBounds_toArray, List.set_cons_succ, List.set_cons_zero, D31] <;> fail) | simp only [Act.put, List.setIfInBounds_toArray, List.set_cons_succ, List.set_cons_zero, D31]), Bk (pj0 HH.out), Bk (pj1 HH.out), Bk (pj2 HH.out), Bk (pj3 HH.out), Bk (pj4 HH.out), Bk (pj5 HH.out), Bk (pj6 HH.out), Bk (pj7 HH.out), Bk (pj8 HH.out), Bk (pj9 HH.out), Bk (pj10 HH.out), Bk (pj11 HH.out), Bk (pj12 HH.out), Bk (pj13 HH.out), Bk (pj14 HH.out), Bk (pj15 HH.out), Bk (pj16 HH.out), Bk (pj17 HH.out), Bk (pj18 HH.out), Bk (pj19 HH.out), Bk (pj20 HH.out), Bk (pj21 HH.out), Bk (pj22 HH.out), Bk (pj23 HH.out), Bk (pj24 HH.out), Bk (pj25 HH.out), Bk (pj26 HH.out), Bk (pj27 HH.out), Bk (pj28 HH.out), Bk (pj29 HH.out), Bk (pj30 HH.out), Bk (pj31 HH.out), fun _ => ⟨rfl, V0⟩, fun h => absurd hnow h, fun _ h => absurd hnow h⟩
    · intro listed a W hsize hJ hr
      rw [HJ0.out] at hJ
      have hall := all_listed hsize (by kernel_rfl) hr
      obtain ⟨tok, x2, x45, x46, x47, x48, x49, x50, x51, x52, x53, x54, x55, x56, x57, x58, x59, x60, x61, x62, x63, x64, x65, x66, x67, x68, x69, x70, x71, x72, x73, x74, x75, x76, rfl, HF⟩ := hJ
      have HH := Lib.hid HF
      have HEND := (pj32 HH.out) (hall 32 (by decide))
      clear HF HH hall hr hsize
      simp only [List.setIfInBounds_toArray, List.set_cons_succ, List.set_cons_zero]
      obtain ⟨rfl, hbF⟩ := HEND
      have HBF := Lib.hid hbF
      clear hbF
      go_wp2_with fail
      go_ret
      exact ⟨rfl, HB1.out.trans ((B2.out.trans (HBF.out.mono (by omega))).mono hs1)⟩
  · by_cases hck : c1 = k
    · obtain rfl : m = k := by omega
      subst hck
      have RD : Hid (RdT w2 0 6 (some ⟨g, 0, none⟩) 0 (l.drop c1)) := RdT.dropE HRw.out
      go_wp2_with fail
      refine (NestingDepth_impl 6 0 _ _ _ (l.take c1) w2 RT.out (by omega)).mono ?_
      rintro e w3 ⟨rfl, b3, s3⟩
      rw [← HEa.out]
      have B3 := Lib.hid b3
      clear b3
      go_wp2_with fail
      refine (NestingDepth_impl 6 0 _ _ _ (l.drop c1) w3 (RD.out.below B3.out) (by omega)).mono ?_
      rintro e w4 ⟨rfl, b4, s4⟩
      rw [← HEb.out]
      have B4 := Lib.hid (B3.out.trans (b4.mono (by omega)))
      clear b4
      go_wp2_with fail
      refine (NestingDepth_spec 6 0 _ _ _ l w4 (HRw.out.below B4.out) (by omega)).mono ?_
      rintro e w5 ⟨rfl, b5, s5⟩
      rw [← HEN.out]
      have B5 := Lib.hid (B4.out.trans (b5.mono (by omega)))
      clear b5
      go_wp2_with fail
      refine (StmtTokenCount_impl 6 0 _ _ _ l w5 (HRw.out.below B5.out) (by omega)).mono ?_
      rintro e w6 ⟨rfl, b6, s6⟩
      have B6 := Lib.hid (B5.out.trans (b6.mono (by omega)))
      clear b6
      go_wp2_with fail
      refine (StmtTokenCount_spec 6 0 _ _ _ l w6 (HRw.out.below B6.out) (by omega)).mono ?_
      rintro e w7 ⟨rfl, b7, s7⟩
      have B7 := Lib.hid (B6.out.trans (b7.mono (by omega)))
      clear b7
      go_wp2_with fail
      refine (EqualStmts_impl 6 0 0 _ _ _ _ _ _ l l w7 (HRw.out.below B7.out) (HRw.out.below B7.out) (by omega) (by omega)).mono ?_
      rintro e w8 ⟨rfl, b8, s8⟩
      rw [eqTs_refl]
      have B8 := Lib.hid (B7.out.trans (b8.mono (by omega)))
      clear b8
      go_upto_region 10 with (fail)
      obtain ⟨T, hT⟩ : ∃ T, tokT 6 l = T := ⟨_, rfl⟩
      have HT := Lib.hid hT
      have HT2 : Hid (tokT 6 (l.drop c1) = 0) := by
        show tokT 6 (l.drop c1) = 0
        rw [List.drop_of_length_le (by rw [HLN.out]; exact Nat.le_refl _)]
        rfl
      have hTb : T ≤ 400000 := by have := tokT_le 6 l; omega
      clear hT
      clear B3 B4 B5 B6 B7
      obtain rfl : aa = N := by rw [HEa.out, HEN.out, List.take_of_length_le (by rw [HLN.out]; exact Nat.le_refl _)]
      obtain rfl : bb = 0 := by
        rw [HEb.out, List.drop_of_length_le (by rw [HLN.out]; exact Nat.le_refl _)]
        rfl
      rw [show ((0 : Nat) : Int) = (0 : Int) from rfl]
      have d1 : decide (aa ≤ aa) = true := decide_eq_true (by omega)
      have d2 : decide (0 ≤ aa) = true := decide_eq_true (by omega)
      have d3 : decide ((aa : Int) ≤ (aa : Int)) = true := decide_eq_true (by omega)
      have d4 : decide ((0 : Int) ≤ (aa : Int)) = true := decide_eq_true (by omega)
      obtain ⟨J0, hJ0⟩ : ∃ J : Array Value → Array Bool → Act → World → Prop, J = (fun A0 listed a W => ∃ (tok : Nat), ∃ x2 x45 x46 x47 x48 x49 x50 x51 x52 x53 x54 x55 x56 x57 x58 x59 x60 x61 x62 x63 x64 x65 x66 x67 x68 x69 x70 x71 x72 x73 x74 x75 x76 : Value, a = ⟨(((((((((((((((((((((((((((((((((A0.setIfInBounds 2 x2).setIfInBounds 45 x45).setIfInBounds 46 x46).setIfInBounds 47 x47).setIfInBounds 48 x48).setIfInBounds 49 x49).setIfInBounds 50 x50).setIfInBounds 51 x51).setIfInBounds 52 x52).setIfInBounds 53 x53).setIfInBounds 54 x54).setIfInBounds 55 x55).setIfInBounds 56 x56).setIfInBounds 57 x57).setIfInBounds 58 x58).setIfInBounds 59 x59).setIfInBounds 60 x60).setIfInBounds 61 x61).setIfInBounds 62 x62).setIfInBounds 63 x63).setIfInBounds 64 x64).setIfInBounds 65 x65).setIfInBounds 66 x66).setIfInBounds 67 x67).setIfInBounds 68 x68).setIfInBounds 69 x69).setIfInBounds 70 x70).setIfInBounds 71 x71).setIfInBounds 72 x72).setIfInBounds 73 x73).setIfInBounds 74 x74).setIfInBounds 75 x75).setIfInBounds 76 x76), []⟩ ∧ (Ls listed 0 → x45 = .int .i64 aa) ∧ (Ls listed 1 → x46 = .int .i64 aa) ∧ (Ls listed 2 → x47 = .bool true) ∧ (Ls listed 3 → x48 = .bool true) ∧ (Ls listed 4 → True) ∧ (Ls listed 5 → True) ∧ (Ls listed 6 → True) ∧ (Ls listed 7 → x52 = .bool true) ∧ (Ls listed 8 → x53 = .bool true) ∧ (Ls listed 9 → x54 = .int .i64 aa) ∧ (Ls listed 10 → x55 = .int .i64 aa) ∧ (Ls listed 11 → x56 = .bool true) ∧ (Ls listed 12 → x57 = .bool true) ∧ (Ls listed 13 → x58 = .bool true) ∧ (Ls listed 14 → x59 = .int .i64 aa) ∧ (Ls listed 15 → x60 = .int .i64 0) ∧ (Ls listed 16 → x61 = .bool true) ∧ (Ls listed 17 → x62 = .bool true) ∧ (Ls listed 18 → x63 = .bool true) ∧ (Ls listed 19 → x64 = .slice (some ⟨g, 0, none⟩) c1 c1) ∧ (Ls listed 20 → x65 = .int .i64 T) ∧ (Ls listed 21 → x66 = .slice (some ⟨g, 0, none⟩) c1 c1) ∧ (Ls listed 22 → x67 = .int .i64 c1) ∧ (Ls listed 23 → x68 = .slice (some ⟨g, 0, none⟩) c1 c1) ∧ (Ls listed 24 → x69 = .int .i64 T) ∧ (Ls listed 25 → x70 = .slice (some ⟨g, 0, none⟩) c1 c1) ∧ (Ls listed 26 → x71 = .int .i64 c1) ∧ (Ls listed 27 → x72 = .slice (some ⟨g, 0, none⟩) 0 0) ∧ (Ls listed 28 → x73 = .int .i64 0) ∧ (Ls listed 29 → x74 = .int .i64 T) ∧ (Ls listed 30 → x75 = .bool true) ∧ (Ls listed 31 → x76 = .bool true) ∧ (Ls listed 32 → x2 = .bool true ∧ Below w2.heap.size w2 W) ∧ (¬ Ls listed 32 → Below w2.heap.size w2 W) ∧ (Ls listed 32 → ¬ Ls listed 32 → True)) := ⟨_, rfl⟩
      have HJ0 := Lib.hid hJ0
      clear hJ0
      refine wp_region_inv2 (by kernel_rfl) J0 ?_ ?_ ?_
      · intro A0
        rw [HJ0.out]
        exact ⟨0, A0.getD 2 undef, A0.getD 45 undef, A0.getD 46 undef, A0.getD 47 undef, A0.getD 48 undef, A0.getD 49 undef, A0.getD 50 undef, A0.getD 51 undef, A0.getD 52 undef, A0.getD 53 undef, A0.getD 54 undef, A0.getD 55 undef, A0.getD 56 undef, A0.getD 57 undef, A0.getD 58 undef, A0.getD 59 undef, A0.getD 60 undef, A0.getD 61 undef, A0.getD 62 undef, A0.getD 63 undef, A0.getD 64 undef, A0.getD 65 undef, A0.getD 66 undef, A0.getD 67 undef, A0.getD 68 undef, A0.getD 69 undef, A0.getD 70 undef, A0.getD 71 undef, A0.getD 72 undef, A0.getD 73 undef, A0.getD 74 undef, A0.getD 75 undef, A0.getD 76 undef, by simp only [set_self], fun h => h.none, fun h => h.none, fun h => h.none, fun h => h.none, fun h => h.none, fun h => h.none, fun h => h.none, fun h => h.none, fun h => h.none, fun h => h.none, fun h => h.none, fun h => h.none, fun h => h.none, fun h => h.none, fun h => h.none, fun h => h.none, fun h => h.none, fun h => h.none, fun h => h.none, fun h => h.none, fun h => h.none, fun h => h.none, fun h => h.none, fun h => h.none, fun h => h.none, fun h => h.none, fun h => h.none, fun h => h.none, fun h => h.none, fun h => h.none, fun h => h.none, fun h => h.none, fun h => h.none, fun _ => below_drewT B8.out, fun h => h.none⟩
      · intro listed a W hsize hcl hJ i hi
        have hil := ready_lt hi
        have hnl := ready_not hi
        have hnow := ready_now hi hsize
        have HCL := Lib.hid hcl
        rw [HJ0.out] at hJ
        obtain ⟨tok, x2, x45, x46, x47, x48, x49, x50, x51, x52, x53, x54, x55, x56, x57, x58, x59, x60, x61, x62, x63, x64, x65, x66, x67, x68, x69, x70, x71, x72, x73, x74, x75, x76, rfl, HF⟩ := hJ
        have HH := Lib.hid HF
        have hi2 : i = 0 ∨ i = 1 ∨ i = 2 ∨ i = 3 ∨ i = 4 ∨ i = 5 ∨ i = 6 ∨ i = 7 ∨ i = 8 ∨ i = 9 ∨ i = 10 ∨ i = 11 ∨ i = 12 ∨ i = 13 ∨ i = 14 ∨ i = 15 ∨ i = 16 ∨ i = 17 ∨ i = 18 ∨ i = 19 ∨ i = 20 ∨ i = 21 ∨ i = 22 ∨ i = 23 ∨ i = 24 ∨ i = 25 ∨ i = 26 ∨ i = 27 ∨ i = 28 ∨ i = 29 ∨ i = 30 ∨ i = 31 ∨ i = 32 := by simp at hil; omega
        clear hil hcl HF
        rcases hi2 with rfl | rfl | rfl | rfl | rfl | rfl | rfl | rfl | rfl | rfl | rfl | rfl | rfl | rfl | rfl | rfl | rfl | rfl | rfl | rfl | rfl | rfl | rfl | rfl | rfl | rfl | rfl | rfl | rfl | rfl | rfl | rfl | rfl
        · clear hi HCL
          simp only [List.setIfInBounds_toArray, List.set_cons_succ, List.set_cons_zero]
          refine wpOp_one rfl rfl ?_
          intro K hK
          go_wp2_with fail
          rw [HJ0.out]
          exact ⟨tok, x2, .int .i64 aa, x46, x47, x48, x49, x50, x51, x52, x53, x54, x55, x56, x57, x58, x59, x60, x61, x62, x63, x64, x65, x66, x67, x68, x69, x70, x71, x72, x73, x74, x75, x76, (by simp only [List.setIfInBounds_toArray, List.set_cons_succ, List.set_cons_zero]), fun _ => rfl, Bk (pj1 HH.out), Bk (pj2 HH.out), Bk (pj3 HH.out), Bk (pj4 HH.out), Bk (pj5 HH.out), Bk (pj6 HH.out), Bk (pj7 HH.out), Bk (pj8 HH.out), Bk (pj9 HH.out), Bk (pj10 HH.out), Bk (pj11 HH.out), Bk (pj12 HH.out), Bk (pj13 HH.out), Bk (pj14 HH.out), Bk (pj15 HH.out), Bk (pj16 HH.out), Bk (pj17 HH.out), Bk (pj18 HH.out), Bk (pj19 HH.out), Bk (pj20 HH.out), Bk (pj21 HH.out), Bk (pj22 HH.out), Bk (pj23 HH.out), Bk (pj24 HH.out), Bk (pj25 HH.out), Bk (pj26 HH.out), Bk (pj27 HH.out), Bk (pj28 HH.out), Bk (pj29 HH.out), Bk (pj30 HH.out), Bk (pj31 HH.out), Bk (pj32 HH.out), Bi (pj33 HH.out), Bw (pe34 HH.out)⟩
        · clear hi HCL
          simp only [List.setIfInBounds_toArray, List.set_cons_succ, List.set_cons_zero]
          refine wpOp_one rfl rfl ?_
          intro K hK
          go_wp2_with fail
          rw [HJ0.out]
          exact ⟨tok, x2, x45, .int .i64 aa, x47, x48, x49, x50, x51, x52, x53, x54, x55, x56, x57, x58, x59, x60, x61, x62, x63, x64, x65, x66, x67, x68, x69, x70, x71, x72, x73, x74, x75, x76, (by simp only [List.setIfInBounds_toArray, List.set_cons_succ, List.set_cons_zero]), Bk (pj0 HH.out), fun _ => rfl, Bk (pj2 HH.out), Bk (pj3 HH.out), Bk (pj4 HH.out), Bk (pj5 HH.out), Bk (pj6 HH.out), Bk (pj7 HH.out), Bk (pj8 HH.out), Bk (pj9 HH.out), Bk (pj10 HH.out), Bk (pj11 HH.out), Bk (pj12 HH.out), Bk (pj13 HH.out), Bk (pj14 HH.out), Bk (pj15 HH.out), Bk (pj16 HH.out), Bk (pj17 HH.out), Bk (pj18 HH.out), Bk (pj19 HH.out), Bk (pj20 HH.out), Bk (pj21 HH.out), Bk (pj22 HH.out), Bk (pj23 HH.out), Bk (pj24 HH.out), Bk (pj25 HH.out), Bk (pj26 HH.out), Bk (pj27 HH.out), Bk (pj28 HH.out), Bk (pj29 HH.out), Bk (pj30 HH.out), Bk (pj31 HH.out), Bk (pj32 HH.out), Bi (pj33 HH.out), Bw (pe34 HH.out)⟩
        · have D0 := (pj0 HH.out) (ready_dep2 hi 0 (by kernel_rfl))
          have D1 := (pj1 HH.out) (ready_dep2 hi 1 (by kernel_rfl))
          clear hi HCL
          simp only [List.setIfInBounds_toArray, List.set_cons_succ, List.set_cons_zero, D0, D1]
          refine wpOp_one rfl rfl ?_
          intro K hK
          go_wp2_with fail
          rw [HJ0.out]
          exact ⟨tok, x2, x45, x46, .bool true, x48, x49, x50, x51, x52, x53, x54, x55, x56, x57, x58, x59, x60, x61, x62, x63, x64, x65, x66, x67, x68, x69, x70, x71, x72, x73, x74, x75, x76, (by simp only [List.setIfInBounds_toArray, List.set_cons_succ, List.set_cons_zero, D0, D1]), Bk (pj0 HH.out), Bk (pj1 HH.out), fun _ => rfl, Bk (pj3 HH.out), Bk (pj4 HH.out), Bk (pj5 HH.out), Bk (pj6 HH.out), Bk (pj7 HH.out), Bk (pj8 HH.out), Bk (pj9 HH.out), Bk (pj10 HH.out), Bk (pj11 HH.out), Bk (pj12 HH.out), Bk (pj13 HH.out), Bk (pj14 HH.out), Bk (pj15 HH.out), Bk (pj16 HH.out), Bk (pj17 HH.out), Bk (pj18 HH.out), Bk (pj19 HH.out), Bk (pj20 HH.out), Bk (pj21 HH.out), Bk (pj22 HH.out), Bk (pj23 HH.out), Bk (pj24 HH.out), Bk (pj25 HH.out), Bk (pj26 HH.out), Bk (pj27 HH.out), Bk (pj28 HH.out), Bk (pj29 HH.out), Bk (pj30 HH.out), Bk (pj31 HH.out), Bk (pj32 HH.out), Bi (pj33 HH.out), Bw (pe34 HH.out)⟩
        · have D2 := (pj2 HH.out) (ready_dep2 hi 2 (by kernel_rfl))
          clear hi HCL
          simp only [List.setIfInBounds_toArray, List.set_cons_succ, List.set_cons_zero, D2]
          refine wpOp_one rfl rfl ?_
          intro K hK
          go_wp2_with fail
          rw [HJ0.out]
          exact ⟨tok, x2, x45, x46, x47, .bool true, x49, x50, x51, x52, x53, x54, x55, x56, x57, x58, x59, x60, x61, x62, x63, x64, x65, x66, x67, x68, x69, x70, x71, x72, x73, x74, x75, x76, (by simp only [List.setIfInBounds_toArray, List.set_cons_succ, List.set_cons_zero, D2]), Bk (pj0 HH.out), Bk (pj1 HH.out), Bk (pj2 HH.out), fun _ => rfl, Bk (pj4 HH.out), Bk (pj5 HH.out), Bk (pj6 HH.out), Bk (pj7 HH.out), Bk (pj8 HH.out), Bk (pj9 HH.out), Bk (pj10 HH.out), Bk (pj11 HH.out), Bk (pj12 HH.out), Bk (pj13 HH.out), Bk (pj14 HH.out), Bk (pj15 HH.out), Bk (pj16 HH.out), Bk (pj17 HH.out), Bk (pj18 HH.out), Bk (pj19 HH.out), Bk (pj20 HH.out), Bk (pj21 HH.out), Bk (pj22 HH.out), Bk (pj23 HH.out), Bk (pj24 HH.out), Bk (pj25 HH.out), Bk (pj26 HH.out), Bk (pj27 HH.out), Bk (pj28 HH.out), Bk (pj29 HH.out), Bk (pj30 HH.out), Bk (pj31 HH.out), Bk (pj32 HH.out), Bi (pj33 HH.out), Bw (pe34 HH.out)⟩
        · have D3 := (pj3 HH.out) (ready_dep2 hi 3 (by kernel_rfl))
          clear hi HCL
          simp only [List.setIfInBounds_toArray, List.set_cons_succ, List.set_cons_zero, D3]
          refine wpOp_off 49 rfl rfl (by rfl) ?_
          simp only [List.setIfInBounds_toArray, List.set_cons_succ, List.set_cons_zero]
          rw [HJ0.out]
          exact ⟨tok, x2, x45, x46, x47, x48, undef, x50, x51, x52, x53, x54, x55, x56, x57, x58, x59, x60, x61, x62, x63, x64, x65, x66, x67, x68, x69, x70, x71, x72, x73, x74, x75, x76, (by simp only [List.setIfInBounds_toArray, List.set_cons_succ, List.set_cons_zero, D3]), Bk (pj0 HH.out), Bk (pj1 HH.out), Bk (pj2 HH.out), Bk (pj3 HH.out), fun _ => trivial, Bk (pj5 HH.out), Bk (pj6 HH.out), Bk (pj7 HH.out), Bk (pj8 HH.out), Bk (pj9 HH.out), Bk (pj10 HH.out), Bk (pj11 HH.out), Bk (pj12 HH.out), Bk (pj13 HH.out), Bk (pj14 HH.out), Bk (pj15 HH.out), Bk (pj16 HH.out), Bk (pj17 HH.out), Bk (pj18 HH.out), Bk (pj19 HH.out), Bk (pj20 HH.out), Bk (pj21 HH.out), Bk (pj22 HH.out), Bk (pj23 HH.out), Bk (pj24 HH.out), Bk (pj25 HH.out), Bk (pj26 HH.out), Bk (pj27 HH.out), Bk (pj28 HH.out), Bk (pj29 HH.out), Bk (pj30 HH.out), Bk (pj31 HH.out), Bk (pj32 HH.out), Bi (pj33 HH.out), Bw (pe34 HH.out)⟩
        · have D3 := (pj3 HH.out) (ready_dep2 hi 3 (by kernel_rfl))
          clear hi HCL
          simp only [List.setIfInBounds_toArray, List.set_cons_succ, List.set_cons_zero, D3]
          refine wpOp_off 50 rfl rfl (by rfl) ?_
          simp only [List.setIfInBounds_toArray, List.set_cons_succ, List.set_cons_zero]
          rw [HJ0.out]
          exact ⟨tok, x2, x45, x46, x47, x48, x49, undef, x51, x52, x53, x54, x55, x56, x57, x58, x59, x60, x61, x62, x63, x64, x65, x66, x67, x68, x69, x70, x71, x72, x73, x74, x75, x76, (by simp only [List.setIfInBounds_toArray, List.set_cons_succ, List.set_cons_zero, D3]), Bk (pj0 HH.out), Bk (pj1 HH.out), Bk (pj2 HH.out), Bk (pj3 HH.out), Bk (pj4 HH.out), fun _ => trivial, Bk (pj6 HH.out), Bk (pj7 HH.out), Bk (pj8 HH.out), Bk (pj9 HH.out), Bk (pj10 HH.out), Bk (pj11 HH.out), Bk (pj12 HH.out), Bk (pj13 HH.out), Bk (pj14 HH.out), Bk (pj15 HH.out), Bk (pj16 HH.out), Bk (pj17 HH.out), Bk (pj18 HH.out), Bk (pj19 HH.out), Bk (pj20 HH.out), Bk (pj21 HH.out), Bk (pj22 HH.out), Bk (pj23 HH.out), Bk (pj24 HH.out), Bk (pj25 HH.out), Bk (pj26 HH.out), Bk (pj27 HH.out), Bk (pj28 HH.out), Bk (pj29 HH.out), Bk (pj30 HH.out), Bk (pj31 HH.out), Bk (pj32 HH.out), Bi (pj33 HH.out), Bw (pe34 HH.out)⟩
        · have D3 := (pj3 HH.out) (ready_dep2 hi 3 (by kernel_rfl))
          clear hi HCL
          simp only [List.setIfInBounds_toArray, List.set_cons_succ, List.set_cons_zero, D3]
          refine wpOp_off 51 rfl rfl (by rfl) ?_
          simp only [List.setIfInBounds_toArray, List.set_cons_succ, List.set_cons_zero]
          rw [HJ0.out]
          exact ⟨tok, x2, x45, x46, x47, x48, x49, x50, undef, x52, x53, x54, x55, x56, x57, x58, x59, x60, x61, x62, x63, x64, x65, x66, x67, x68, x69, x70, x71, x72, x73, x74, x75, x76, (by simp only [List.setIfInBounds_toArray, List.set_cons_succ, List.set_cons_zero, D3]), Bk (pj0 HH.out), Bk (pj1 HH.out), Bk (pj2 HH.out), Bk (pj3 HH.out), Bk (pj4 HH.out), Bk (pj5 HH.out), fun _ => trivial, Bk (pj7 HH.out), Bk (pj8 HH.out), Bk (pj9 HH.out), Bk (pj10 HH.out), Bk (pj11 HH.out), Bk (pj12 HH.out), Bk (pj13 HH.out), Bk (pj14 HH.out), Bk (pj15 HH.out), Bk (pj16 HH.out), Bk (pj17 HH.out), Bk (pj18 HH.out), Bk (pj19 HH.out), Bk (pj20 HH.out), Bk (pj21 HH.out), Bk (pj22 HH.out), Bk (pj23 HH.out), Bk (pj24 HH.out), Bk (pj25 HH.out), Bk (pj26 HH.out), Bk (pj27 HH.out), Bk (pj28 HH.out), Bk (pj29 HH.out), Bk (pj30 HH.out), Bk (pj31 HH.out), Bk (pj32 HH.out), Bi (pj33 HH.out), Bw (pe34 HH.out)⟩
        · have D3 := (pj3 HH.out) (ready_dep2 hi 3 (by kernel_rfl))
          clear hi HCL
          simp only [List.setIfInBounds_toArray, List.set_cons_succ, List.set_cons_zero, D3]
          refine wpOp_one rfl rfl ?_
          intro K hK
          go_wp2_with fail
          rw [HJ0.out]
          exact ⟨tok, x2, x45, x46, x47, x48, x49, x50, x51, .bool true, x53, x54, x55, x56, x57, x58, x59, x60, x61, x62, x63, x64, x65, x66, x67, x68, x69, x70, x71, x72, x73, x74, x75, x76, (by simp only [List.setIfInBounds_toArray, List.set_cons_succ, List.set_cons_zero, D3]), Bk (pj0 HH.out), Bk (pj1 HH.out), Bk (pj2 HH.out), Bk (pj3 HH.out), Bk (pj4 HH.out), Bk (pj5 HH.out), Bk (pj6 HH.out), fun _ => rfl, Bk (pj8 HH.out), Bk (pj9 HH.out), Bk (pj10 HH.out), Bk (pj11 HH.out), Bk (pj12 HH.out), Bk (pj13 HH.out), Bk (pj14 HH.out), Bk (pj15 HH.out), Bk (pj16 HH.out), Bk (pj17 HH.out), Bk (pj18 HH.out), Bk (pj19 HH.out), Bk (pj20 HH.out), Bk (pj21 HH.out), Bk (pj22 HH.out), Bk (pj23 HH.out), Bk (pj24 HH.out), Bk (pj25 HH.out), Bk (pj26 HH.out), Bk (pj27 HH.out), Bk (pj28 HH.out), Bk (pj29 HH.out), Bk (pj30 HH.out), Bk (pj31 HH.out), Bk (pj32 HH.out), Bi (pj33 HH.out), Bw (pe34 HH.out)⟩
        · have D7 := (pj7 HH.out) (ready_dep2 hi 7 (by kernel_rfl))
          clear hi HCL
          simp only [List.setIfInBounds_toArray, List.set_cons_succ, List.set_cons_zero, D7]
          refine wpOp_one rfl rfl ?_
          intro K hK
          go_wp2_with fail
          rw [HJ0.out]
          exact ⟨tok, x2, x45, x46, x47, x48, x49, x50, x51, x52, .bool true, x54, x55, x56, x57, x58, x59, x60, x61, x62, x63, x64, x65, x66, x67, x68, x69, x70, x71, x72, x73, x74, x75, x76, (by simp only [List.setIfInBounds_toArray, List.set_cons_succ, List.set_cons_zero, D7]), Bk (pj0 HH.out), Bk (pj1 HH.out), Bk (pj2 HH.out), Bk (pj3 HH.out), Bk (pj4 HH.out), Bk (pj5 HH.out), Bk (pj6 HH.out), Bk (pj7 HH.out), fun _ => rfl, Bk (pj9 HH.out), Bk (pj10 HH.out), Bk (pj11 HH.out), Bk (pj12 HH.out), Bk (pj13 HH.out), Bk (pj14 HH.out), Bk (pj15 HH.out), Bk (pj16 HH.out), Bk (pj17 HH.out), Bk (pj18 HH.out), Bk (pj19 HH.out), Bk (pj20 HH.out), Bk (pj21 HH.out), Bk (pj22 HH.out), Bk (pj23 HH.out), Bk (pj24 HH.out), Bk (pj25 HH.out), Bk (pj26 HH.out), Bk (pj27 HH.out), Bk (pj28 HH.out), Bk (pj29 HH.out), Bk (pj30 HH.out), Bk (pj31 HH.out), Bk (pj32 HH.out), Bi (pj33 HH.out), Bw (pe34 HH.out)⟩
        · have D8 := (pj8 HH.out) (ready_dep2 hi 8 (by kernel_rfl))
          clear hi HCL
          simp only [List.setIfInBounds_toArray, List.set_cons_succ, List.set_cons_zero, D8]
          refine wpOp_yes rfl (by rfl) ?_
          intro K hK
          go_wp2_with fail
          rw [HJ0.out]
          exact ⟨tok, x2, x45, x46, x47, x48, x49, x50, x51, x52, x53, .int .i64 aa, x55, x56, x57, x58, x59, x60, x61, x62, x63, x64, x65, x66, x67, x68, x69, x70, x71, x72, x73, x74, x75, x76, (by simp only [List.setIfInBounds_toArray, List.set_cons_succ, List.set_cons_zero, D8]), Bk (pj0 HH.out), Bk (pj1 HH.out), Bk (pj2 HH.out), Bk (pj3 HH.out), Bk (pj4 HH.out), Bk (pj5 HH.out), Bk (pj6 HH.out), Bk (pj7 HH.out), Bk (pj8 HH.out), fun _ => rfl, Bk (pj10 HH.out), Bk (pj11 HH.out), Bk (pj12 HH.out), Bk (pj13 HH.out), Bk (pj14 HH.out), Bk (pj15 HH.out), Bk (pj16 HH.out), Bk (pj17 HH.out), Bk (pj18 HH.out), Bk (pj19 HH.out), Bk (pj20 HH.out), Bk (pj21 HH.out), Bk (pj22 HH.out), Bk (pj23 HH.out), Bk (pj24 HH.out), Bk (pj25 HH.out), Bk (pj26 HH.out), Bk (pj27 HH.out), Bk (pj28 HH.out), Bk (pj29 HH.out), Bk (pj30 HH.out), Bk (pj31 HH.out), Bk (pj32 HH.out), Bi (pj33 HH.out), Bw (pe34 HH.out)⟩
        · have D8 := (pj8 HH.out) (ready_dep2 hi 8 (by kernel_rfl))
          clear hi HCL
          simp only [List.setIfInBounds_toArray, List.set_cons_succ, List.set_cons_zero, D8]
          refine wpOp_yes rfl (by rfl) ?_
          intro K hK
          go_wp2_with fail
          rw [HJ0.out]
          exact ⟨tok, x2, x45, x46, x47, x48, x49, x50, x51, x52, x53, x54, .int .i64 aa, x56, x57, x58, x59, x60, x61, x62, x63, x64, x65, x66, x67, x68, x69, x70, x71, x72, x73, x74, x75, x76, (by simp only [List.setIfInBounds_toArray, List.set_cons_succ, List.set_cons_zero, D8]), Bk (pj0 HH.out), Bk (pj1 HH.out), Bk (pj2 HH.out), Bk (pj3 HH.out), Bk (pj4 HH.out), Bk (pj5 HH.out), Bk (pj6 HH.out), Bk (pj7 HH.out), Bk (pj8 HH.out), Bk (pj9 HH.out), fun _ => rfl, Bk (pj11 HH.out), Bk (pj12 HH.out), Bk (pj13 HH.out), Bk (pj14 HH.out), Bk (pj15 HH.out), Bk (pj16 HH.out), Bk (pj17 HH.out), Bk (pj18 HH.out), Bk (pj19 HH.out), Bk (pj20 HH.out), Bk (pj21 HH.out), Bk (pj22 HH.out), Bk (pj23 HH.out), Bk (pj24 HH.out), Bk (pj25 HH.out), Bk (pj26 HH.out), Bk (pj27 HH.out), Bk (pj28 HH.out), Bk (pj29 HH.out), Bk (pj30 HH.out), Bk (pj31 HH.out), Bk (pj32 HH.out), Bi (pj33 HH.out), Bw (pe34 HH.out)⟩
        · have D8 := (pj8 HH.out) (ready_dep2 hi 8 (by kernel_rfl))
          have D9 := (pj9 HH.out) (ready_dep2 hi 9 (by kernel_rfl))
          have D10 := (pj10 HH.out) (ready_dep2 hi 10 (by kernel_rfl))
          clear hi HCL
          simp only [List.setIfInBounds_toArray, List.set_cons_succ, List.set_cons_zero, D8, D9, D10]
          refine wpOp_yes rfl (by rfl) ?_
          intro K hK
          go_wp2_with fail
          rw [HJ0.out]
          exact ⟨tok, x2, x45, x46, x47, x48, x49, x50, x51, x52, x53, x54, x55, .bool true, x57, x58, x59, x60, x61, x62, x63, x64, x65, x66, x67, x68, x69, x70, x71, x72, x73, x74, x75, x76, (by simp only [List.setIfInBounds_toArray, List.set_cons_succ, List.set_cons_zero, D8, D9, D10]), Bk (pj0 HH.out), Bk (pj1 HH.out), Bk (pj2 HH.out), Bk (pj3 HH.out), Bk (pj4 HH.out), Bk (pj5 HH.out), Bk (pj6 HH.out), Bk (pj7 HH.out), Bk (pj8 HH.out), Bk (pj9 HH.out), Bk (pj10 HH.out), fun _ => rfl, Bk (pj12 HH.out), Bk (pj13 HH.out), Bk (pj14 HH.out), Bk (pj15 HH.out), Bk (pj16 HH.out), Bk (pj17 HH.out), Bk (pj18 HH.out), Bk (pj19 HH.out), Bk (pj20 HH.out), Bk (pj21 HH.out), Bk (pj22 HH.out), Bk (pj23 HH.out), Bk (pj24 HH.out), Bk (pj25 HH.out), Bk (pj26 HH.out), Bk (pj27 HH.out), Bk (pj28 HH.out), Bk (pj29 HH.out), Bk (pj30 HH.out), Bk (pj31 HH.out), Bk (pj32 HH.out), Bi (pj33 HH.out), Bw (pe34 HH.out)⟩
        · have D8 := (pj8 HH.out) (ready_dep2 hi 8 (by kernel_rfl))
          have D11 := (pj11 HH.out) (ready_dep2 hi 11 (by kernel_rfl))
          clear hi HCL
          simp only [List.setIfInBounds_toArray, List.set_cons_succ, List.set_cons_zero, D8, D11]
          refine wpOp_one rfl rfl ?_
          intro K hK
          go_wp2_with fail
          rw [HJ0.out]
          exact ⟨tok, x2, x45, x46, x47, x48, x49, x50, x51, x52, x53, x54, x55, x56, .bool true, x58, x59, x60, x61, x62, x63, x64, x65, x66, x67, x68, x69, x70, x71, x72, x73, x74, x75, x76, (by simp only [List.setIfInBounds_toArray, List.set_cons_succ, List.set_cons_zero, D8, D11]), Bk (pj0 HH.out), Bk (pj1 HH.out), Bk (pj2 HH.out), Bk (pj3 HH.out), Bk (pj4 HH.out), Bk (pj5 HH.out), Bk (pj6 HH.out), Bk (pj7 HH.out), Bk (pj8 HH.out), Bk (pj9 HH.out), Bk (pj10 HH.out), Bk (pj11 HH.out), fun _ => rfl, Bk (pj13 HH.out), Bk (pj14 HH.out), Bk (pj15 HH.out), Bk (pj16 HH.out), Bk (pj17 HH.out), Bk (pj18 HH.out), Bk (pj19 HH.out), Bk (pj20 HH.out), Bk (pj21 HH.out), Bk (pj22 HH.out), Bk (pj23 HH.out), Bk (pj24 HH.out), Bk (pj25 HH.out), Bk (pj26 HH.out), Bk (pj27 HH.out), Bk (pj28 HH.out), Bk (pj29 HH.out), Bk (pj30 HH.out), Bk (pj31 HH.out), Bk (pj32 HH.out), Bi (pj33 HH.out), Bw (pe34 HH.out)⟩
        · have D12 := (pj12 HH.out) (ready_dep2 hi 12 (by kernel_rfl))
          clear hi HCL
          simp only [List.setIfInBounds_toArray, List.set_cons_succ, List.set_cons_zero, D12]
          refine wpOp_one rfl rfl ?_
          intro K hK
          go_wp2_with fail
          rw [HJ0.out]
          exact ⟨tok, x2, x45, x46, x47, x48, x49, x50, x51, x52, x53, x54, x55, x56, x57, .bool true, x59, x60, x61, x62, x63, x64, x65, x66, x67, x68, x69, x70, x71, x72, x73, x74, x75, x76, (by simp only [List.setIfInBounds_toArray, List.set_cons_succ, List.set_cons_zero, D12]), Bk (pj0 HH.out), Bk (pj1 HH.out), Bk (pj2 HH.out), Bk (pj3 HH.out), Bk (pj4 HH.out), Bk (pj5 HH.out), Bk (pj6 HH.out), Bk (pj7 HH.out), Bk (pj8 HH.out), Bk (pj9 HH.out), Bk (pj10 HH.out), Bk (pj11 HH.out), Bk (pj12 HH.out), fun _ => rfl, Bk (pj14 HH.out), Bk (pj15 HH.out), Bk (pj16 HH.out), Bk (pj17 HH.out), Bk (pj18 HH.out), Bk (pj19 HH.out), Bk (pj20 HH.out), Bk (pj21 HH.out), Bk (pj22 HH.out), Bk (pj23 HH.out), Bk (pj24 HH.out), Bk (pj25 HH.out), Bk (pj26 HH.out), Bk (pj27 HH.out), Bk (pj28 HH.out), Bk (pj29 HH.out), Bk (pj30 HH.out), Bk (pj31 HH.out), Bk (pj32 HH.out), Bi (pj33 HH.out), Bw (pe34 HH.out)⟩
        · have D13 := (pj13 HH.out) (ready_dep2 hi 13 (by kernel_rfl))
          clear hi HCL
          simp only [List.setIfInBounds_toArray, List.set_cons_succ, List.set_cons_zero, D13]
          refine wpOp_yes rfl (by rfl) ?_
          intro K hK
          go_wp2_with fail
          rw [HJ0.out]
          exact ⟨tok, x2, x45, x46, x47, x48, x49, x50, x51, x52, x53, x54, x55, x56, x57, x58, .int .i64 aa, x60, x61, x62, x63, x64, x65, x66, x67, x68, x69, x70, x71, x72, x73, x74, x75, x76, (by simp only [List.setIfInBounds_toArray, List.set_cons_succ, List.set_cons_zero, D13]), Bk (pj0 HH.out), Bk (pj1 HH.out), Bk (pj2 HH.out), Bk (pj3 HH.out), Bk (pj4 HH.out), Bk (pj5 HH.out), Bk (pj6 HH.out), Bk (pj7 HH.out), Bk (pj8 HH.out), Bk (pj9 HH.out), Bk (pj10 HH.out), Bk (pj11 HH.out), Bk (pj12 HH.out), Bk (pj13 HH.out), fun _ => rfl, Bk (pj15 HH.out), Bk (pj16 HH.out), Bk (pj17 HH.out), Bk (pj18 HH.out), Bk (pj19 HH.out), Bk (pj20 HH.out), Bk (pj21 HH.out), Bk (pj22 HH.out), Bk (pj23 HH.out), Bk (pj24 HH.out), Bk (pj25 HH.out), Bk (pj26 HH.out), Bk (pj27 HH.out), Bk (pj28 HH.out), Bk (pj29 HH.out), Bk (pj30 HH.out), Bk (pj31 HH.out), Bk (pj32 HH.out), Bi (pj33 HH.out), Bw (pe34 HH.out)⟩
        · have D13 := (pj13 HH.out) (ready_dep2 hi 13 (by kernel_rfl))
          clear hi HCL
          simp only [List.setIfInBounds_toArray, List.set_cons_succ, List.set_cons_zero, D13]
          refine wpOp_yes rfl (by rfl) ?_
          intro K hK
          go_wp2_with fail
          rw [HJ0.out]
          exact ⟨tok, x2, x45, x46, x47, x48, x49, x50, x51, x52, x53, x54, x55, x56, x57, x58, x59, .int .i64 0, x61, x62, x63, x64, x65, x66, x67, x68, x69, x70, x71, x72, x73, x74, x75, x76, (by simp only [List.setIfInBounds_toArray, List.set_cons_succ, List.set_cons_zero, D13]), Bk (pj0 HH.out), Bk (pj1 HH.out), Bk (pj2 HH.out), Bk (pj3 HH.out), Bk (pj4 HH.out), Bk (pj5 HH.out), Bk (pj6 HH.out), Bk (pj7 HH.out), Bk (pj8 HH.out), Bk (pj9 HH.out), Bk (pj10 HH.out), Bk (pj11 HH.out), Bk (pj12 HH.out), Bk (pj13 HH.out), Bk (pj14 HH.out), fun _ => rfl, Bk (pj16 HH.out), Bk (pj17 HH.out), Bk (pj18 HH.out), Bk (pj19 HH.out), Bk (pj20 HH.out), Bk (pj21 HH.out), Bk (pj22 HH.out), Bk (pj23 HH.out), Bk (pj24 HH.out), Bk (pj25 HH.out), Bk (pj26 HH.out), Bk (pj27 HH.out), Bk (pj28 HH.out), Bk (pj29 HH.out), Bk (pj30 HH.out), Bk (pj31 HH.out), Bk (pj32 HH.out), Bi (pj33 HH.out), Bw (pe34 HH.out)⟩
        · have D13 := (pj13 HH.out) (ready_dep2 hi 13 (by kernel_rfl))
          have D14 := (pj14 HH.out) (ready_dep2 hi 14 (by kernel_rfl))
          have D15 := (pj15 HH.out) (ready_dep2 hi 15 (by kernel_rfl))
          clear hi HCL
          simp only [List.setIfInBounds_toArray, List.set_cons_succ, List.set_cons_zero, D13, D14, D15]
          refine wpOp_yes rfl (by rfl) ?_
          intro K hK
          go_wp2_with fail
          rw [HJ0.out]
          exact ⟨tok, x2, x45, x46, x47, x48, x49, x50, x51, x52, x53, x54, x55, x56, x57, x58, x59, x60, .bool true, x62, x63, x64, x65, x66, x67, x68, x69, x70, x71, x72, x73, x74, x75, x76, (by simp only [List.setIfInBounds_toArray, List.set_cons_succ, List.set_cons_zero, D13, D14, D15]), Bk (pj0 HH.out), Bk (pj1 HH.out), Bk (pj2 HH.out), Bk (pj3 HH.out), Bk (pj4 HH.out), Bk (pj5 HH.out), Bk (pj6 HH.out), Bk (pj7 HH.out), Bk (pj8 HH.out), Bk (pj9 HH.out), Bk (pj10 HH.out), Bk (pj11 HH.out), Bk (pj12 HH.out), Bk (pj13 HH.out), Bk (pj14 HH.out), Bk (pj15 HH.out), fun _ => rfl, Bk (pj17 HH.out), Bk (pj18 HH.out), Bk (pj19 HH.out), Bk (pj20 HH.out), Bk (pj21 HH.out), Bk (pj22 HH.out), Bk (pj23 HH.out), Bk (pj24 HH.out), Bk (pj25 HH.out), Bk (pj26 HH.out), Bk (pj27 HH.out), Bk (pj28 HH.out), Bk (pj29 HH.out), Bk (pj30 HH.out), Bk (pj31 HH.out), Bk (pj32 HH.out), Bi (pj33 HH.out), Bw (pe34 HH.out)⟩
        · have D13 := (pj13 HH.out) (ready_dep2 hi 13 (by kernel_rfl))
          have D16 := (pj16 HH.out) (ready_dep2 hi 16 (by kernel_rfl))
          clear hi HCL
          simp only [List.setIfInBounds_toArray, List.set_cons_succ, List.set_cons_zero, D13, D16]
          refine wpOp_one rfl rfl ?_
          intro K hK
          go_wp2_with fail
          rw [HJ0.out]
          exact ⟨tok, x2, x45, x46, x47, x48, x49, x50, x51, x52, x53, x54, x55, x56, x57, x58, x59, x60, x61, .bool true, x63, x64, x65, x66, x67, x68, x69, x70, x71, x72, x73, x74, x75, x76, (by simp only [List.setIfInBounds_toArray, List.set_cons_succ, List.set_cons_zero, D13, D16]), Bk (pj0 HH.out), Bk (pj1 HH.out), Bk (pj2 HH.out), Bk (pj3 HH.out), Bk (pj4 HH.out), Bk (pj5 HH.out), Bk (pj6 HH.out), Bk (pj7 HH.out), Bk (pj8 HH.out), Bk (pj9 HH.out), Bk (pj10 HH.out), Bk (pj11 HH.out), Bk (pj12 HH.out), Bk (pj13 HH.out), Bk (pj14 HH.out), Bk (pj15 HH.out), Bk (pj16 HH.out), fun _ => rfl, Bk (pj18 HH.out), Bk (pj19 HH.out), Bk (pj20 HH.out), Bk (pj21 HH.out), Bk (pj22 HH.out), Bk (pj23 HH.out), Bk (pj24 HH.out), Bk (pj25 HH.out), Bk (pj26 HH.out), Bk (pj27 HH.out), Bk (pj28 HH.out), Bk (pj29 HH.out), Bk (pj30 HH.out), Bk (pj31 HH.out), Bk (pj32 HH.out), Bi (pj33 HH.out), Bw (pe34 HH.out)⟩
        · have D17 := (pj17 HH.out) (ready_dep2 hi 17 (by kernel_rfl))
          clear hi HCL
          simp only [List.setIfInBounds_toArray, List.set_cons_succ, List.set_cons_zero, D17]
          refine wpOp_one rfl rfl ?_
          intro K hK
          go_wp2_with fail
          rw [HJ0.out]
          exact ⟨tok, x2, x45, x46, x47, x48, x49, x50, x51, x52, x53, x54, x55, x56, x57, x58, x59, x60, x61, x62, .bool true, x64, x65, x66, x67, x68, x69, x70, x71, x72, x73, x74, x75, x76, (by simp only [List.setIfInBounds_toArray, List.set_cons_succ, List.set_cons_zero, D17]), Bk (pj0 HH.out), Bk (pj1 HH.out), Bk (pj2 HH.out), Bk (pj3 HH.out), Bk (pj4 HH.out), Bk (pj5 HH.out), Bk (pj6 HH.out), Bk (pj7 HH.out), Bk (pj8 HH.out), Bk (pj9 HH.out), Bk (pj10 HH.out), Bk (pj11 HH.out), Bk (pj12 HH.out), Bk (pj13 HH.out), Bk (pj14 HH.out), Bk (pj15 HH.out), Bk (pj16 HH.out), Bk (pj17 HH.out), fun _ => rfl, Bk (pj19 HH.out), Bk (pj20 HH.out), Bk (pj21 HH.out), Bk (pj22 HH.out), Bk (pj23 HH.out), Bk (pj24 HH.out), Bk (pj25 HH.out), Bk (pj26 HH.out), Bk (pj27 HH.out), Bk (pj28 HH.out), Bk (pj29 HH.out), Bk (pj30 HH.out), Bk (pj31 HH.out), Bk (pj32 HH.out), Bi (pj33 HH.out), Bw (pe34 HH.out)⟩
        · have D18 := (pj18 HH.out) (ready_dep2 hi 18 (by kernel_rfl))
          clear hi HCL
          simp only [List.setIfInBounds_toArray, List.set_cons_succ, List.set_cons_zero, D18]
          refine wpOp_yes rfl (by rfl) ?_
          intro K hK
          go_wp2_with fail
          rw [HJ0.out]
          exact ⟨tok, x2, x45, x46, x47, x48, x49, x50, x51, x52, x53, x54, x55, x56, x57, x58, x59, x60, x61, x62, x63, .slice (some ⟨g, 0, none⟩) c1 c1, x65, x66, x67, x68, x69, x70, x71, x72, x73, x74, x75, x76, (by simp only [List.setIfInBounds_toArray, List.set_cons_succ, List.set_cons_zero, D18]), Bk (pj0 HH.out), Bk (pj1 HH.out), Bk (pj2 HH.out), Bk (pj3 HH.out), Bk (pj4 HH.out), Bk (pj5 HH.out), Bk (pj6 HH.out), Bk (pj7 HH.out), Bk (pj8 HH.out), Bk (pj9 HH.out), Bk (pj10 HH.out), Bk (pj11 HH.out), Bk (pj12 HH.out), Bk (pj13 HH.out), Bk (pj14 HH.out), Bk (pj15 HH.out), Bk (pj16 HH.out), Bk (pj17 HH.out), Bk (pj18 HH.out), fun _ => rfl, Bk (pj20 HH.out), Bk (pj21 HH.out), Bk (pj22 HH.out), Bk (pj23 HH.out), Bk (pj24 HH.out), Bk (pj25 HH.out), Bk (pj26 HH.out), Bk (pj27 HH.out), Bk (pj28 HH.out), Bk (pj29 HH.out), Bk (pj30 HH.out), Bk (pj31 HH.out), Bk (pj32 HH.out), Bi (pj33 HH.out), Bw (pe34 HH.out)⟩
        · have hns : ¬ Ls listed 32 := fun h => hnl (HCL.out.dep2 (HCL.out.dep2 (HCL.out.dep2 h 31 (by kernel_rfl)) 30 (by kernel_rfl)) 20 (by kernel_rfl))
          have D18 := (pj18 HH.out) (ready_dep2 hi 18 (by kernel_rfl))
          have D19 := (pj19 HH.out) (ready_dep2 hi 19 (by kernel_rfl))
          have V0 := (pj33 HH.out) hns
          clear hi HCL
          simp only [List.setIfInBounds_toArray, List.set_cons_succ, List.set_cons_zero, D18, D19]
          refine wpOp_yes rfl (by rfl) ?_
          intro K hK
          go_wp2_with fail
          refine (StmtTokenCount_impl 6 0 _ _ _ l W (HRw.out.below V0) (by omega)).mono ?_
          rintro e y ⟨he, hb, hs⟩
          obtain rfl : e = .returned (.int .i64 T) := by rw [he, HT.out] <;> rfl
          go_wp2_with fail
          rw [HJ0.out]
          exact ⟨tok, x2, x45, x46, x47, x48, x49, x50, x51, x52, x53, x54, x55, x56, x57, x58, x59, x60, x61, x62, x63, x64, .int .i64 T, x66, x67, x68, x69, x70, x71, x72, x73, x74, x75, x76, (by simp only [List.setIfInBounds_toArray, List.set_cons_succ, List.set_cons_zero, D18, D19]), Bk (pj0 HH.out), Bk (pj1 HH.out), Bk (pj2 HH.out), Bk (pj3 HH.out), Bk (pj4 HH.out), Bk (pj5 HH.out), Bk (pj6 HH.out), Bk (pj7 HH.out), Bk (pj8 HH.out), Bk (pj9 HH.out), Bk (pj10 HH.out), Bk (pj11 HH.out), Bk (pj12 HH.out), Bk (pj13 HH.out), Bk (pj14 HH.out), Bk (pj15 HH.out), Bk (pj16 HH.out), Bk (pj17 HH.out), Bk (pj18 HH.out), Bk (pj19 HH.out), fun _ => rfl, Bk (pj21 HH.out), Bk (pj22 HH.out), Bk (pj23 HH.out), Bk (pj24 HH.out), Bk (pj25 HH.out), Bk (pj26 HH.out), Bk (pj27 HH.out), Bk (pj28 HH.out), Bk (pj29 HH.out), Bk (pj30 HH.out), Bk (pj31 HH.out), fun h => absurd (h.back (by decide)) hns, fun h => belT ((pj33 HH.out) (fun h2 => h h2.fwd)) hb, fun h1 _ => absurd (h1.back (by decide)) hns⟩
        · have D18 := (pj18 HH.out) (ready_dep2 hi 18 (by kernel_rfl))
          clear hi HCL
          simp only [List.setIfInBounds_toArray, List.set_cons_succ, List.set_cons_zero, D18]
          refine wpOp_yes rfl (by rfl) ?_
          intro K hK
          go_wp2_with fail
          rw [HJ0.out]
          exact ⟨tok, x2, x45, x46, x47, x48, x49, x50, x51, x52, x53, x54, x55, x56, x57, x58, x59, x60, x61, x62, x63, x64, x65, .slice (some ⟨g, 0, none⟩) c1 c1, x67, x68, x69, x70, x71, x72, x73, x74, x75, x76, (by simp only [List.setIfInBounds_toArray, List.set_cons_succ, List.set_cons_zero, D18]), Bk (pj0 HH.out), Bk (pj1 HH.out), Bk (pj2 HH.out), Bk (pj3 HH.out), Bk (pj4 HH.out), Bk (pj5 HH.out), Bk (pj6 HH.out), Bk (pj7 HH.out), Bk (pj8 HH.out), Bk (pj9 HH.out), Bk (pj10 HH.out), Bk (pj11 HH.out), Bk (pj12 HH.out), Bk (pj13 HH.out), Bk (pj14 HH.out), Bk (pj15 HH.out), Bk (pj16 HH.out), Bk (pj17 HH.out), Bk (pj18 HH.out), Bk (pj19 HH.out), Bk (pj20 HH.out), fun _ => rfl, Bk (pj22 HH.out), Bk (pj23 HH.out), Bk (pj24 HH.out), Bk (pj25 HH.out), Bk (pj26 HH.out), Bk (pj27 HH.out), Bk (pj28 HH.out), Bk (pj29 HH.out), Bk (pj30 HH.out), Bk (pj31 HH.out), Bk (pj32 HH.out), Bi (pj33 HH.out), Bw (pe34 HH.out)⟩
        · have D18 := (pj18 HH.out) (ready_dep2 hi 18 (by kernel_rfl))
          clear hi HCL
          simp only [List.setIfInBounds_toArray, List.set_cons_succ, List.set_cons_zero, D18]
          refine wpOp_yes rfl (by rfl) ?_
          intro K hK
          go_wp2_with fail
          rw [HJ0.out]
          exact ⟨tok, x2, x45, x46, x47, x48, x49, x50, x51, x52, x53, x54, x55, x56, x57, x58, x59, x60, x61, x62, x63, x64, x65, x66, .int .i64 c1, x68, x69, x70, x71, x72, x73, x74, x75, x76, (by simp only [List.setIfInBounds_toArray, List.set_cons_succ, List.set_cons_zero, D18]), Bk (pj0 HH.out), Bk (pj1 HH.out), Bk (pj2 HH.out), Bk (pj3 HH.out), Bk (pj4 HH.out), Bk (pj5 HH.out), Bk (pj6 HH.out), Bk (pj7 HH.out), Bk (pj8 HH.out), Bk (pj9 HH.out), Bk (pj10 HH.out), Bk (pj11 HH.out), Bk (pj12 HH.out), Bk (pj13 HH.out), Bk (pj14 HH.out), Bk (pj15 HH.out), Bk (pj16 HH.out), Bk (pj17 HH.out), Bk (pj18 HH.out), Bk (pj19 HH.out), Bk (pj20 HH.out), Bk (pj21 HH.out), fun _ => rfl, Bk (pj23 HH.out), Bk (pj24 HH.out), Bk (pj25 HH.out), Bk (pj26 HH.out), Bk (pj27 HH.out), Bk (pj28 HH.out), Bk (pj29 HH.out), Bk (pj30 HH.out), Bk (pj31 HH.out), Bk (pj32 HH.out), Bi (pj33 HH.out), Bw (pe34 HH.out)⟩
        · have D18 := (pj18 HH.out) (ready_dep2 hi 18 (by kernel_rfl))
          have D21 := (pj21 HH.out) (ready_dep2 hi 21 (by kernel_rfl))
          have D22 := (pj22 HH.out) (ready_dep2 hi 22 (by kernel_rfl))
          clear hi HCL
          simp only [List.setIfInBounds_toArray, List.set_cons_succ, List.set_cons_zero, D18, D21, D22]
          refine wpOp_yes rfl (by rfl) ?_
          intro K hK
          go_wp2_with fail
          rw [HJ0.out]
          exact ⟨tok, x2, x45, x46, x47, x48, x49, x50, x51, x52, x53, x54, x55, x56, x57, x58, x59, x60, x61, x62, x63, x64, x65, x66, x67, .slice (some ⟨g, 0, none⟩) c1 c1, x69, x70, x71, x72, x73, x74, x75, x76, (by simp only [List.setIfInBounds_toArray, List.set_cons_succ, List.set_cons_zero, D18, D21, D22]), Bk (pj0 HH.out), Bk (pj1 HH.out), Bk (pj2 HH.out), Bk (pj3 HH.out), Bk (pj4 HH.out), Bk (pj5 HH.out), Bk (pj6 HH.out), Bk (pj7 HH.out), Bk (pj8 HH.out), Bk (pj9 HH.out), Bk (pj10 HH.out), Bk (pj11 HH.out), Bk (pj12 HH.out), Bk (pj13 HH.out), Bk (pj14 HH.out), Bk (pj15 HH.out), Bk (pj16 HH.out), Bk (pj17 HH.out), Bk (pj18 HH.out), Bk (pj19 HH.out), Bk (pj20 HH.out), Bk (pj21 HH.out), Bk (pj22 HH.out), fun _ => rfl, Bk (pj24 HH.out), Bk (pj25 HH.out), Bk (pj26 HH.out), Bk (pj27 HH.out), Bk (pj28 HH.out), Bk (pj29 HH.out), Bk (pj30 HH.out), Bk (pj31 HH.out), Bk (pj32 HH.out), Bi (pj33 HH.out), Bw (pe34 HH.out)⟩
        · have hns : ¬ Ls listed 32 := fun h => hnl (HCL.out.dep2 (HCL.out.dep2 (HCL.out.dep2 (HCL.out.dep2 h 31 (by kernel_rfl)) 30 (by kernel_rfl)) 29 (by kernel_rfl)) 24 (by kernel_rfl))
          have D18 := (pj18 HH.out) (ready_dep2 hi 18 (by kernel_rfl))
          have D23 := (pj23 HH.out) (ready_dep2 hi 23 (by kernel_rfl))
          have V0 := (pj33 HH.out) hns
          clear hi HCL
          simp only [List.setIfInBounds_toArray, List.set_cons_succ, List.set_cons_zero, D18, D23]
          refine wpOp_yes rfl (by rfl) ?_
          intro K hK
          go_wp2_with fail
          refine (StmtTokenCount_impl 6 0 _ _ _ l W (HRw.out.below V0) (by omega)).mono ?_
          rintro e y ⟨he, hb, hs⟩
          obtain rfl : e = .returned (.int .i64 T) := by rw [he, HT.out] <;> rfl
          go_wp2_with fail
          rw [HJ0.out]
          exact ⟨tok, x2, x45, x46, x47, x48, x49, x50, x51, x52, x53, x54, x55, x56, x57, x58, x59, x60, x61, x62, x63, x64, x65, x66, x67, x68, .int .i64 T, x70, x71, x72, x73, x74, x75, x76, (by simp only [List.setIfInBounds_toArray, List.set_cons_succ, List.set_cons_zero, D18, D23]), Bk (pj0 HH.out), Bk (pj1 HH.out), Bk (pj2 HH.out), Bk (pj3 HH.out), Bk (pj4 HH.out), Bk (pj5 HH.out), Bk (pj6 HH.out), Bk (pj7 HH.out), Bk (pj8 HH.out), Bk (pj9 HH.out), Bk (pj10 HH.out), Bk (pj11 HH.out), Bk (pj12 HH.out), Bk (pj13 HH.out), Bk (pj14 HH.out), Bk (pj15 HH.out), Bk (pj16 HH.out), Bk (pj17 HH.out), Bk (pj18 HH.out), Bk (pj19 HH.out), Bk (pj20 HH.out), Bk (pj21 HH.out), Bk (pj22 HH.out), Bk (pj23 HH.out), fun _ => rfl, Bk (pj25 HH.out), Bk (pj26 HH.out), Bk (pj27 HH.out), Bk (pj28 HH.out), Bk (pj29 HH.out), Bk (pj30 HH.out), Bk (pj31 HH.out), fun h => absurd (h.back (by decide)) hns, fun h => belT ((pj33 HH.out) (fun h2 => h h2.fwd)) hb, fun h1 _ => absurd (h1.back (by decide)) hns⟩
        · have D18 := (pj18 HH.out) (ready_dep2 hi 18 (by kernel_rfl))
          clear hi HCL
          simp only [List.setIfInBounds_toArray, List.set_cons_succ, List.set_cons_zero, D18]
          refine wpOp_yes rfl (by rfl) ?_
          intro K hK
          go_wp2_with fail
          rw [HJ0.out]
          exact ⟨tok, x2, x45, x46, x47, x48, x49, x50, x51, x52, x53, x54, x55, x56, x57, x58, x59, x60, x61, x62, x63, x64, x65, x66, x67, x68, x69, .slice (some ⟨g, 0, none⟩) c1 c1, x71, x72, x73, x74, x75, x76, (by simp only [List.setIfInBounds_toArray, List.set_cons_succ, List.set_cons_zero, D18]), Bk (pj0 HH.out), Bk (pj1 HH.out), Bk (pj2 HH.out), Bk (pj3 HH.out), Bk (pj4 HH.out), Bk (pj5 HH.out), Bk (pj6 HH.out), Bk (pj7 HH.out), Bk (pj8 HH.out), Bk (pj9 HH.out), Bk (pj10 HH.out), Bk (pj11 HH.out), Bk (pj12 HH.out), Bk (pj13 HH.out), Bk (pj14 HH.out), Bk (pj15 HH.out), Bk (pj16 HH.out), Bk (pj17 HH.out), Bk (pj18 HH.out), Bk (pj19 HH.out), Bk (pj20 HH.out), Bk (pj21 HH.out), Bk (pj22 HH.out), Bk (pj23 HH.out), Bk (pj24 HH.out), fun _ => rfl, Bk (pj26 HH.out), Bk (pj27 HH.out), Bk (pj28 HH.out), Bk (pj29 HH.out), Bk (pj30 HH.out), Bk (pj31 HH.out), Bk (pj32 HH.out), Bi (pj33 HH.out), Bw (pe34 HH.out)⟩
        · have D18 := (pj18 HH.out) (ready_dep2 hi 18 (by kernel_rfl))
          clear hi HCL
          simp only [List.setIfInBounds_toArray, List.set_cons_succ, List.set_cons_zero, D18]
          refine wpOp_yes rfl (by rfl) ?_
          intro K hK
          go_wp2_with fail
          rw [HJ0.out]
          exact ⟨tok, x2, x45, x46, x47, x48, x49, x50, x51, x52, x53, x54, x55, x56, x57, x58, x59, x60, x61, x62, x63, x64, x65, x66, x67, x68, x69, x70, .int .i64 c1, x72, x73, x74, x75, x76, (by simp only [List.setIfInBounds_toArray, List.set_cons_succ, List.set_cons_zero, D18]), Bk (pj0 HH.out), Bk (pj1 HH.out), Bk (pj2 HH.out), Bk (pj3 HH.out), Bk (pj4 HH.out), Bk (pj5 HH.out), Bk (pj6 HH.out), Bk (pj7 HH.out), Bk (pj8 HH.out), Bk (pj9 HH.out), Bk (pj10 HH.out), Bk (pj11 HH.out), Bk (pj12 HH.out), Bk (pj13 HH.out), Bk (pj14 HH.out), Bk (pj15 HH.out), Bk (pj16 HH.out), Bk (pj17 HH.out), Bk (pj18 HH.out), Bk (pj19 HH.out), Bk (pj20 HH.out), Bk (pj21 HH.out), Bk (pj22 HH.out), Bk (pj23 HH.out), Bk (pj24 HH.out), Bk (pj25 HH.out), fun _ => rfl, Bk (pj27 HH.out), Bk (pj28 HH.out), Bk (pj29 HH.out), Bk (pj30 HH.out), Bk (pj31 HH.out), Bk (pj32 HH.out), Bi (pj33 HH.out), Bw (pe34 HH.out)⟩
        · have D18 := (pj18 HH.out) (ready_dep2 hi 18 (by kernel_rfl))
          have D25 := (pj25 HH.out) (ready_dep2 hi 25 (by kernel_rfl))
          have D26 := (pj26 HH.out) (ready_dep2 hi 26 (by kernel_rfl))
          clear hi HCL
          simp only [List.setIfInBounds_toArray, List.set_cons_succ, List.set_cons_zero, D18, D25, D26]
          refine wpOp_yes rfl (by rfl) ?_
          intro K hK
          go_wp2_with fail
          rw [HJ0.out]
          exact ⟨tok, x2, x45, x46, x47, x48, x49, x50, x51, x52, x53, x54, x55, x56, x57, x58, x59, x60, x61, x62, x63, x64, x65, x66, x67, x68, x69, x70, x71, .slice (some ⟨g, 0, none⟩) 0 0, x73, x74, x75, x76, (by simp only [List.setIfInBounds_toArray, List.set_cons_succ, List.set_cons_zero, D18, D25, D26]), Bk (pj0 HH.out), Bk (pj1 HH.out), Bk (pj2 HH.out), Bk (pj3 HH.out), Bk (pj4 HH.out), Bk (pj5 HH.out), Bk (pj6 HH.out), Bk (pj7 HH.out), Bk (pj8 HH.out), Bk (pj9 HH.out), Bk (pj10 HH.out), Bk (pj11 HH.out), Bk (pj12 HH.out), Bk (pj13 HH.out), Bk (pj14 HH.out), Bk (pj15 HH.out), Bk (pj16 HH.out), Bk (pj17 HH.out), Bk (pj18 HH.out), Bk (pj19 HH.out), Bk (pj20 HH.out), Bk (pj21 HH.out), Bk (pj22 HH.out), Bk (pj23 HH.out), Bk (pj24 HH.out), Bk (pj25 HH.out), Bk (pj26 HH.out), fun _ => rfl, Bk (pj28 HH.out), Bk (pj29 HH.out), Bk (pj30 HH.out), Bk (pj31 HH.out), Bk (pj32 HH.out), Bi (pj33 HH.out), Bw (pe34 HH.out)⟩
        · have hns : ¬ Ls listed 32 := fun h => hnl (HCL.out.dep2 (HCL.out.dep2 (HCL.out.dep2 (HCL.out.dep2 h 31 (by kernel_rfl)) 30 (by kernel_rfl)) 29 (by kernel_rfl)) 28 (by kernel_rfl))
          have D18 := (pj18 HH.out) (ready_dep2 hi 18 (by kernel_rfl))
          have D27 := (pj27 HH.out) (ready_dep2 hi 27 (by kernel_rfl))
          have V0 := (pj33 HH.out) hns
          clear hi HCL
          simp only [List.setIfInBounds_toArray, List.set_cons_succ, List.set_cons_zero, D18, D27]
          refine wpOp_yes rfl (by rfl) ?_
          intro K hK
          go_wp2_with fail
          refine (StmtTokenCount_impl 6 0 _ _ _ (l.drop c1) W (RD.out.below V0) (by omega)).mono ?_
          rintro e y ⟨he, hb, hs⟩
          obtain rfl : e = .returned (.int .i64 0) := by rw [he, HT2.out] <;> rfl
          go_wp2_with fail
          rw [HJ0.out]
          exact ⟨tok, x2, x45, x46, x47, x48, x49, x50, x51, x52, x53, x54, x55, x56, x57, x58, x59, x60, x61, x62, x63, x64, x65, x66, x67, x68, x69, x70, x71, x72, .int .i64 0, x74, x75, x76, (by simp only [List.setIfInBounds_toArray, List.set_cons_succ, List.set_cons_zero, D18, D27]), Bk (pj0 HH.out), Bk (pj1 HH.out), Bk (pj2 HH.out), Bk (pj3 HH.out), Bk (pj4 HH.out), Bk (pj5 HH.out), Bk (pj6 HH.out), Bk (pj7 HH.out), Bk (pj8 HH.out), Bk (pj9 HH.out), Bk (pj10 HH.out), Bk (pj11 HH.out), Bk (pj12 HH.out), Bk (pj13 HH.out), Bk (pj14 HH.out), Bk (pj15 HH.out), Bk (pj16 HH.out), Bk (pj17 HH.out), Bk (pj18 HH.out), Bk (pj19 HH.out), Bk (pj20 HH.out), Bk (pj21 HH.out), Bk (pj22 HH.out), Bk (pj23 HH.out), Bk (pj24 HH.out), Bk (pj25 HH.out), Bk (pj26 HH.out), Bk (pj27 HH.out), fun _ => rfl, Bk (pj29 HH.out), Bk (pj30 HH.out), Bk (pj31 HH.out), fun h => absurd (h.back (by decide)) hns, fun h => belT ((pj33 HH.out) (fun h2 => h h2.fwd)) hb, fun h1 _ => absurd (h1.back (by decide)) hns⟩
        · have D18 := (pj18 HH.out) (ready_dep2 hi 18 (by kernel_rfl))
          have D24 := (pj24 HH.out) (ready_dep2 hi 24 (by kernel_rfl))
          have D28 := (pj28 HH.out) (ready_dep2 hi 28 (by kernel_rfl))
          clear hi HCL
          simp only [List.setIfInBounds_toArray, List.set_cons_succ, List.set_cons_zero, D18, D24, D28]
          refine wpOp_yes rfl (by rfl) ?_
          intro K hK
          go_wp2_with fail
          rw [HJ0.out]
          exact ⟨tok, x2, x45, x46, x47, x48, x49, x50, x51, x52, x53, x54, x55, x56, x57, x58, x59, x60, x61, x62, x63, x64, x65, x66, x67, x68, x69, x70, x71, x72, x73, .int .i64 T, x75, x76, (by simp only [List.setIfInBounds_toArray, List.set_cons_succ, List.set_cons_zero, D18, D24, D28]), Bk (pj0 HH.out), Bk (pj1 HH.out), Bk (pj2 HH.out), Bk (pj3 HH.out), Bk (pj4 HH.out), Bk (pj5 HH.out), Bk (pj6 HH.out), Bk (pj7 HH.out), Bk (pj8 HH.out), Bk (pj9 HH.out), Bk (pj10 HH.out), Bk (pj11 HH.out), Bk (pj12 HH.out), Bk (pj13 HH.out), Bk (pj14 HH.out), Bk (pj15 HH.out), Bk (pj16 HH.out), Bk (pj17 HH.out), Bk (pj18 HH.out), Bk (pj19 HH.out), Bk (pj20 HH.out), Bk (pj21 HH.out), Bk (pj22 HH.out), Bk (pj23 HH.out), Bk (pj24 HH.out), Bk (pj25 HH.out), Bk (pj26 HH.out), Bk (pj27 HH.out), Bk (pj28 HH.out), fun _ => rfl, Bk (pj30 HH.out), Bk (pj31 HH.out), Bk (pj32 HH.out), Bi (pj33 HH.out), Bw (pe34 HH.out)⟩
        · have D18 := (pj18 HH.out) (ready_dep2 hi 18 (by kernel_rfl))
          have D20 := (pj20 HH.out) (ready_dep2 hi 20 (by kernel_rfl))
          have D29 := (pj29 HH.out) (ready_dep2 hi 29 (by kernel_rfl))
          clear hi HCL
          simp only [List.setIfInBounds_toArray, List.set_cons_succ, List.set_cons_zero, D18, D20, D29]
          refine wpOp_yes rfl (by rfl) ?_
          intro K hK
          go_wp2_with fail
          rw [HJ0.out]
          exact ⟨tok, x2, x45, x46, x47, x48, x49, x50, x51, x52, x53, x54, x55, x56, x57, x58, x59, x60, x61, x62, x63, x64, x65, x66, x67, x68, x69, x70, x71, x72, x73, x74, .bool true, x76, (by simp only [List.setIfInBounds_toArray, List.set_cons_succ, List.set_cons_zero, D18, D20, D29]), Bk (pj0 HH.out), Bk (pj1 HH.out), Bk (pj2 HH.out), Bk (pj3 HH.out), Bk (pj4 HH.out), Bk (pj5 HH.out), Bk (pj6 HH.out), Bk (pj7 HH.out), Bk (pj8 HH.out), Bk (pj9 HH.out), Bk (pj10 HH.out), Bk (pj11 HH.out), Bk (pj12 HH.out), Bk (pj13 HH.out), Bk (pj14 HH.out), Bk (pj15 HH.out), Bk (pj16 HH.out), Bk (pj17 HH.out), Bk (pj18 HH.out), Bk (pj19 HH.out), Bk (pj20 HH.out), Bk (pj21 HH.out), Bk (pj22 HH.out), Bk (pj23 HH.out), Bk (pj24 HH.out), Bk (pj25 HH.out), Bk (pj26 HH.out), Bk (pj27 HH.out), Bk (pj28 HH.out), Bk (pj29 HH.out), fun _ => rfl, Bk (pj31 HH.out), Bk (pj32 HH.out), Bi (pj33 HH.out), Bw (pe34 HH.out)⟩
        · have D18 := (pj18 HH.out) (ready_dep2 hi 18 (by kernel_rfl))
          have D30 := (pj30 HH.out) (ready_dep2 hi 30 (by kernel_rfl))
          clear hi HCL
          simp only [List.setIfInBounds_toArray, List.set_cons_succ, List.set_cons_zero, D18, D30]
          refine wpOp_one rfl rfl ?_
          intro K hK
          go_wp2_with fail
          rw [HJ0.out]
          exact ⟨tok, x2, x45, x46, x47, x48, x49, x50, x51, x52, x53, x54, x55, x56, x57, x58, x59, x60, x61, x62, x63, x64, x65, x66, x67, x68, x69, x70, x71, x72, x73, x74, x75, .bool true, (by simp only [List.setIfInBounds_toArray, List.set_cons_succ, List.set_cons_zero, D18, D30]), Bk (pj0 HH.out), Bk (pj1 HH.out), Bk (pj2 HH.out), Bk (pj3 HH.out), Bk (pj4 HH.out), Bk (pj5 HH.out), Bk (pj6 HH.out), Bk (pj7 HH.out), Bk (pj8 HH.out), Bk (pj9 HH.out), Bk (pj10 HH.out), Bk (pj11 HH.out), Bk (pj12 HH.out), Bk (pj13 HH.out), Bk (pj14 HH.out), Bk (pj15 HH.out), Bk (pj16 HH.out), Bk (pj17 HH.out), Bk (pj18 HH.out), Bk (pj19 HH.out), Bk (pj20 HH.out), Bk (pj21 HH.out), Bk (pj22 HH.out), Bk (pj23 HH.out), Bk (pj24 HH.out), Bk (pj25 HH.out), Bk (pj26 HH.out), Bk (pj27 HH.out), Bk (pj28 HH.out), Bk (pj29 HH.out), Bk (pj30 HH.out), fun _ => rfl, Bk (pj32 HH.out), Bi (pj33 HH.out), Bw (pe34 HH.out)⟩
        · have hns : ¬ Ls listed 32 := hnl
          have D31 := (pj31 HH.out) (ready_dep2 hi 31 (by kernel_rfl))
          have V0 := (pj33 HH.out) hns
          clear hi HCL
          simp only [List.setIfInBounds_toArray, List.set_cons_succ, List.set_cons_zero, D31]
          refine wpOp_one rfl rfl ?_
          intro K hK
          go_wp2_with fail
          rw [HJ0.out]
          exact ⟨tok, .bool true, x45, x46, x47, x48, x49, x50, x51, x52, x53, x54, x55, x56, x57, x58, x59, x60, x61, x62, x63, x64, x65, x66, x67, x68, x69, x70, x71, x72, x73, x74, x75, x76, (by first | (simp only [List.setIfInBounds_toArray, List.set_cons_succ, List.set_cons_zero, D31] <;> fail) | simp only [Act.put, List.setIfInBounds_toArray, List.set_cons_succ, List.set_cons_zero, D31]), Bk (pj0 HH.out), Bk (pj1 HH.out), Bk (pj2 HH.out), Bk (pj3 HH.out), Bk (pj4 HH.out), Bk (pj5 HH.out), Bk (pj6 HH.out), Bk (pj7 HH.out), Bk (pj8 HH.out), Bk (pj9 HH.out), Bk (pj10 HH.out), Bk (pj11 HH.out), Bk (pj12 HH.out), Bk (pj13 HH.out), Bk (pj14 HH.out), Bk (pj15 HH.out), Bk (pj16 HH.out), Bk (pj17 HH.out), Bk (pj18 HH.out), Bk (pj19 HH.out), Bk (pj20 HH.out), Bk (pj21 HH.out), Bk (pj22 HH.out), Bk (pj23 HH.out), Bk (pj24 HH.out), Bk (pj25 HH.out), Bk (pj26 HH.out), Bk (pj27 HH.out), Bk (pj28 HH.out), Bk (pj29 HH.out), Bk (pj30 HH.out), Bk (pj31 HH.out), fun _ => ⟨rfl, V0⟩, fun h => absurd hnow h, fun _ h => absurd hnow h⟩
      · intro listed a W hsize hJ hr
        rw [HJ0.out] at hJ
        have hall := all_listed hsize (by kernel_rfl) hr
        obtain ⟨tok, x2, x45, x46, x47, x48, x49, x50, x51, x52, x53, x54, x55, x56, x57, x58, x59, x60, x61, x62, x63, x64, x65, x66, x67, x68, x69, x70, x71, x72, x73, x74, x75, x76, rfl, HF⟩ := hJ
        have HH := Lib.hid HF
        have HEND := (pj32 HH.out) (hall 32 (by decide))
        clear HF HH hall hr hsize
        simp only [List.setIfInBounds_toArray, List.set_cons_succ, List.set_cons_zero]
        obtain ⟨rfl, hbF⟩ := HEND
        have HBF := Lib.hid hbF
        clear hbF
        go_wp2_with fail
        go_ret
        exact ⟨rfl, HB1.out.trans ((B2.out.trans (HBF.out.mono (by omega))).mono hs1)⟩
    · have RD := Lib.hid (RdT.drop HRw.out hkm)
      rw [Nat.zero_add] at RD
      go_wp2_with fail
      refine (NestingDepth_impl 6 0 _ _ _ (l.take k) w2 RT.out (by omega)).mono ?_
      rintro e w3 ⟨rfl, b3, s3⟩
      rw [← HEa.out]
      have B3 := Lib.hid b3
      clear b3
      go_wp2_with fail
      refine (NestingDepth_impl 6 0 _ _ _ (l.drop k) w3 (RD.out.below B3.out) (by omega)).mono ?_
      rintro e w4 ⟨rfl, b4, s4⟩
      rw [← HEb.out]
      have B4 := Lib.hid (B3.out.trans (b4.mono (by omega)))
      clear b4
      go_wp2_with fail
      refine (NestingDepth_spec 6 0 _ _ _ l w4 (HRw.out.below B4.out) (by omega)).mono ?_
      rintro e w5 ⟨rfl, b5, s5⟩
      rw [← HEN.out]
      have B5 := Lib.hid (B4.out.trans (b5.mono (by omega)))
      clear b5
      go_wp2_with fail
      refine (StmtTokenCount_impl 6 0 _ _ _ l w5 (HRw.out.below B5.out) (by omega)).mono ?_
      rintro e w6 ⟨rfl, b6, s6⟩
      have B6 := Lib.hid (B5.out.trans (b6.mono (by omega)))
      clear b6
      go_wp2_with fail
      refine (StmtTokenCount_spec 6 0 _ _ _ l w6 (HRw.out.below B6.out) (by omega)).mono ?_
      rintro e w7 ⟨rfl, b7, s7⟩
      have B7 := Lib.hid (B6.out.trans (b7.mono (by omega)))
      clear b7
      go_wp2_with fail
      refine (EqualStmts_impl 6 0 0 _ _ _ _ _ _ l l w7 (HRw.out.below B7.out) (HRw.out.below B7.out) (by omega) (by omega)).mono ?_
      rintro e w8 ⟨rfl, b8, s8⟩
      rw [eqTs_refl]
      have B8 := Lib.hid (B7.out.trans (b8.mono (by omega)))
      clear b8
      go_upto_region 10 with (fail)
      have htk := tok_cut l k
      obtain ⟨T1, hT1⟩ : ∃ T, tokT 6 (l.take k) = T := ⟨_, rfl⟩
      obtain ⟨T2, hT2⟩ : ∃ T, tokT 6 (l.drop k) = T := ⟨_, rfl⟩
      have hTb : T1 ≤ 400000 ∧ T2 ≤ 400000 := by have := tokT_le 6 (l.take k); have := tokT_le 6 (l.drop k); omega
      have hTb1 := hTb.1
      have hTb2 := hTb.2
      have HT1 := Lib.hid hT1
      have HT2 := Lib.hid hT2
      have HT : Hid (tokT 6 l = T1 + T2) := by show tokT 6 l = T1 + T2; rw [← hT1, ← hT2]; exact htk
      clear hT1 hT2 htk hTb
      clear B3 B4 B5 B6 B7
      obtain ⟨hab, ha, hb⟩ := HMX.out
      rcases hab with rfl | ⟨hne, rfl⟩
      · have d1 : decide (N ≤ N) = true := decide_eq_true (by omega)
        have d2 : decide (bb ≤ N) = true := decide_eq_true (by omega)
        have d3 : decide ((N : Int) ≤ (N : Int)) = true := decide_eq_true (by omega)
        have d4 : decide ((bb : Int) ≤ (N : Int)) = true := decide_eq_true (by omega)
        obtain ⟨J0, hJ0⟩ : ∃ J : Array Value → Array Bool → Act → World → Prop, J = (fun A0 listed a W => ∃ (tok : Nat), ∃ x2 x45 x46 x47 x48 x49 x50 x51 x52 x53 x54 x55 x56 x57 x58 x59 x60 x61 x62 x63 x64 x65 x66 x67 x68 x69 x70 x71 x72 x73 x74 x75 x76 : Value, a = ⟨(((((((((((((((((((((((((((((((((A0.setIfInBounds 2 x2).setIfInBounds 45 x45).setIfInBounds 46 x46).setIfInBounds 47 x47).setIfInBounds 48 x48).setIfInBounds 49 x49).setIfInBounds 50 x50).setIfInBounds 51 x51).setIfInBounds 52 x52).setIfInBounds 53 x53).setIfInBounds 54 x54).setIfInBounds 55 x55).setIfInBounds 56 x56).setIfInBounds 57 x57).setIfInBounds 58 x58).setIfInBounds 59 x59).setIfInBounds 60 x60).setIfInBounds 61 x61).setIfInBounds 62 x62).setIfInBounds 63 x63).setIfInBounds 64 x64).setIfInBounds 65 x65).setIfInBounds 66 x66).setIfInBounds 67 x67).setIfInBounds 68 x68).setIfInBounds 69 x69).setIfInBounds 70 x70).setIfInBounds 71 x71).setIfInBounds 72 x72).setIfInBounds 73 x73).setIfInBounds 74 x74).setIfInBounds 75 x75).setIfInBounds 76 x76), []⟩ ∧ (Ls listed 0 → x45 = .int .i64 N) ∧ (Ls listed 1 → x46 = .int .i64 N) ∧ (Ls listed 2 → x47 = .bool true) ∧ (Ls listed 3 → x48 = .bool true) ∧ (Ls listed 4 → True) ∧ (Ls listed 5 → True) ∧ (Ls listed 6 → True) ∧ (Ls listed 7 → x52 = .bool true) ∧ (Ls listed 8 → x53 = .bool true) ∧ (Ls listed 9 → x54 = .int .i64 N) ∧ (Ls listed 10 → x55 = .int .i64 N) ∧ (Ls listed 11 → x56 = .bool true) ∧ (Ls listed 12 → x57 = .bool true) ∧ (Ls listed 13 → x58 = .bool true) ∧ (Ls listed 14 → x59 = .int .i64 N) ∧ (Ls listed 15 → x60 = .int .i64 bb) ∧ (Ls listed 16 → x61 = .bool true) ∧ (Ls listed 17 → x62 = .bool true) ∧ (Ls listed 18 → x63 = .bool true) ∧ (Ls listed 19 → x64 = .slice (some ⟨g, 0, none⟩) m c1) ∧ (Ls listed 20 → x65 = .int .i64 ((T1 : Int) + (T2 : Int))) ∧ (Ls listed 21 → x66 = .slice (some ⟨g, 0, none⟩) m c1) ∧ (Ls listed 22 → x67 = .int .i64 k) ∧ (Ls listed 23 → x68 = .slice (some ⟨g, 0, none⟩) k c1) ∧ (Ls listed 24 → x69 = .int .i64 T1) ∧ (Ls listed 25 → x70 = .slice (some ⟨g, 0, none⟩) m c1) ∧ (Ls listed 26 → x71 = .int .i64 k) ∧ (Ls listed 27 → x72 = .slice (some ⟨g, k * 5, none⟩) (m - k) (c1 - k)) ∧ (Ls listed 28 → x73 = .int .i64 T2) ∧ (Ls listed 29 → x74 = .int .i64 ((T1 : Int) + (T2 : Int))) ∧ (Ls listed 30 → x75 = .bool true) ∧ (Ls listed 31 → x76 = .bool true) ∧ (Ls listed 32 → x2 = .bool true ∧ Below w2.heap.size w2 W) ∧ (¬ Ls listed 32 → Below w2.heap.size w2 W) ∧ (Ls listed 32 → ¬ Ls listed 32 → True)) := ⟨_, rfl⟩
        have HJ0 := Lib.hid hJ0
        clear hJ0
        refine wp_region_inv2 (by kernel_rfl) J0 ?_ ?_ ?_
        · intro A0
          rw [HJ0.out]
          exact ⟨0, A0.getD 2 undef, A0.getD 45 undef, A0.getD 46 undef, A0.getD 47 undef, A0.getD 48 undef, A0.getD 49 undef, A0.getD 50 undef, A0.getD 51 undef, A0.getD 52 undef, A0.getD 53 undef, A0.getD 54 undef, A0.getD 55 undef, A0.getD 56 undef, A0.getD 57 undef, A0.getD 58 undef, A0.getD 59 undef, A0.getD 60 undef, A0.getD 61 undef, A0.getD 62 undef, A0.getD 63 undef, A0.getD 64 undef, A0.getD 65 undef, A0.getD 66 undef, A0.getD 67 undef, A0.getD 68 undef, A0.getD 69 undef, A0.getD 70 undef, A0.getD 71 undef, A0.getD 72 undef, A0.getD 73 undef, A0.getD 74 undef, A0.getD 75 undef, A0.getD 76 undef, by simp only [set_self], fun h => h.none, fun h => h.none, fun h => h.none, fun h => h.none, fun h => h.none, fun h => h.none, fun h => h.none, fun h => h.none, fun h => h.none, fun h => h.none, fun h => h.none, fun h => h.none, fun h => h.none, fun h => h.none, fun h => h.none, fun h => h.none, fun h => h.none, fun h => h.none, fun h => h.none, fun h => h.none, fun h => h.none, fun h => h.none, fun h => h.none, fun h => h.none, fun h => h.none, fun h => h.none, fun h => h.none, fun h => h.none, fun h => h.none, fun h => h.none, fun h => h.none, fun h => h.none, fun h => h.none, fun _ => below_drewT B8.out, fun h => h.none⟩
        · intro listed a W hsize hcl hJ i hi
          have hil := ready_lt hi
          have hnl := ready_not hi
          have hnow := ready_now hi hsize
          have HCL := Lib.hid hcl
          rw [HJ0.out] at hJ
          obtain ⟨tok, x2, x45, x46, x47, x48, x49, x50, x51, x52, x53, x54, x55, x56, x57, x58, x59, x60, x61, x62, x63, x64, x65, x66, x67, x68, x69, x70, x71, x72, x73, x74, x75, x76, rfl, HF⟩ := hJ
          have HH := Lib.hid HF
          have hi2 : i = 0 ∨ i = 1 ∨ i = 2 ∨ i = 3 ∨ i = 4 ∨ i = 5 ∨ i = 6 ∨ i = 7 ∨ i = 8 ∨ i = 9 ∨ i = 10 ∨ i = 11 ∨ i = 12 ∨ i = 13 ∨ i = 14 ∨ i = 15 ∨ i = 16 ∨ i = 17 ∨ i = 18 ∨ i = 19 ∨ i = 20 ∨ i = 21 ∨ i = 22 ∨ i = 23 ∨ i = 24 ∨ i = 25 ∨ i = 26 ∨ i = 27 ∨ i = 28 ∨ i = 29 ∨ i = 30 ∨ i = 31 ∨ i = 32 := by simp at hil; omega
          clear hil hcl HF
          rcases hi2 with rfl | rfl | rfl | rfl | rfl | rfl | rfl | rfl | rfl | rfl | rfl | rfl | rfl | rfl | rfl | rfl | rfl | rfl | rfl | rfl | rfl | rfl | rfl | rfl | rfl | rfl | rfl | rfl | rfl | rfl | rfl | rfl | rfl
          · clear hi HCL
            simp only [List.setIfInBounds_toArray, List.set_cons_succ, List.set_cons_zero]
            refine wpOp_one rfl rfl ?_
            intro K hK
            go_wp2_with fail
            rw [HJ0.out]
            exact ⟨tok, x2, .int .i64 N, x46, x47, x48, x49, x50, x51, x52, x53, x54, x55, x56, x57, x58, x59, x60, x61, x62, x63, x64, x65, x66, x67, x68, x69, x70, x71, x72, x73, x74, x75, x76, (by simp only [List.setIfInBounds_toArray, List.set_cons_succ, List.set_cons_zero]), fun _ => rfl, Bk (pj1 HH.out), Bk (pj2 HH.out), Bk (pj3 HH.out), Bk (pj4 HH.out), Bk (pj5 HH.out), Bk (pj6 HH.out), Bk (pj7 HH.out), Bk (pj8 HH.out), Bk (pj9 HH.out), Bk (pj10 HH.out), Bk (pj11 HH.out), Bk (pj12 HH.out), Bk (pj13 HH.out), Bk (pj14 HH.out), Bk (pj15 HH.out), Bk (pj16 HH.out), Bk (pj17 HH.out), Bk (pj18 HH.out), Bk (pj19 HH.out), Bk (pj20 HH.out), Bk (pj21 HH.out), Bk (pj22 HH.out), Bk (pj23 HH.out), Bk (pj24 HH.out), Bk (pj25 HH.out), Bk (pj26 HH.out), Bk (pj27 HH.out), Bk (pj28 HH.out), Bk (pj29 HH.out), Bk (pj30 HH.out), Bk (pj31 HH.out), Bk (pj32 HH.out), Bi (pj33 HH.out), Bw (pe34 HH.out)⟩
          · clear hi HCL
            simp only [List.setIfInBounds_toArray, List.set_cons_succ, List.set_cons_zero]
            refine wpOp_one rfl rfl ?_
            intro K hK
            go_wp2_with fail
            rw [HJ0.out]
            exact ⟨tok, x2, x45, .int .i64 N, x47, x48, x49, x50, x51, x52, x53, x54, x55, x56, x57, x58, x59, x60, x61, x62, x63, x64, x65, x66, x67, x68, x69, x70, x71, x72, x73, x74, x75, x76, (by simp only [List.setIfInBounds_toArray, List.set_cons_succ, List.set_cons_zero]), Bk (pj0 HH.out), fun _ => rfl, Bk (pj2 HH.out), Bk (pj3 HH.out), Bk (pj4 HH.out), Bk (pj5 HH.out), Bk (pj6 HH.out), Bk (pj7 HH.out), Bk (pj8 HH.out), Bk (pj9 HH.out), Bk (pj10 HH.out), Bk (pj11 HH.out), Bk (pj12 HH.out), Bk (pj13 HH.out), Bk (pj14 HH.out), Bk (pj15 HH.out), Bk (pj16 HH.out), Bk (pj17 HH.out), Bk (pj18 HH.out), Bk (pj19 HH.out), Bk (pj20 HH.out), Bk (pj21 HH.out), Bk (pj22 HH.out), Bk (pj23 HH.out), Bk (pj24 HH.out), Bk (pj25 HH.out), Bk (pj26 HH.out), Bk (pj27 HH.out), Bk (pj28 HH.out), Bk (pj29 HH.out), Bk (pj30 HH.out), Bk (pj31 HH.out), Bk (pj32 HH.out), Bi (pj33 HH.out), Bw (pe34 HH.out)⟩
          · have D0 := (pj0 HH.out) (ready_dep2 hi 0 (by kernel_rfl))
            have D1 := (pj1 HH.out) (ready_dep2 hi 1 (by kernel_rfl))
            clear hi HCL
            simp only [List.setIfInBounds_toArray, List.set_cons_succ, List.set_cons_zero, D0, D1]
            refine wpOp_one rfl rfl ?_
            intro K hK
            go_wp2_with fail
            rw [HJ0.out]
            exact ⟨tok, x2, x45, x46, .bool true, x48, x49, x50, x51, x52, x53, x54, x55, x56, x57, x58, x59, x60, x61, x62, x63, x64, x65, x66, x67, x68, x69, x70, x71, x72, x73, x74, x75, x76, (by simp only [List.setIfInBounds_toArray, List.set_cons_succ, List.set_cons_zero, D0, D1]), Bk (pj0 HH.out), Bk (pj1 HH.out), fun _ => rfl, Bk (pj3 HH.out), Bk (pj4 HH.out), Bk (pj5 HH.out), Bk (pj6 HH.out), Bk (pj7 HH.out), Bk (pj8 HH.out), Bk (pj9 HH.out), Bk (pj10 HH.out), Bk (pj11 HH.out), Bk (pj12 HH.out), Bk (pj13 HH.out), Bk (pj14 HH.out), Bk (pj15 HH.out), Bk (pj16 HH.out), Bk (pj17 HH.out), Bk (pj18 HH.out), Bk (pj19 HH.out), Bk (pj20 HH.out), Bk (pj21 HH.out), Bk (pj22 HH.out), Bk (pj23 HH.out), Bk (pj24 HH.out), Bk (pj25 HH.out), Bk (pj26 HH.out), Bk (pj27 HH.out), Bk (pj28 HH.out), Bk (pj29 HH.out), Bk (pj30 HH.out), Bk (pj31 HH.out), Bk (pj32 HH.out), Bi (pj33 HH.out), Bw (pe34 HH.out)⟩
          · have D2 := (pj2 HH.out) (ready_dep2 hi 2 (by kernel_rfl))
            clear hi HCL
            simp only [List.setIfInBounds_toArray, List.set_cons_succ, List.set_cons_zero, D2]
            refine wpOp_one rfl rfl ?_
            intro K hK
            go_wp2_with fail
            rw [HJ0.out]
            exact ⟨tok, x2, x45, x46, x47, .bool true, x49, x50, x51, x52, x53, x54, x55, x56, x57, x58, x59, x60, x61, x62, x63, x64, x65, x66, x67, x68, x69, x70, x71, x72, x73, x74, x75, x76, (by simp only [List.setIfInBounds_toArray, List.set_cons_succ, List.set_cons_zero, D2]), Bk (pj0 HH.out), Bk (pj1 HH.out), Bk (pj2 HH.out), fun _ => rfl, Bk (pj4 HH.out), Bk (pj5 HH.out), Bk (pj6 HH.out), Bk (pj7 HH.out), Bk (pj8 HH.out), Bk (pj9 HH.out), Bk (pj10 HH.out), Bk (pj11 HH.out), Bk (pj12 HH.out), Bk (pj13 HH.out), Bk (pj14 HH.out), Bk (pj15 HH.out), Bk (pj16 HH.out), Bk (pj17 HH.out), Bk (pj18 HH.out), Bk (pj19 HH.out), Bk (pj20 HH.out), Bk (pj21 HH.out), Bk (pj22 HH.out), Bk (pj23 HH.out), Bk (pj24 HH.out), Bk (pj25 HH.out), Bk (pj26 HH.out), Bk (pj27 HH.out), Bk (pj28 HH.out), Bk (pj29 HH.out), Bk (pj30 HH.out), Bk (pj31 HH.out), Bk (pj32 HH.out), Bi (pj33 HH.out), Bw (pe34 HH.out)⟩
          · have D3 := (pj3 HH.out) (ready_dep2 hi 3 (by kernel_rfl))
            clear hi HCL
            simp only [List.setIfInBounds_toArray, List.set_cons_succ, List.set_cons_zero, D3]
            refine wpOp_off 49 rfl rfl (by rfl) ?_
            simp only [List.setIfInBounds_toArray, List.set_cons_succ, List.set_cons_zero]
            rw [HJ0.out]
            exact ⟨tok, x2, x45, x46, x47, x48, undef, x50, x51, x52, x53, x54, x55, x56, x57, x58, x59, x60, x61, x62, x63, x64, x65, x66, x67, x68, x69, x70, x71, x72, x73, x74, x75, x76, (by simp only [List.setIfInBounds_toArray, List.set_cons_succ, List.set_cons_zero, D3]), Bk (pj0 HH.out), Bk (pj1 HH.out), Bk (pj2 HH.out), Bk (pj3 HH.out), fun _ => trivial, Bk (pj5 HH.out), Bk (pj6 HH.out), Bk (pj7 HH.out), Bk (pj8 HH.out), Bk (pj9 HH.out), Bk (pj10 HH.out), Bk (pj11 HH.out), Bk (pj12 HH.out), Bk (pj13 HH.out), Bk (pj14 HH.out), Bk (pj15 HH.out), Bk (pj16 HH.out), Bk (pj17 HH.out), Bk (pj18 HH.out), Bk (pj19 HH.out), Bk (pj20 HH.out), Bk (pj21 HH.out), Bk (pj22 HH.out), Bk (pj23 HH.out), Bk (pj24 HH.out), Bk (pj25 HH.out), Bk (pj26 HH.out), Bk (pj27 HH.out), Bk (pj28 HH.out), Bk (pj29 HH.out), Bk (pj30 HH.out), Bk (pj31 HH.out), Bk (pj32 HH.out), Bi (pj33 HH.out), Bw (pe34 HH.out)⟩
          · have D3 := (pj3 HH.out) (ready_dep2 hi 3 (by kernel_rfl))
            clear hi HCL
            simp only [List.setIfInBounds_toArray, List.set_cons_succ, List.set_cons_zero, D3]
            refine wpOp_off 50 rfl rfl (by rfl) ?_
            simp only [List.setIfInBounds_toArray, List.set_cons_succ, List.set_cons_zero]
            rw [HJ0.out]
            exact ⟨tok, x2, x45, x46, x47, x48, x49, undef, x51, x52, x53, x54, x55, x56, x57, x58, x59, x60, x61, x62, x63, x64, x65, x66, x67, x68, x69, x70, x71, x72, x73, x74, x75, x76, (by simp only [List.setIfInBounds_toArray, List.set_cons_succ, List.set_cons_zero, D3]), Bk (pj0 HH.out), Bk (pj1 HH.out), Bk (pj2 HH.out), Bk (pj3 HH.out), Bk (pj4 HH.out), fun _ => trivial, Bk (pj6 HH.out), Bk (pj7 HH.out), Bk (pj8 HH.out), Bk (pj9 HH.out), Bk (pj10 HH.out), Bk (pj11 HH.out), Bk (pj12 HH.out), Bk (pj13 HH.out), Bk (pj14 HH.out), Bk (pj15 HH.out), Bk (pj16 HH.out), Bk (pj17 HH.out), Bk (pj18 HH.out), Bk (pj19 HH.out), Bk (pj20 HH.out), Bk (pj21 HH.out), Bk (pj22 HH.out), Bk (pj23 HH.out), Bk (pj24 HH.out), Bk (pj25 HH.out), Bk (pj26 HH.out), Bk (pj27 HH.out), Bk (pj28 HH.out), Bk (pj29 HH.out), Bk (pj30 HH.out), Bk (pj31 HH.out), Bk (pj32 HH.out), Bi (pj33 HH.out), Bw (pe34 HH.out)⟩
          · have D3 := (pj3 HH.out) (ready_dep2 hi 3 (by kernel_rfl))
            clear hi HCL
            simp only [List.setIfInBounds_toArray, List.set_cons_succ, List.set_cons_zero, D3]
            refine wpOp_off 51 rfl rfl (by rfl) ?_
            simp only [List.setIfInBounds_toArray, List.set_cons_succ, List.set_cons_zero]
            rw [HJ0.out]
            exact ⟨tok, x2, x45, x46, x47, x48, x49, x50, undef, x52, x53, x54, x55, x56, x57, x58, x59, x60, x61, x62, x63, x64, x65, x66, x67, x68, x69, x70, x71, x72, x73, x74, x75, x76, (by simp only [List.setIfInBounds_toArray, List.set_cons_succ, List.set_cons_zero, D3]), Bk (pj0 HH.out), Bk (pj1 HH.out), Bk (pj2 HH.out), Bk (pj3 HH.out), Bk (pj4 HH.out), Bk (pj5 HH.out), fun _ => trivial, Bk (pj7 HH.out), Bk (pj8 HH.out), Bk (pj9 HH.out), Bk (pj10 HH.out), Bk (pj11 HH.out), Bk (pj12 HH.out), Bk (pj13 HH.out), Bk (pj14 HH.out), Bk (pj15 HH.out), Bk (pj16 HH.out), Bk (pj17 HH.out), Bk (pj18 HH.out), Bk (pj19 HH.out), Bk (pj20 HH.out), Bk (pj21 HH.out), Bk (pj22 HH.out), Bk (pj23 HH.out), Bk (pj24 HH.out), Bk (pj25 HH.out), Bk (pj26 HH.out), Bk (pj27 HH.out), Bk (pj28 HH.out), Bk (pj29 HH.out), Bk (pj30 HH.out), Bk (pj31 HH.out), Bk (pj32 HH.out), Bi (pj33 HH.out), Bw (pe34 HH.out)⟩
          · have D3 := (pj3 HH.out) (ready_dep2 hi 3 (by kernel_rfl))
            clear hi HCL
            simp only [List.setIfInBounds_toArray, List.set_cons_succ, List.set_cons_zero, D3]
            refine wpOp_one rfl rfl ?_
            intro K hK
            go_wp2_with fail
            rw [HJ0.out]
            exact ⟨tok, x2, x45, x46, x47, x48, x49, x50, x51, .bool true, x53, x54, x55, x56, x57, x58, x59, x60, x61, x62, x63, x64, x65, x66, x67, x68, x69, x70, x71, x72, x73, x74, x75, x76, (by simp only [List.setIfInBounds_toArray, List.set_cons_succ, List.set_cons_zero, D3]), Bk (pj0 HH.out), Bk (pj1 HH.out), Bk (pj2 HH.out), Bk (pj3 HH.out), Bk (pj4 HH.out), Bk (pj5 HH.out), Bk (pj6 HH.out), fun _ => rfl, Bk (pj8 HH.out), Bk (pj9 HH.out), Bk (pj10 HH.out), Bk (pj11 HH.out), Bk (pj12 HH.out), Bk (pj13 HH.out), Bk (pj14 HH.out), Bk (pj15 HH.out), Bk (pj16 HH.out), Bk (pj17 HH.out), Bk (pj18 HH.out), Bk (pj19 HH.out), Bk (pj20 HH.out), Bk (pj21 HH.out), Bk (pj22 HH.out), Bk (pj23 HH.out), Bk (pj24 HH.out), Bk (pj25 HH.out), Bk (pj26 HH.out), Bk (pj27 HH.out), Bk (pj28 HH.out), Bk (pj29 HH.out), Bk (pj30 HH.out), Bk (pj31 HH.out), Bk (pj32 HH.out), Bi (pj33 HH.out), Bw (pe34 HH.out)⟩
          · have D7 := (pj7 HH.out) (ready_dep2 hi 7 (by kernel_rfl))
            clear hi HCL
            simp only [List.setIfInBounds_toArray, List.set_cons_succ, List.set_cons_zero, D7]
            refine wpOp_one rfl rfl ?_
            intro K hK
            go_wp2_with fail
            rw [HJ0.out]
            exact ⟨tok, x2, x45, x46, x47, x48, x49, x50, x51, x52, .bool true, x54, x55, x56, x57, x58, x59, x60, x61, x62, x63, x64, x65, x66, x67, x68, x69, x70, x71, x72, x73, x74, x75, x76, (by simp only [List.setIfInBounds_toArray, List.set_cons_succ, List.set_cons_zero, D7]), Bk (pj0 HH.out), Bk (pj1 HH.out), Bk (pj2 HH.out), Bk (pj3 HH.out), Bk (pj4 HH.out), Bk (pj5 HH.out), Bk (pj6 HH.out), Bk (pj7 HH.out), fun _ => rfl, Bk (pj9 HH.out), Bk (pj10 HH.out), Bk (pj11 HH.out), Bk (pj12 HH.out), Bk (pj13 HH.out), Bk (pj14 HH.out), Bk (pj15 HH.out), Bk (pj16 HH.out), Bk (pj17 HH.out), Bk (pj18 HH.out), Bk (pj19 HH.out), Bk (pj20 HH.out), Bk (pj21 HH.out), Bk (pj22 HH.out), Bk (pj23 HH.out), Bk (pj24 HH.out), Bk (pj25 HH.out), Bk (pj26 HH.out), Bk (pj27 HH.out), Bk (pj28 HH.out), Bk (pj29 HH.out), Bk (pj30 HH.out), Bk (pj31 HH.out), Bk (pj32 HH.out), Bi (pj33 HH.out), Bw (pe34 HH.out)⟩
          · have D8 := (pj8 HH.out) (ready_dep2 hi 8 (by kernel_rfl))
            clear hi HCL
            simp only [List.setIfInBounds_toArray, List.set_cons_succ, List.set_cons_zero, D8]
            refine wpOp_yes rfl (by rfl) ?_
            intro K hK
            go_wp2_with fail
            rw [HJ0.out]
            exact ⟨tok, x2, x45, x46, x47, x48, x49, x50, x51, x52, x53, .int .i64 N, x55, x56, x57, x58, x59, x60, x61, x62, x63, x64, x65, x66, x67, x68, x69, x70, x71, x72, x73, x74, x75, x76, (by simp only [List.setIfInBounds_toArray, List.set_cons_succ, List.set_cons_zero, D8]), Bk (pj0 HH.out), Bk (pj1 HH.out), Bk (pj2 HH.out), Bk (pj3 HH.out), Bk (pj4 HH.out), Bk (pj5 HH.out), Bk (pj6 HH.out), Bk (pj7 HH.out), Bk (pj8 HH.out), fun _ => rfl, Bk (pj10 HH.out), Bk (pj11 HH.out), Bk (pj12 HH.out), Bk (pj13 HH.out), Bk (pj14 HH.out), Bk (pj15 HH.out), Bk (pj16 HH.out), Bk (pj17 HH.out), Bk (pj18 HH.out), Bk (pj19 HH.out), Bk (pj20 HH.out), Bk (pj21 HH.out), Bk (pj22 HH.out), Bk (pj23 HH.out), Bk (pj24 HH.out), Bk (pj25 HH.out), Bk (pj26 HH.out), Bk (pj27 HH.out), Bk (pj28 HH.out), Bk (pj29 HH.out), Bk (pj30 HH.out), Bk (pj31 HH.out), Bk (pj32 HH.out), Bi (pj33 HH.out), Bw (pe34 HH.out)⟩
          · have D8 := (pj8 HH.out) (ready_dep2 hi 8 (by kernel_rfl))
            clear hi HCL
            simp only [List.setIfInBounds_toArray, List.set_cons_succ, List.set_cons_zero, D8]
            refine wpOp_yes rfl (by rfl) ?_
            intro K hK
            go_wp2_with fail
            rw [HJ0.out]
            exact ⟨tok, x2, x45, x46, x47, x48, x49, x50, x51, x52, x53, x54, .int .i64 N, x56, x57, x58, x59, x60, x61, x62, x63, x64, x65, x66, x67, x68, x69, x70, x71, x72, x73, x74, x75, x76, (by simp only [List.setIfInBounds_toArray, List.set_cons_succ, List.set_cons_zero, D8]), Bk (pj0 HH.out), Bk (pj1 HH.out), Bk (pj2 HH.out), Bk (pj3 HH.out), Bk (pj4 HH.out), Bk (pj5 HH.out), Bk (pj6 HH.out), Bk (pj7 HH.out), Bk (pj8 HH.out), Bk (pj9 HH.out), fun _ => rfl, Bk (pj11 HH.out), Bk (pj12 HH.out), Bk (pj13 HH.out), Bk (pj14 HH.out), Bk (pj15 HH.out), Bk (pj16 HH.out), Bk (pj17 HH.out), Bk (pj18 HH.out), Bk (pj19 HH.out), Bk (pj20 HH.out), Bk (pj21 HH.out), Bk (pj22 HH.out), Bk (pj23 HH.out), Bk (pj24 HH.out), Bk (pj25 HH.out), Bk (pj26 HH.out), Bk (pj27 HH.out), Bk (pj28 HH.out), Bk (pj29 HH.out), Bk (pj30 HH.out), Bk (pj31 HH.out), Bk (pj32 HH.out), Bi (pj33 HH.out), Bw (pe34 HH.out)⟩
          · have D8 := (pj8 HH.out) (ready_dep2 hi 8 (by kernel_rfl))
            have D9 := (pj9 HH.out) (ready_dep2 hi 9 (by kernel_rfl))
            have D10 := (pj10 HH.out) (ready_dep2 hi 10 (by kernel_rfl))
            clear hi HCL
            simp only [List.setIfInBounds_toArray, List.set_cons_succ, List.set_cons_zero, D8, D9, D10]
            refine wpOp_yes rfl (by rfl) ?_
            intro K hK
            go_wp2_with fail
            rw [HJ0.out]
            exact ⟨tok, x2, x45, x46, x47, x48, x49, x50, x51, x52, x53, x54, x55, .bool true, x57, x58, x59, x60, x61, x62, x63, x64, x65, x66, x67, x68, x69, x70, x71, x72, x73, x74, x75, x76, (by simp only [List.setIfInBounds_toArray, List.set_cons_succ, List.set_cons_zero, D8, D9, D10]), Bk (pj0 HH.out), Bk (pj1 HH.out), Bk (pj2 HH.out), Bk (pj3 HH.out), Bk (pj4 HH.out), Bk (pj5 HH.out), Bk (pj6 HH.out), Bk (pj7 HH.out), Bk (pj8 HH.out), Bk (pj9 HH.out), Bk (pj10 HH.out), fun _ => rfl, Bk (pj12 HH.out), Bk (pj13 HH.out), Bk (pj14 HH.out), Bk (pj15 HH.out), Bk (pj16 HH.out), Bk (pj17 HH.out), Bk (pj18 HH.out), Bk (pj19 HH.out), Bk (pj20 HH.out), Bk (pj21 HH.out), Bk (pj22 HH.out), Bk (pj23 HH.out), Bk (pj24 HH.out), Bk (pj25 HH.out), Bk (pj26 HH.out), Bk (pj27 HH.out), Bk (pj28 HH.out), Bk (pj29 HH.out), Bk (pj30 HH.out), Bk (pj31 HH.out), Bk (pj32 HH.out), Bi (pj33 HH.out), Bw (pe34 HH.out)⟩
          · have D8 := (pj8 HH.out) (ready_dep2 hi 8 (by kernel_rfl))
            have D11 := (pj11 HH.out) (ready_dep2 hi 11 (by kernel_rfl))
            clear hi HCL
            simp only [List.setIfInBounds_toArray, List.set_cons_succ, List.set_cons_zero, D8, D11]
            refine wpOp_one rfl rfl ?_
            intro K hK
            go_wp2_with fail
            rw [HJ0.out]
            exact ⟨tok, x2, x45, x46, x47, x48, x49, x50, x51, x52, x53, x54, x55, x56, .bool true, x58, x59, x60, x61, x62, x63, x64, x65, x66, x67, x68, x69, x70, x71, x72, x73, x74, x75, x76, (by simp only [List.setIfInBounds_toArray, List.set_cons_succ, List.set_cons_zero, D8, D11]), Bk (pj0 HH.out), Bk (pj1 HH.out), Bk (pj2 HH.out), Bk (pj3 HH.out), Bk (pj4 HH.out), Bk (pj5 HH.out), Bk (pj6 HH.out), Bk (pj7 HH.out), Bk (pj8 HH.out), Bk (pj9 HH.out), Bk (pj10 HH.out), Bk (pj11 HH.out), fun _ => rfl, Bk (pj13 HH.out), Bk (pj14 HH.out), Bk (pj15 HH.out), Bk (pj16 HH.out), Bk (pj17 HH.out), Bk (pj18 HH.out), Bk (pj19 HH.out), Bk (pj20 HH.out), Bk (pj21 HH.out), Bk (pj22 HH.out), Bk (pj23 HH.out), Bk (pj24 HH.out), Bk (pj25 HH.out), Bk (pj26 HH.out), Bk (pj27 HH.out), Bk (pj28 HH.out), Bk (pj29 HH.out), Bk (pj30 HH.out), Bk (pj31 HH.out), Bk (pj32 HH.out), Bi (pj33 HH.out), Bw (pe34 HH.out)⟩
          · have D12 := (pj12 HH.out) (ready_dep2 hi 12 (by kernel_rfl))
            clear hi HCL
            simp only [List.setIfInBounds_toArray, List.set_cons_succ, List.set_cons_zero, D12]
            refine wpOp_one rfl rfl ?_
            intro K hK
            go_wp2_with fail
            rw [HJ0.out]
            exact ⟨tok, x2, x45, x46, x47, x48, x49, x50, x51, x52, x53, x54, x55, x56, x57, .bool true, x59, x60, x61, x62, x63, x64, x65, x66, x67, x68, x69, x70, x71, x72, x73, x74, x75, x76, (by simp only [List.setIfInBounds_toArray, List.set_cons_succ, List.set_cons_zero, D12]), Bk (pj0 HH.out), Bk (pj1 HH.out), Bk (pj2 HH.out), Bk (pj3 HH.out), Bk (pj4 HH.out), Bk (pj5 HH.out), Bk (pj6 HH.out), Bk (pj7 HH.out), Bk (pj8 HH.out), Bk (pj9 HH.out), Bk (pj10 HH.out), Bk (pj11 HH.out), Bk (pj12 HH.out), fun _ => rfl, Bk (pj14 HH.out), Bk (pj15 HH.out), Bk (pj16 HH.out), Bk (pj17 HH.out), Bk (pj18 HH.out), Bk (pj19 HH.out), Bk (pj20 HH.out), Bk (pj21 HH.out), Bk (pj22 HH.out), Bk (pj23 HH.out), Bk (pj24 HH.out), Bk (pj25 HH.out), Bk (pj26 HH.out), Bk (pj27 HH.out), Bk (pj28 HH.out), Bk (pj29 HH.out), Bk (pj30 HH.out), Bk (pj31 HH.out), Bk (pj32 HH.out), Bi (pj33 HH.out), Bw (pe34 HH.out)⟩
          · have D13 := (pj13 HH.out) (ready_dep2 hi 13 (by kernel_rfl))
            clear hi HCL
            simp only [List.setIfInBounds_toArray, List.set_cons_succ, List.set_cons_zero, D13]
            refine wpOp_yes rfl (by rfl) ?_
            intro K hK
            go_wp2_with fail
            rw [HJ0.out]
            exact ⟨tok, x2, x45, x46, x47, x48, x49, x50, x51, x52, x53, x54, x55, x56, x57, x58, .int .i64 N, x60, x61, x62, x63, x64, x65, x66, x67, x68, x69, x70, x71, x72, x73, x74, x75, x76, (by simp only [List.setIfInBounds_toArray, List.set_cons_succ, List.set_cons_zero, D13]), Bk (pj0 HH.out), Bk (pj1 HH.out), Bk (pj2 HH.out), Bk (pj3 HH.out), Bk (pj4 HH.out), Bk (pj5 HH.out), Bk (pj6 HH.out), Bk (pj7 HH.out), Bk (pj8 HH.out), Bk (pj9 HH.out), Bk (pj10 HH.out), Bk (pj11 HH.out), Bk (pj12 HH.out), Bk (pj13 HH.out), fun _ => rfl, Bk (pj15 HH.out), Bk (pj16 HH.out), Bk (pj17 HH.out), Bk (pj18 HH.out), Bk (pj19 HH.out), Bk (pj20 HH.out), Bk (pj21 HH.out), Bk (pj22 HH.out), Bk (pj23 HH.out), Bk (pj24 HH.out), Bk (pj25 HH.out), Bk (pj26 HH.out), Bk (pj27 HH.out), Bk (pj28 HH.out), Bk (pj29 HH.out), Bk (pj30 HH.out), Bk (pj31 HH.out), Bk (pj32 HH.out), Bi (pj33 HH.out), Bw (pe34 HH.out)⟩
          · have D13 := (pj13 HH.out) (ready_dep2 hi 13 (by kernel_rfl))
            clear hi HCL
            simp only [List.setIfInBounds_toArray, List.set_cons_succ, List.set_cons_zero, D13]
            refine wpOp_yes rfl (by rfl) ?_
            intro K hK
            go_wp2_with fail
            rw [HJ0.out]
            exact ⟨tok, x2, x45, x46, x47, x48, x49, x50, x51, x52, x53, x54, x55, x56, x57, x58, x59, .int .i64 bb, x61, x62, x63, x64, x65, x66, x67, x68, x69, x70, x71, x72, x73, x74, x75, x76, (by simp only [List.setIfInBounds_toArray, List.set_cons_succ, List.set_cons_zero, D13]), Bk (pj0 HH.out), Bk (pj1 HH.out), Bk (pj2 HH.out), Bk (pj3 HH.out), Bk (pj4 HH.out), Bk (pj5 HH.out), Bk (pj6 HH.out), Bk (pj7 HH.out), Bk (pj8 HH.out), Bk (pj9 HH.out), Bk (pj10 HH.out), Bk (pj11 HH.out), Bk (pj12 HH.out), Bk (pj13 HH.out), Bk (pj14 HH.out), fun _ => rfl, Bk (pj16 HH.out), Bk (pj17 HH.out), Bk (pj18 HH.out), Bk (pj19 HH.out), Bk (pj20 HH.out), Bk (pj21 HH.out), Bk (pj22 HH.out), Bk (pj23 HH.out), Bk (pj24 HH.out), Bk (pj25 HH.out), Bk (pj26 HH.out), Bk (pj27 HH.out), Bk (pj28 HH.out), Bk (pj29 HH.out), Bk (pj30 HH.out), Bk (pj31 HH.out), Bk (pj32 HH.out), Bi (pj33 HH.out), Bw (pe34 HH.out)⟩
          · have D13 := (pj13 HH.out) (ready_dep2 hi 13 (by kernel_rfl))
            have D14 := (pj14 HH.out) (ready_dep2 hi 14 (by kernel_rfl))
            have D15 := (pj15 HH.out) (ready_dep2 hi 15 (by kernel_rfl))
            clear hi HCL
            simp only [List.setIfInBounds_toArray, List.set_cons_succ, List.set_cons_zero, D13, D14, D15]
            refine wpOp_yes rfl (by rfl) ?_
            intro K hK
            go_wp2_with fail
            rw [HJ0.out]
            exact ⟨tok, x2, x45, x46, x47, x48, x49, x50, x51, x52, x53, x54, x55, x56, x57, x58, x59, x60, .bool true, x62, x63, x64, x65, x66, x67, x68, x69, x70, x71, x72, x73, x74, x75, x76, (by simp only [List.setIfInBounds_toArray, List.set_cons_succ, List.set_cons_zero, D13, D14, D15]), Bk (pj0 HH.out), Bk (pj1 HH.out), Bk (pj2 HH.out), Bk (pj3 HH.out), Bk (pj4 HH.out), Bk (pj5 HH.out), Bk (pj6 HH.out), Bk (pj7 HH.out), Bk (pj8 HH.out), Bk (pj9 HH.out), Bk (pj10 HH.out), Bk (pj11 HH.out), Bk (pj12 HH.out), Bk (pj13 HH.out), Bk (pj14 HH.out), Bk (pj15 HH.out), fun _ => rfl, Bk (pj17 HH.out), Bk (pj18 HH.out), Bk (pj19 HH.out), Bk (pj20 HH.out), Bk (pj21 HH.out), Bk (pj22 HH.out), Bk (pj23 HH.out), Bk (pj24 HH.out), Bk (pj25 HH.out), Bk (pj26 HH.out), Bk (pj27 HH.out), Bk (pj28 HH.out), Bk (pj29 HH.out), Bk (pj30 HH.out), Bk (pj31 HH.out), Bk (pj32 HH.out), Bi (pj33 HH.out), Bw (pe34 HH.out)⟩
          · have D13 := (pj13 HH.out) (ready_dep2 hi 13 (by kernel_rfl))
            have D16 := (pj16 HH.out) (ready_dep2 hi 16 (by kernel_rfl))
            clear hi HCL
            simp only [List.setIfInBounds_toArray, List.set_cons_succ, List.set_cons_zero, D13, D16]
            refine wpOp_one rfl rfl ?_
            intro K hK
            go_wp2_with fail
            rw [HJ0.out]
            exact ⟨tok, x2, x45, x46, x47, x48, x49, x50, x51, x52, x53, x54, x55, x56, x57, x58, x59, x60, x61, .bool true, x63, x64, x65, x66, x67, x68, x69, x70, x71, x72, x73, x74, x75, x76, (by simp only [List.setIfInBounds_toArray, List.set_cons_succ, List.set_cons_zero, D13, D16]), Bk (pj0 HH.out), Bk (pj1 HH.out), Bk (pj2 HH.out), Bk (pj3 HH.out), Bk (pj4 HH.out), Bk (pj5 HH.out), Bk (pj6 HH.out), Bk (pj7 HH.out), Bk (pj8 HH.out), Bk (pj9 HH.out), Bk (pj10 HH.out), Bk (pj11 HH.out), Bk (pj12 HH.out), Bk (pj13 HH.out), Bk (pj14 HH.out), Bk (pj15 HH.out), Bk (pj16 HH.out), fun _ => rfl, Bk (pj18 HH.out), Bk (pj19 HH.out), Bk (pj20 HH.out), Bk (pj21 HH.out), Bk (pj22 HH.out), Bk (pj23 HH.out), Bk (pj24 HH.out), Bk (pj25 HH.out), Bk (pj26 HH.out), Bk (pj27 HH.out), Bk (pj28 HH.out), Bk (pj29 HH.out), Bk (pj30 HH.out), Bk (pj31 HH.out), Bk (pj32 HH.out), Bi (pj33 HH.out), Bw (pe34 HH.out)⟩
          · have D17 := (pj17 HH.out) (ready_dep2 hi 17 (by kernel_rfl))
            clear hi HCL
            simp only [List.setIfInBounds_toArray, List.set_cons_succ, List.set_cons_zero, D17]
            refine wpOp_one rfl rfl ?_
            intro K hK
            go_wp2_with fail
            rw [HJ0.out]
            exact ⟨tok, x2, x45, x46, x47, x48, x49, x50, x51, x52, x53, x54, x55, x56, x57, x58, x59, x60, x61, x62, .bool true, x64, x65, x66, x67, x68, x69, x70, x71, x72, x73, x74, x75, x76, (by simp only [List.setIfInBounds_toArray, List.set_cons_succ, List.set_cons_zero, D17]), Bk (pj0 HH.out), Bk (pj1 HH.out), Bk (pj2 HH.out), Bk (pj3 HH.out), Bk (pj4 HH.out), Bk (pj5 HH.out), Bk (pj6 HH.out), Bk (pj7 HH.out), Bk (pj8 HH.out), Bk (pj9 HH.out), Bk (pj10 HH.out), Bk (pj11 HH.out), Bk (pj12 HH.out), Bk (pj13 HH.out), Bk (pj14 HH.out), Bk (pj15 HH.out), Bk (pj16 HH.out), Bk (pj17 HH.out), fun _ => rfl, Bk (pj19 HH.out), Bk (pj20 HH.out), Bk (pj21 HH.out), Bk (pj22 HH.out), Bk (pj23 HH.out), Bk (pj24 HH.out), Bk (pj25 HH.out), Bk (pj26 HH.out), Bk (pj27 HH.out), Bk (pj28 HH.out), Bk (pj29 HH.out), Bk (pj30 HH.out), Bk (pj31 HH.out), Bk (pj32 HH.out), Bi (pj33 HH.out), Bw (pe34 HH.out)⟩
          · have D18 := (pj18 HH.out) (ready_dep2 hi 18 (by kernel_rfl))
            clear hi HCL
            simp only [List.setIfInBounds_toArray, List.set_cons_succ, List.set_cons_zero, D18]
            refine wpOp_yes rfl (by rfl) ?_
            intro K hK
            go_wp2_with fail
            rw [HJ0.out]
            exact ⟨tok, x2, x45, x46, x47, x48, x49, x50, x51, x52, x53, x54, x55, x56, x57, x58, x59, x60, x61, x62, x63, .slice (some ⟨g, 0, none⟩) m c1, x65, x66, x67, x68, x69, x70, x71, x72, x73, x74, x75, x76, (by simp only [List.setIfInBounds_toArray, List.set_cons_succ, List.set_cons_zero, D18]), Bk (pj0 HH.out), Bk (pj1 HH.out), Bk (pj2 HH.out), Bk (pj3 HH.out), Bk (pj4 HH.out), Bk (pj5 HH.out), Bk (pj6 HH.out), Bk (pj7 HH.out), Bk (pj8 HH.out), Bk (pj9 HH.out), Bk (pj10 HH.out), Bk (pj11 HH.out), Bk (pj12 HH.out), Bk (pj13 HH.out), Bk (pj14 HH.out), Bk (pj15 HH.out), Bk (pj16 HH.out), Bk (pj17 HH.out), Bk (pj18 HH.out), fun _ => rfl, Bk (pj20 HH.out), Bk (pj21 HH.out), Bk (pj22 HH.out), Bk (pj23 HH.out), Bk (pj24 HH.out), Bk (pj25 HH.out), Bk (pj26 HH.out), Bk (pj27 HH.out), Bk (pj28 HH.out), Bk (pj29 HH.out), Bk (pj30 HH.out), Bk (pj31 HH.out), Bk (pj32 HH.out), Bi (pj33 HH.out), Bw (pe34 HH.out)⟩
          · have hns : ¬ Ls listed 32 := fun h => hnl (HCL.out.dep2 (HCL.out.dep2 (HCL.out.dep2 h 31 (by kernel_rfl)) 30 (by kernel_rfl)) 20 (by kernel_rfl))
            have D18 := (pj18 HH.out) (ready_dep2 hi 18 (by kernel_rfl))
            have D19 := (pj19 HH.out) (ready_dep2 hi 19 (by kernel_rfl))
            have V0 := (pj33 HH.out) hns
            clear hi HCL
            simp only [List.setIfInBounds_toArray, List.set_cons_succ, List.set_cons_zero, D18, D19]
            refine wpOp_yes rfl (by rfl) ?_
            intro K hK
            go_wp2_with fail
            refine (StmtTokenCount_impl 6 0 _ _ _ l W (HRw.out.below V0) (by omega)).mono ?_
            rintro e y ⟨he, hb, hs⟩
            obtain rfl : e = .returned (.int .i64 ((T1 : Int) + (T2 : Int))) := by rw [he, HT.out] <;> rfl
            go_wp2_with fail
            rw [HJ0.out]
            exact ⟨tok, x2, x45, x46, x47, x48, x49, x50, x51, x52, x53, x54, x55, x56, x57, x58, x59, x60, x61, x62, x63, x64, .int .i64 ((T1 : Int) + (T2 : Int)), x66, x67, x68, x69, x70, x71, x72, x73, x74, x75, x76, (by simp only [List.setIfInBounds_toArray, List.set_cons_succ, List.set_cons_zero, D18, D19]), Bk (pj0 HH.out), Bk (pj1 HH.out), Bk (pj2 HH.out), Bk (pj3 HH.out), Bk (pj4 HH.out), Bk (pj5 HH.out), Bk (pj6 HH.out), Bk (pj7 HH.out), Bk (pj8 HH.out), Bk (pj9 HH.out), Bk (pj10 HH.out), Bk (pj11 HH.out), Bk (pj12 HH.out), Bk (pj13 HH.out), Bk (pj14 HH.out), Bk (pj15 HH.out), Bk (pj16 HH.out), Bk (pj17 HH.out), Bk (pj18 HH.out), Bk (pj19 HH.out), fun _ => rfl, Bk (pj21 HH.out), Bk (pj22 HH.out), Bk (pj23 HH.out), Bk (pj24 HH.out), Bk (pj25 HH.out), Bk (pj26 HH.out), Bk (pj27 HH.out), Bk (pj28 HH.out), Bk (pj29 HH.out), Bk (pj30 HH.out), Bk (pj31 HH.out), fun h => absurd (h.back (by decide)) hns, fun h => belT ((pj33 HH.out) (fun h2 => h h2.fwd)) hb, fun h1 _ => absurd (h1.back (by decide)) hns⟩
          · have D18 := (pj18 HH.out) (ready_dep2 hi 18 (by kernel_rfl))
            clear hi HCL
            simp only [List.setIfInBounds_toArray, List.set_cons_succ, List.set_cons_zero, D18]
            refine wpOp_yes rfl (by rfl) ?_
            intro K hK
            go_wp2_with fail
            rw [HJ0.out]
            exact ⟨tok, x2, x45, x46, x47, x48, x49, x50, x51, x52, x53, x54, x55, x56, x57, x58, x59, x60, x61, x62, x63, x64, x65, .slice (some ⟨g, 0, none⟩) m c1, x67, x68, x69, x70, x71, x72, x73, x74, x75, x76, (by simp only [List.setIfInBounds_toArray, List.set_cons_succ, List.set_cons_zero, D18]), Bk (pj0 HH.out), Bk (pj1 HH.out), Bk (pj2 HH.out), Bk (pj3 HH.out), Bk (pj4 HH.out), Bk (pj5 HH.out), Bk (pj6 HH.out), Bk (pj7 HH.out), Bk (pj8 HH.out), Bk (pj9 HH.out), Bk (pj10 HH.out), Bk (pj11 HH.out), Bk (pj12 HH.out), Bk (pj13 HH.out), Bk (pj14 HH.out), Bk (pj15 HH.out), Bk (pj16 HH.out), Bk (pj17 HH.out), Bk (pj18 HH.out), Bk (pj19 HH.out), Bk (pj20 HH.out), fun _ => rfl, Bk (pj22 HH.out), Bk (pj23 HH.out), Bk (pj24 HH.out), Bk (pj25 HH.out), Bk (pj26 HH.out), Bk (pj27 HH.out), Bk (pj28 HH.out), Bk (pj29 HH.out), Bk (pj30 HH.out), Bk (pj31 HH.out), Bk (pj32 HH.out), Bi (pj33 HH.out), Bw (pe34 HH.out)⟩
          · have D18 := (pj18 HH.out) (ready_dep2 hi 18 (by kernel_rfl))
            clear hi HCL
            simp only [List.setIfInBounds_toArray, List.set_cons_succ, List.set_cons_zero, D18]
            refine wpOp_yes rfl (by rfl) ?_
            intro K hK
            go_wp2_with fail
            rw [HJ0.out]
            exact ⟨tok, x2, x45, x46, x47, x48, x49, x50, x51, x52, x53, x54, x55, x56, x57, x58, x59, x60, x61, x62, x63, x64, x65, x66, .int .i64 k, x68, x69, x70, x71, x72, x73, x74, x75, x76, (by simp only [List.setIfInBounds_toArray, List.set_cons_succ, List.set_cons_zero, D18]), Bk (pj0 HH.out), Bk (pj1 HH.out), Bk (pj2 HH.out), Bk (pj3 HH.out), Bk (pj4 HH.out), Bk (pj5 HH.out), Bk (pj6 HH.out), Bk (pj7 HH.out), Bk (pj8 HH.out), Bk (pj9 HH.out), Bk (pj10 HH.out), Bk (pj11 HH.out), Bk (pj12 HH.out), Bk (pj13 HH.out), Bk (pj14 HH.out), Bk (pj15 HH.out), Bk (pj16 HH.out), Bk (pj17 HH.out), Bk (pj18 HH.out), Bk (pj19 HH.out), Bk (pj20 HH.out), Bk (pj21 HH.out), fun _ => rfl, Bk (pj23 HH.out), Bk (pj24 HH.out), Bk (pj25 HH.out), Bk (pj26 HH.out), Bk (pj27 HH.out), Bk (pj28 HH.out), Bk (pj29 HH.out), Bk (pj30 HH.out), Bk (pj31 HH.out), Bk (pj32 HH.out), Bi (pj33 HH.out), Bw (pe34 HH.out)⟩
          · have D18 := (pj18 HH.out) (ready_dep2 hi 18 (by kernel_rfl))
            have D21 := (pj21 HH.out) (ready_dep2 hi 21 (by kernel_rfl))
            have D22 := (pj22 HH.out) (ready_dep2 hi 22 (by kernel_rfl))
            clear hi HCL
            simp only [List.setIfInBounds_toArray, List.set_cons_succ, List.set_cons_zero, D18, D21, D22]
            refine wpOp_yes rfl (by rfl) ?_
            intro K hK
            go_wp2_with fail
            rw [HJ0.out]
            exact ⟨tok, x2, x45, x46, x47, x48, x49, x50, x51, x52, x53, x54, x55, x56, x57, x58, x59, x60, x61, x62, x63, x64, x65, x66, x67, .slice (some ⟨g, 0, none⟩) k c1, x69, x70, x71, x72, x73, x74, x75, x76, (by simp only [List.setIfInBounds_toArray, List.set_cons_succ, List.set_cons_zero, D18, D21, D22]), Bk (pj0 HH.out), Bk (pj1 HH.out), Bk (pj2 HH.out), Bk (pj3 HH.out), Bk (pj4 HH.out), Bk (pj5 HH.out), Bk (pj6 HH.out), Bk (pj7 HH.out), Bk (pj8 HH.out), Bk (pj9 HH.out), Bk (pj10 HH.out), Bk (pj11 HH.out), Bk (pj12 HH.out), Bk (pj13 HH.out), Bk (pj14 HH.out), Bk (pj15 HH.out), Bk (pj16 HH.out), Bk (pj17 HH.out), Bk (pj18 HH.out), Bk (pj19 HH.out), Bk (pj20 HH.out), Bk (pj21 HH.out), Bk (pj22 HH.out), fun _ => rfl, Bk (pj24 HH.out), Bk (pj25 HH.out), Bk (pj26 HH.out), Bk (pj27 HH.out), Bk (pj28 HH.out), Bk (pj29 HH.out), Bk (pj30 HH.out), Bk (pj31 HH.out), Bk (pj32 HH.out), Bi (pj33 HH.out), Bw (pe34 HH.out)⟩
          · have hns : ¬ Ls listed 32 := fun h => hnl (HCL.out.dep2 (HCL.out.dep2 (HCL.out.dep2 (HCL.out.dep2 h 31 (by kernel_rfl)) 30 (by kernel_rfl)) 29 (by kernel_rfl)) 24 (by kernel_rfl))
            have D18 := (pj18 HH.out) (ready_dep2 hi 18 (by kernel_rfl))
            have D23 := (pj23 HH.out) (ready_dep2 hi 23 (by kernel_rfl))
            have V0 := (pj33 HH.out) hns
            clear hi HCL
            simp only [List.setIfInBounds_toArray, List.set_cons_succ, List.set_cons_zero, D18, D23]
            refine wpOp_yes rfl (by rfl) ?_
            intro K hK
            go_wp2_with fail
            refine (StmtTokenCount_impl 6 0 _ _ _ (l.take k) W (RT.out.below V0) (by omega)).mono ?_
            rintro e y ⟨he, hb, hs⟩
            obtain rfl : e = .returned (.int .i64 T1) := by rw [he, HT1.out] <;> rfl
            go_wp2_with fail
            rw [HJ0.out]
            exact ⟨tok, x2, x45, x46, x47, x48, x49, x50, x51, x52, x53, x54, x55, x56, x57, x58, x59, x60, x61, x62, x63, x64, x65, x66, x67, x68, .int .i64 T1, x70, x71, x72, x73, x74, x75, x76, (by simp only [List.setIfInBounds_toArray, List.set_cons_succ, List.set_cons_zero, D18, D23]), Bk (pj0 HH.out), Bk (pj1 HH.out), Bk (pj2 HH.out), Bk (pj3 HH.out), Bk (pj4 HH.out), Bk (pj5 HH.out), Bk (pj6 HH.out), Bk (pj7 HH.out), Bk (pj8 HH.out), Bk (pj9 HH.out), Bk (pj10 HH.out), Bk (pj11 HH.out), Bk (pj12 HH.out), Bk (pj13 HH.out), Bk (pj14 HH.out), Bk (pj15 HH.out), Bk (pj16 HH.out), Bk (pj17 HH.out), Bk (pj18 HH.out), Bk (pj19 HH.out), Bk (pj20 HH.out), Bk (pj21 HH.out), Bk (pj22 HH.out), Bk (pj23 HH.out), fun _ => rfl, Bk (pj25 HH.out), Bk (pj26 HH.out), Bk (pj27 HH.out), Bk (pj28 HH.out), Bk (pj29 HH.out), Bk (pj30 HH.out), Bk (pj31 HH.out), fun h => absurd (h.back (by decide)) hns, fun h => belT ((pj33 HH.out) (fun h2 => h h2.fwd)) hb, fun h1 _ => absurd (h1.back (by decide)) hns⟩
          · have D18 := (pj18 HH.out) (ready_dep2 hi 18 (by kernel_rfl))
            clear hi HCL
            simp only [List.setIfInBounds_toArray, List.set_cons_succ, List.set_cons_zero, D18]
            refine wpOp_yes rfl (by rfl) ?_
            intro K hK
            go_wp2_with fail
            rw [HJ0.out]
            exact ⟨tok, x2, x45, x46, x47, x48, x49, x50, x51, x52, x53, x54, x55, x56, x57, x58, x59, x60, x61, x62, x63, x64, x65, x66, x67, x68, x69, .slice (some ⟨g, 0, none⟩) m c1, x71, x72, x73, x74, x75, x76, (by simp only [List.setIfInBounds_toArray, List.set_cons_succ, List.set_cons_zero, D18]), Bk (pj0 HH.out), Bk (pj1 HH.out), Bk (pj2 HH.out), Bk (pj3 HH.out), Bk (pj4 HH.out), Bk (pj5 HH.out), Bk (pj6 HH.out), Bk (pj7 HH.out), Bk (pj8 HH.out), Bk (pj9 HH.out), Bk (pj10 HH.out), Bk (pj11 HH.out), Bk (pj12 HH.out), Bk (pj13 HH.out), Bk (pj14 HH.out), Bk (pj15 HH.out), Bk (pj16 HH.out), Bk (pj17 HH.out), Bk (pj18 HH.out), Bk (pj19 HH.out), Bk (pj20 HH.out), Bk (pj21 HH.out), Bk (pj22 HH.out), Bk (pj23 HH.out), Bk (pj24 HH.out), fun _ => rfl, Bk (pj26 HH.out), Bk (pj27 HH.out), Bk (pj28 HH.out), Bk (pj29 HH.out), Bk (pj30 HH.out), Bk (pj31 HH.out), Bk (pj32 HH.out), Bi (pj33 HH.out), Bw (pe34 HH.out)⟩
          · have D18 := (pj18 HH.out) (ready_dep2 hi 18 (by kernel_rfl))
            clear hi HCL
            simp only [List.setIfInBounds_toArray, List.set_cons_succ, List.set_cons_zero, D18]
            refine wpOp_yes rfl (by rfl) ?_
            intro K hK
            go_wp2_with fail
            rw [HJ0.out]
            exact ⟨tok, x2, x45, x46, x47, x48, x49, x50, x51, x52, x53, x54, x55, x56, x57, x58, x59, x60, x61, x62, x63, x64, x65, x66, x67, x68, x69, x70, .int .i64 k, x72, x73, x74, x75, x76, (by simp only [List.setIfInBounds_toArray, List.set_cons_succ, List.set_cons_zero, D18]), Bk (pj0 HH.out), Bk (pj1 HH.out), Bk (pj2 HH.out), Bk (pj3 HH.out), Bk (pj4 HH.out), Bk (pj5 HH.out), Bk (pj6 HH.out), Bk (pj7 HH.out), Bk (pj8 HH.out), Bk (pj9 HH.out), Bk (pj10 HH.out), Bk (pj11 HH.out), Bk (pj12 HH.out), Bk (pj13 HH.out), Bk (pj14 HH.out), Bk (pj15 HH.out), Bk (pj16 HH.out), Bk (pj17 HH.out), Bk (pj18 HH.out), Bk (pj19 HH.out), Bk (pj20 HH.out), Bk (pj21 HH.out), Bk (pj22 HH.out), Bk (pj23 HH.out), Bk (pj24 HH.out), Bk (pj25 HH.out), fun _ => rfl, Bk (pj27 HH.out), Bk (pj28 HH.out), Bk (pj29 HH.out), Bk (pj30 HH.out), Bk (pj31 HH.out), Bk (pj32 HH.out), Bi (pj33 HH.out), Bw (pe34 HH.out)⟩
          · have D18 := (pj18 HH.out) (ready_dep2 hi 18 (by kernel_rfl))
            have D25 := (pj25 HH.out) (ready_dep2 hi 25 (by kernel_rfl))
            have D26 := (pj26 HH.out) (ready_dep2 hi 26 (by kernel_rfl))
            clear hi HCL
            simp only [List.setIfInBounds_toArray, List.set_cons_succ, List.set_cons_zero, D18, D25, D26]
            refine wpOp_yes rfl (by rfl) ?_
            intro K hK
            go_wp2_with fail
            rw [HJ0.out]
            exact ⟨tok, x2, x45, x46, x47, x48, x49, x50, x51, x52, x53, x54, x55, x56, x57, x58, x59, x60, x61, x62, x63, x64, x65, x66, x67, x68, x69, x70, x71, .slice (some ⟨g, k * 5, none⟩) (m - k) (c1 - k), x73, x74, x75, x76, (by simp only [List.setIfInBounds_toArray, List.set_cons_succ, List.set_cons_zero, D18, D25, D26]), Bk (pj0 HH.out), Bk (pj1 HH.out), Bk (pj2 HH.out), Bk (pj3 HH.out), Bk (pj4 HH.out), Bk (pj5 HH.out), Bk (pj6 HH.out), Bk (pj7 HH.out), Bk (pj8 HH.out), Bk (pj9 HH.out), Bk (pj10 HH.out), Bk (pj11 HH.out), Bk (pj12 HH.out), Bk (pj13 HH.out), Bk (pj14 HH.out), Bk (pj15 HH.out), Bk (pj16 HH.out), Bk (pj17 HH.out), Bk (pj18 HH.out), Bk (pj19 HH.out), Bk (pj20 HH.out), Bk (pj21 HH.out), Bk (pj22 HH.out), Bk (pj23 HH.out), Bk (pj24 HH.out), Bk (pj25 HH.out), Bk (pj26 HH.out), fun _ => rfl, Bk (pj28 HH.out), Bk (pj29 HH.out), Bk (pj30 HH.out), Bk (pj31 HH.out), Bk (pj32 HH.out), Bi (pj33 HH.out), Bw (pe34 HH.out)⟩
          · have hns : ¬ Ls listed 32 := fun h => hnl (HCL.out.dep2 (HCL.out.dep2 (HCL.out.dep2 (HCL.out.dep2 h 31 (by kernel_rfl)) 30 (by kernel_rfl)) 29 (by kernel_rfl)) 28 (by kernel_rfl))
            have D18 := (pj18 HH.out) (ready_dep2 hi 18 (by kernel_rfl))
            have D27 := (pj27 HH.out) (ready_dep2 hi 27 (by kernel_rfl))
            have V0 := (pj33 HH.out) hns
            clear hi HCL
            simp only [List.setIfInBounds_toArray, List.set_cons_succ, List.set_cons_zero, D18, D27]
            refine wpOp_yes rfl (by rfl) ?_
            intro K hK
            go_wp2_with fail
            refine (StmtTokenCount_impl 6 0 _ _ _ (l.drop k) W (RD.out.below V0) (by omega)).mono ?_
            rintro e y ⟨he, hb, hs⟩
            obtain rfl : e = .returned (.int .i64 T2) := by rw [he, HT2.out] <;> rfl
            go_wp2_with fail
            rw [HJ0.out]
            exact ⟨tok, x2, x45, x46, x47, x48, x49, x50, x51, x52, x53, x54, x55, x56, x57, x58, x59, x60, x61, x62, x63, x64, x65, x66, x67, x68, x69, x70, x71, x72, .int .i64 T2, x74, x75, x76, (by simp only [List.setIfInBounds_toArray, List.set_cons_succ, List.set_cons_zero, D18, D27]), Bk (pj0 HH.out), Bk (pj1 HH.out), Bk (pj2 HH.out), Bk (pj3 HH.out), Bk (pj4 HH.out), Bk (pj5 HH.out), Bk (pj6 HH.out), Bk (pj7 HH.out), Bk (pj8 HH.out), Bk (pj9 HH.out), Bk (pj10 HH.out), Bk (pj11 HH.out), Bk (pj12 HH.out), Bk (pj13 HH.out), Bk (pj14 HH.out), Bk (pj15 HH.out), Bk (pj16 HH.out), Bk (pj17 HH.out), Bk (pj18 HH.out), Bk (pj19 HH.out), Bk (pj20 HH.out), Bk (pj21 HH.out), Bk (pj22 HH.out), Bk (pj23 HH.out), Bk (pj24 HH.out), Bk (pj25 HH.out), Bk (pj26 HH.out), Bk (pj27 HH.out), fun _ => rfl, Bk (pj29 HH.out), Bk (pj30 HH.out), Bk (pj31 HH.out), fun h => absurd (h.back (by decide)) hns, fun h => belT ((pj33 HH.out) (fun h2 => h h2.fwd)) hb, fun h1 _ => absurd (h1.back (by decide)) hns⟩
          · have D18 := (pj18 HH.out) (ready_dep2 hi 18 (by kernel_rfl))
            have D24 := (pj24 HH.out) (ready_dep2 hi 24 (by kernel_rfl))
            have D28 := (pj28 HH.out) (ready_dep2 hi 28 (by kernel_rfl))
            clear hi HCL
            simp only [List.setIfInBounds_toArray, List.set_cons_succ, List.set_cons_zero, D18, D24, D28]
            refine wpOp_yes rfl (by rfl) ?_
            intro K hK
            go_wp2_with fail
            rw [HJ0.out]
            exact ⟨tok, x2, x45, x46, x47, x48, x49, x50, x51, x52, x53, x54, x55, x56, x57, x58, x59, x60, x61, x62, x63, x64, x65, x66, x67, x68, x69, x70, x71, x72, x73, .int .i64 ((T1 : Int) + (T2 : Int)), x75, x76, (by simp only [List.setIfInBounds_toArray, List.set_cons_succ, List.set_cons_zero, D18, D24, D28]), Bk (pj0 HH.out), Bk (pj1 HH.out), Bk (pj2 HH.out), Bk (pj3 HH.out), Bk (pj4 HH.out), Bk (pj5 HH.out), Bk (pj6 HH.out), Bk (pj7 HH.out), Bk (pj8 HH.out), Bk (pj9 HH.out), Bk (pj10 HH.out), Bk (pj11 HH.out), Bk (pj12 HH.out), Bk (pj13 HH.out), Bk (pj14 HH.out), Bk (pj15 HH.out), Bk (pj16 HH.out), Bk (pj17 HH.out), Bk (pj18 HH.out), Bk (pj19 HH.out), Bk (pj20 HH.out), Bk (pj21 HH.out), Bk (pj22 HH.out), Bk (pj23 HH.out), Bk (pj24 HH.out), Bk (pj25 HH.out), Bk (pj26 HH.out), Bk (pj27 HH.out), Bk (pj28 HH.out), fun _ => rfl, Bk (pj30 HH.out), Bk (pj31 HH.out), Bk (pj32 HH.out), Bi (pj33 HH.out), Bw (pe34 HH.out)⟩
          · have D18 := (pj18 HH.out) (ready_dep2 hi 18 (by kernel_rfl))
            have D20 := (pj20 HH.out) (ready_dep2 hi 20 (by kernel_rfl))
            have D29 := (pj29 HH.out) (ready_dep2 hi 29 (by kernel_rfl))
            clear hi HCL
            simp only [List.setIfInBounds_toArray, List.set_cons_succ, List.set_cons_zero, D18, D20, D29]
            refine wpOp_yes rfl (by rfl) ?_
            intro K hK
            go_wp2_with fail
            rw [HJ0.out]
            exact ⟨tok, x2, x45, x46, x47, x48, x49, x50, x51, x52, x53, x54, x55, x56, x57, x58, x59, x60, x61, x62, x63, x64, x65, x66, x67, x68, x69, x70, x71, x72, x73, x74, .bool true, x76, (by simp only [List.setIfInBounds_toArray, List.set_cons_succ, List.set_cons_zero, D18, D20, D29]), Bk (pj0 HH.out), Bk (pj1 HH.out), Bk (pj2 HH.out), Bk (pj3 HH.out), Bk (pj4 HH.out), Bk (pj5 HH.out), Bk (pj6 HH.out), Bk (pj7 HH.out), Bk (pj8 HH.out), Bk (pj9 HH.out), Bk (pj10 HH.out), Bk (pj11 HH.out), Bk (pj12 HH.out), Bk (pj13 HH.out), Bk (pj14 HH.out), Bk (pj15 HH.out), Bk (pj16 HH.out), Bk (pj17 HH.out), Bk (pj18 HH.out), Bk (pj19 HH.out), Bk (pj20 HH.out), Bk (pj21 HH.out), Bk (pj22 HH.out), Bk (pj23 HH.out), Bk (pj24 HH.out), Bk (pj25 HH.out), Bk (pj26 HH.out), Bk (pj27 HH.out), Bk (pj28 HH.out), Bk (pj29 HH.out), fun _ => rfl, Bk (pj31 HH.out), Bk (pj32 HH.out), Bi (pj33 HH.out), Bw (pe34 HH.out)⟩
          · have D18 := (pj18 HH.out) (ready_dep2 hi 18 (by kernel_rfl))
            have D30 := (pj30 HH.out) (ready_dep2 hi 30 (by kernel_rfl))
            clear hi HCL
            simp only [List.setIfInBounds_toArray, List.set_cons_succ, List.set_cons_zero, D18, D30]
            refine wpOp_one rfl rfl ?_
            intro K hK
            go_wp2_with fail
            rw [HJ0.out]
            exact ⟨tok, x2, x45, x46, x47, x48, x49, x50, x51, x52, x53, x54, x55, x56, x57, x58, x59, x60, x61, x62, x63, x64, x65, x66, x67, x68, x69, x70, x71, x72, x73, x74, x75, .bool true, (by simp only [List.setIfInBounds_toArray, List.set_cons_succ, List.set_cons_zero, D18, D30]), Bk (pj0 HH.out), Bk (pj1 HH.out), Bk (pj2 HH.out), Bk (pj3 HH.out), Bk (pj4 HH.out), Bk (pj5 HH.out), Bk (pj6 HH.out), Bk (pj7 HH.out), Bk (pj8 HH.out), Bk (pj9 HH.out), Bk (pj10 HH.out), Bk (pj11 HH.out), Bk (pj12 HH.out), Bk (pj13 HH.out), Bk (pj14 HH.out), Bk (pj15 HH.out), Bk (pj16 HH.out), Bk (pj17 HH.out), Bk (pj18 HH.out), Bk (pj19 HH.out), Bk (pj20 HH.out), Bk (pj21 HH.out), Bk (pj22 HH.out), Bk (pj23 HH.out), Bk (pj24 HH.out), Bk (pj25 HH.out), Bk (pj26 HH.out), Bk (pj27 HH.out), Bk (pj28 HH.out), Bk (pj29 HH.out), Bk (pj30 HH.out), fun _ => rfl, Bk (pj32 HH.out), Bi (pj33 HH.out), Bw (pe34 HH.out)⟩
          · have hns : ¬ Ls listed 32 := hnl
            have D31 := (pj31 HH.out) (ready_dep2 hi 31 (by kernel_rfl))
            have V0 := (pj33 HH.out) hns
            clear hi HCL
            simp only [List.setIfInBounds_toArray, List.set_cons_succ, List.set_cons_zero, D31]
            refine wpOp_one rfl rfl ?_
            intro K hK
            go_wp2_with fail
            rw [HJ0.out]
            exact ⟨tok, .bool true, x45, x46, x47, x48, x49, x50, x51, x52, x53, x54, x55, x56, x57, x58, x59, x60, x61, x62, x63, x64, x65, x66, x67, x68, x69, x70, x71, x72, x73, x74, x75, x76, (by first | (simp only [List.setIfInBounds_toArray, List.set_cons_succ, List.set_cons_zero, D31] <;> fail) | simp only [Act.put, List.setIfInBounds_toArray, List.set_cons_succ, List.set_cons_zero, D31]), Bk (pj0 HH.out), Bk (pj1 HH.out), Bk (pj2 HH.out), Bk (pj3 HH.out), Bk (pj4 HH.out), Bk (pj5 HH.out), Bk (pj6 HH.out), Bk (pj7 HH.out), Bk (pj8 HH.out), Bk (pj9 HH.out), Bk (pj10 HH.out), Bk (pj11 HH.out), Bk (pj12 HH.out), Bk (pj13 HH.out), Bk (pj14 HH.out), Bk (pj15 HH.out), Bk (pj16 HH.out), Bk (pj17 HH.out), Bk (pj18 HH.out), Bk (pj19 HH.out), Bk (pj20 HH.out), Bk (pj21 HH.out), Bk (pj22 HH.out), Bk (pj23 HH.out), Bk (pj24 HH.out), Bk (pj25 HH.out), Bk (pj26 HH.out), Bk (pj27 HH.out), Bk (pj28 HH.out), Bk (pj29 HH.out), Bk (pj30 HH.out), Bk (pj31 HH.out), fun _ => ⟨rfl, V0⟩, fun h => absurd hnow h, fun _ h => absurd hnow h⟩
        · intro listed a W hsize hJ hr
          rw [HJ0.out] at hJ
          have hall := all_listed hsize (by kernel_rfl) hr
          obtain ⟨tok, x2, x45, x46, x47, x48, x49, x50, x51, x52, x53, x54, x55, x56, x57, x58, x59, x60, x61, x62, x63, x64, x65, x66, x67, x68, x69, x70, x71, x72, x73, x74, x75, x76, rfl, HF⟩ := hJ
          have HH := Lib.hid HF
          have HEND := (pj32 HH.out) (hall 32 (by decide))
          clear HF HH hall hr hsize
          simp only [List.setIfInBounds_toArray, List.set_cons_succ, List.set_cons_zero]
          obtain ⟨rfl, hbF⟩ := HEND
          have HBF := Lib.hid hbF
          clear hbF
          go_wp2_with fail
          go_ret
          exact ⟨rfl, HB1.out.trans ((B2.out.trans (HBF.out.mono (by omega))).mono hs1)⟩
      · have d0 : decide (N = aa) = false := decide_eq_false hne
        have d5 : ((N : Int) == (aa : Int)) = false := beq_eq_false_iff_ne.2 (by omega)
        have d1 : decide (aa ≤ N) = true := decide_eq_true (by omega)
        have d2 : decide (N ≤ N) = true := decide_eq_true (by omega)
        have d3 : decide ((aa : Int) ≤ (N : Int)) = true := decide_eq_true (by omega)
        have d4 : decide ((N : Int) ≤ (N : Int)) = true := decide_eq_true (by omega)
        obtain ⟨J0, hJ0⟩ : ∃ J : Array Value → Array Bool → Act → World → Prop, J = (fun A0 listed a W => ∃ (tok : Nat), ∃ x2 x45 x46 x47 x48 x49 x50 x51 x52 x53 x54 x55 x56 x57 x58 x59 x60 x61 x62 x63 x64 x65 x66 x67 x68 x69 x70 x71 x72 x73 x74 x75 x76 : Value, a = ⟨(((((((((((((((((((((((((((((((((A0.setIfInBounds 2 x2).setIfInBounds 45 x45).setIfInBounds 46 x46).setIfInBounds 47 x47).setIfInBounds 48 x48).setIfInBounds 49 x49).setIfInBounds 50 x50).setIfInBounds 51 x51).setIfInBounds 52 x52).setIfInBounds 53 x53).setIfInBounds 54 x54).setIfInBounds 55 x55).setIfInBounds 56 x56).setIfInBounds 57 x57).setIfInBounds 58 x58).setIfInBounds 59 x59).setIfInBounds 60 x60).setIfInBounds 61 x61).setIfInBounds 62 x62).setIfInBounds 63 x63).setIfInBounds 64 x64).setIfInBounds 65 x65).setIfInBounds 66 x66).setIfInBounds 67 x67).setIfInBounds 68 x68).setIfInBounds 69 x69).setIfInBounds 70 x70).setIfInBounds 71 x71).setIfInBounds 72 x72).setIfInBounds 73 x73).setIfInBounds 74 x74).setIfInBounds 75 x75).setIfInBounds 76 x76), []⟩ ∧ (Ls listed 0 → x45 = .int .i64 N) ∧ (Ls listed 1 → x46 = .int .i64 aa) ∧ (Ls listed 2 → x47 = .bool false) ∧ (Ls listed 3 → x48 = .bool false) ∧ (Ls listed 4 → x49 = .int .i64 N) ∧ (Ls listed 5 → x50 = .int .i64 N) ∧ (Ls listed 6 → x51 = .bool true) ∧ (Ls listed 7 → x52 = .bool true) ∧ (Ls listed 8 → x53 = .bool true) ∧ (Ls listed 9 → x54 = .int .i64 N) ∧ (Ls listed 10 → x55 = .int .i64 aa) ∧ (Ls listed 11 → x56 = .bool true) ∧ (Ls listed 12 → x57 = .bool true) ∧ (Ls listed 13 → x58 = .bool true) ∧ (Ls listed 14 → x59 = .int .i64 N) ∧ (Ls listed 15 → x60 = .int .i64 N) ∧ (Ls listed 16 → x61 = .bool true) ∧ (Ls listed 17 → x62 = .bool true) ∧ (Ls listed 18 → x63 = .bool true) ∧ (Ls listed 19 → x64 = .slice (some ⟨g, 0, none⟩) m c1) ∧ (Ls listed 20 → x65 = .int .i64 ((T1 : Int) + (T2 : Int))) ∧ (Ls listed 21 → x66 = .slice (some ⟨g, 0, none⟩) m c1) ∧ (Ls listed 22 → x67 = .int .i64 k) ∧ (Ls listed 23 → x68 = .slice (some ⟨g, 0, none⟩) k c1) ∧ (Ls listed 24 → x69 = .int .i64 T1) ∧ (Ls listed 25 → x70 = .slice (some ⟨g, 0, none⟩) m c1) ∧ (Ls listed 26 → x71 = .int .i64 k) ∧ (Ls listed 27 → x72 = .slice (some ⟨g, k * 5, none⟩) (m - k) (c1 - k)) ∧ (Ls listed 28 → x73 = .int .i64 T2) ∧ (Ls listed 29 → x74 = .int .i64 ((T1 : Int) + (T2 : Int))) ∧ (Ls listed 30 → x75 = .bool true) ∧ (Ls listed 31 → x76 = .bool true) ∧ (Ls listed 32 → x2 = .bool true ∧ Below w2.heap.size w2 W) ∧ (¬ Ls listed 32 → Below w2.heap.size w2 W) ∧ (Ls listed 32 → ¬ Ls listed 32 → True)) := ⟨_, rfl⟩
        have HJ0 := Lib.hid hJ0
        clear hJ0
        refine wp_region_inv2 (by kernel_rfl) J0 ?_ ?_ ?_
        · intro A0
          rw [HJ0.out]
          exact ⟨0, A0.getD 2 undef, A0.getD 45 undef, A0.getD 46 undef, A0.getD 47 undef, A0.getD 48 undef, A0.getD 49 undef, A0.getD 50 undef, A0.getD 51 undef, A0.getD 52 undef, A0.getD 53 undef, A0.getD 54 undef, A0.getD 55 undef, A0.getD 56 undef, A0.getD 57 undef, A0.getD 58 undef, A0.getD 59 undef, A0.getD 60 undef, A0.getD 61 undef, A0.getD 62 undef, A0.getD 63 undef, A0.getD 64 undef, A0.getD 65 undef, A0.getD 66 undef, A0.getD 67 undef, A0.getD 68 undef, A0.getD 69 undef, A0.getD 70 undef, A0.getD 71 undef, A0.getD 72 undef, A0.getD 73 undef, A0.getD 74 undef, A0.getD 75 undef, A0.getD 76 undef, by simp only [set_self], fun h => h.none, fun h => h.none, fun h => h.none, fun h => h.none, fun h => h.none, fun h => h.none, fun h => h.none, fun h => h.none, fun h => h.none, fun h => h.none, fun h => h.none, fun h => h.none, fun h => h.none, fun h => h.none, fun h => h.none, fun h => h.none, fun h => h.none, fun h => h.none, fun h => h.none, fun h => h.none, fun h => h.none, fun h => h.none, fun h => h.none, fun h => h.none, fun h => h.none, fun h => h.none, fun h => h.none, fun h => h.none, fun h => h.none, fun h => h.none, fun h => h.none, fun h => h.none, fun h => h.none, fun _ => below_drewT B8.out, fun h => h.none⟩
        · intro listed a W hsize hcl hJ i hi
          have hil := ready_lt hi
          have hnl := ready_not hi
          have hnow := ready_now hi hsize
          have HCL := Lib.hid hcl
          rw [HJ0.out] at hJ
          obtain ⟨tok, x2, x45, x46, x47, x48, x49, x50, x51, x52, x53, x54, x55, x56, x57, x58, x59, x60, x61, x62, x63, x64, x65, x66, x67, x68, x69, x70, x71, x72, x73, x74, x75, x76, rfl, HF⟩ := hJ
          have HH := Lib.hid HF
          have hi2 : i = 0 ∨ i = 1 ∨ i = 2 ∨ i = 3 ∨ i = 4 ∨ i = 5 ∨ i = 6 ∨ i = 7 ∨ i = 8 ∨ i = 9 ∨ i = 10 ∨ i = 11 ∨ i = 12 ∨ i = 13 ∨ i = 14 ∨ i = 15 ∨ i = 16 ∨ i = 17 ∨ i = 18 ∨ i = 19 ∨ i = 20 ∨ i = 21 ∨ i = 22 ∨ i = 23 ∨ i = 24 ∨ i = 25 ∨ i = 26 ∨ i = 27 ∨ i = 28 ∨ i = 29 ∨ i = 30 ∨ i = 31 ∨ i = 32 := by simp at hil; omega
          clear hil hcl HF
          rcases hi2 with rfl | rfl | rfl | rfl | rfl | rfl | rfl | rfl | rfl | rfl | rfl | rfl | rfl | rfl | rfl | rfl | rfl | rfl | rfl | rfl | rfl | rfl | rfl | rfl | rfl | rfl | rfl | rfl | rfl | rfl | rfl | rfl | rfl
          · clear hi HCL
            simp only [List.setIfInBounds_toArray, List.set_cons_succ, List.set_cons_zero]
            refine wpOp_one rfl rfl ?_
            intro K hK
            go_wp2_with fail
            rw [HJ0.out]
            exact ⟨tok, x2, .int .i64 N, x46, x47, x48, x49, x50, x51, x52, x53, x54, x55, x56, x57, x58, x59, x60, x61, x62, x63, x64, x65, x66, x67, x68, x69, x70, x71, x72, x73, x74, x75, x76, (by simp only [List.setIfInBounds_toArray, List.set_cons_succ, List.set_cons_zero]), fun _ => rfl, Bk (pj1 HH.out), Bk (pj2 HH.out), Bk (pj3 HH.out), Bk (pj4 HH.out), Bk (pj5 HH.out), Bk (pj6 HH.out), Bk (pj7 HH.out), Bk (pj8 HH.out), Bk (pj9 HH.out), Bk (pj10 HH.out), Bk (pj11 HH.out), Bk (pj12 HH.out), Bk (pj13 HH.out), Bk (pj14 HH.out), Bk (pj15 HH.out), Bk (pj16 HH.out), Bk (pj17 HH.out), Bk (pj18 HH.out), Bk (pj19 HH.out), Bk (pj20 HH.out), Bk (pj21 HH.out), Bk (pj22 HH.out), Bk (pj23 HH.out), Bk (pj24 HH.out), Bk (pj25 HH.out), Bk (pj26 HH.out), Bk (pj27 HH.out), Bk (pj28 HH.out), Bk (pj29 HH.out), Bk (pj30 HH.out), Bk (pj31 HH.out), Bk (pj32 HH.out), Bi (pj33 HH.out), Bw (pe34 HH.out)⟩
          · clear hi HCL
            simp only [List.setIfInBounds_toArray, List.set_cons_succ, List.set_cons_zero]
            refine wpOp_one rfl rfl ?_
            intro K hK
            go_wp2_with fail
            rw [HJ0.out]
            exact ⟨tok, x2, x45, .int .i64 aa, x47, x48, x49, x50, x51, x52, x53, x54, x55, x56, x57, x58, x59, x60, x61, x62, x63, x64, x65, x66, x67, x68, x69, x70, x71, x72, x73, x74, x75, x76, (by simp only [List.setIfInBounds_toArray, List.set_cons_succ, List.set_cons_zero]), Bk (pj0 HH.out), fun _ => rfl, Bk (pj2 HH.out), Bk (pj3 HH.out), Bk (pj4 HH.out), Bk (pj5 HH.out), Bk (pj6 HH.out), Bk (pj7 HH.out), Bk (pj8 HH.out), Bk (pj9 HH.out), Bk (pj10 HH.out), Bk (pj11 HH.out), Bk (pj12 HH.out), Bk (pj13 HH.out), Bk (pj14 HH.out), Bk (pj15 HH.out), Bk (pj16 HH.out), Bk (pj17 HH.out), Bk (pj18 HH.out), Bk (pj19 HH.out), Bk (pj20 HH.out), Bk (pj21 HH.out), Bk (pj22 HH.out), Bk (pj23 HH.out), Bk (pj24 HH.out), Bk (pj25 HH.out), Bk (pj26 HH.out), Bk (pj27 HH.out), Bk (pj28 HH.out), Bk (pj29 HH.out), Bk (pj30 HH.out), Bk (pj31 HH.out), Bk (pj32 HH.out), Bi (pj33 HH.out), Bw (pe34 HH.out)⟩
          · have D0 := (pj0 HH.out) (ready_dep2 hi 0 (by kernel_rfl))
            have D1 := (pj1 HH.out) (ready_dep2 hi 1 (by kernel_rfl))
            clear hi HCL
            simp only [List.setIfInBounds_toArray, List.set_cons_succ, List.set_cons_zero, D0, D1]
            refine wpOp_one rfl rfl ?_
            intro K hK
            go_wp2_with fail
            rw [HJ0.out]
            exact ⟨tok, x2, x45, x46, .bool false, x48, x49, x50, x51, x52, x53, x54, x55, x56, x57, x58, x59, x60, x61, x62, x63, x64, x65, x66, x67, x68, x69, x70, x71, x72, x73, x74, x75, x76, (by simp only [List.setIfInBounds_toArray, List.set_cons_succ, List.set_cons_zero, D0, D1]), Bk (pj0 HH.out), Bk (pj1 HH.out), fun _ => rfl, Bk (pj3 HH.out), Bk (pj4 HH.out), Bk (pj5 HH.out), Bk (pj6 HH.out), Bk (pj7 HH.out), Bk (pj8 HH.out), Bk (pj9 HH.out), Bk (pj10 HH.out), Bk (pj11 HH.out), Bk (pj12 HH.out), Bk (pj13 HH.out), Bk (pj14 HH.out), Bk (pj15 HH.out), Bk (pj16 HH.out), Bk (pj17 HH.out), Bk (pj18 HH.out), Bk (pj19 HH.out), Bk (pj20 HH.out), Bk (pj21 HH.out), Bk (pj22 HH.out), Bk (pj23 HH.out), Bk (pj24 HH.out), Bk (pj25 HH.out), Bk (pj26 HH.out), Bk (pj27 HH.out), Bk (pj28 HH.out), Bk (pj29 HH.out), Bk (pj30 HH.out), Bk (pj31 HH.out), Bk (pj32 HH.out), Bi (pj33 HH.out), Bw (pe34 HH.out)⟩
          · have D2 := (pj2 HH.out) (ready_dep2 hi 2 (by kernel_rfl))
            clear hi HCL
            simp only [List.setIfInBounds_toArray, List.set_cons_succ, List.set_cons_zero, D2]
            refine wpOp_one rfl rfl ?_
            intro K hK
            go_wp2_with fail
            rw [HJ0.out]
            exact ⟨tok, x2, x45, x46, x47, .bool false, x49, x50, x51, x52, x53, x54, x55, x56, x57, x58, x59, x60, x61, x62, x63, x64, x65, x66, x67, x68, x69, x70, x71, x72, x73, x74, x75, x76, (by simp only [List.setIfInBounds_toArray, List.set_cons_succ, List.set_cons_zero, D2]), Bk (pj0 HH.out), Bk (pj1 HH.out), Bk (pj2 HH.out), fun _ => rfl, Bk (pj4 HH.out), Bk (pj5 HH.out), Bk (pj6 HH.out), Bk (pj7 HH.out), Bk (pj8 HH.out), Bk (pj9 HH.out), Bk (pj10 HH.out), Bk (pj11 HH.out), Bk (pj12 HH.out), Bk (pj13 HH.out), Bk (pj14 HH.out), Bk (pj15 HH.out), Bk (pj16 HH.out), Bk (pj17 HH.out), Bk (pj18 HH.out), Bk (pj19 HH.out), Bk (pj20 HH.out), Bk (pj21 HH.out), Bk (pj22 HH.out), Bk (pj23 HH.out), Bk (pj24 HH.out), Bk (pj25 HH.out), Bk (pj26 HH.out), Bk (pj27 HH.out), Bk (pj28 HH.out), Bk (pj29 HH.out), Bk (pj30 HH.out), Bk (pj31 HH.out), Bk (pj32 HH.out), Bi (pj33 HH.out), Bw (pe34 HH.out)⟩
          · have D3 := (pj3 HH.out) (ready_dep2 hi 3 (by kernel_rfl))
            clear hi HCL
            simp only [List.setIfInBounds_toArray, List.set_cons_succ, List.set_cons_zero, D3]
            refine wpOp_yes rfl (by rfl) ?_
            intro K hK
            go_wp2_with fail
            rw [HJ0.out]
            exact ⟨tok, x2, x45, x46, x47, x48, .int .i64 N, x50, x51, x52, x53, x54, x55, x56, x57, x58, x59, x60, x61, x62, x63, x64, x65, x66, x67, x68, x69, x70, x71, x72, x73, x74, x75, x76, (by simp only [List.setIfInBounds_toArray, List.set_cons_succ, List.set_cons_zero, D3]), Bk (pj0 HH.out), Bk (pj1 HH.out), Bk (pj2 HH.out), Bk (pj3 HH.out), fun _ => rfl, Bk (pj5 HH.out), Bk (pj6 HH.out), Bk (pj7 HH.out), Bk (pj8 HH.out), Bk (pj9 HH.out), Bk (pj10 HH.out), Bk (pj11 HH.out), Bk (pj12 HH.out), Bk (pj13 HH.out), Bk (pj14 HH.out), Bk (pj15 HH.out), Bk (pj16 HH.out), Bk (pj17 HH.out), Bk (pj18 HH.out), Bk (pj19 HH.out), Bk (pj20 HH.out), Bk (pj21 HH.out), Bk (pj22 HH.out), Bk (pj23 HH.out), Bk (pj24 HH.out), Bk (pj25 HH.out), Bk (pj26 HH.out), Bk (pj27 HH.out), Bk (pj28 HH.out), Bk (pj29 HH.out), Bk (pj30 HH.out), Bk (pj31 HH.out), Bk (pj32 HH.out), Bi (pj33 HH.out), Bw (pe34 HH.out)⟩
          · have D3 := (pj3 HH.out) (ready_dep2 hi 3 (by kernel_rfl))
            clear hi HCL
            simp only [List.setIfInBounds_toArray, List.set_cons_succ, List.set_cons_zero, D3]
            refine wpOp_yes rfl (by rfl) ?_
            intro K hK
            go_wp2_with fail
            rw [HJ0.out]
            exact ⟨tok, x2, x45, x46, x47, x48, x49, .int .i64 N, x51, x52, x53, x54, x55, x56, x57, x58, x59, x60, x61, x62, x63, x64, x65, x66, x67, x68, x69, x70, x71, x72, x73, x74, x75, x76, (by simp only [List.setIfInBounds_toArray, List.set_cons_succ, List.set_cons_zero, D3]), Bk (pj0 HH.out), Bk (pj1 HH.out), Bk (pj2 HH.out), Bk (pj3 HH.out), Bk (pj4 HH.out), fun _ => rfl, Bk (pj6 HH.out), Bk (pj7 HH.out), Bk (pj8 HH.out), Bk (pj9 HH.out), Bk (pj10 HH.out), Bk (pj11 HH.out), Bk (pj12 HH.out), Bk (pj13 HH.out), Bk (pj14 HH.out), Bk (pj15 HH.out), Bk (pj16 HH.out), Bk (pj17 HH.out), Bk (pj18 HH.out), Bk (pj19 HH.out), Bk (pj20 HH.out), Bk (pj21 HH.out), Bk (pj22 HH.out), Bk (pj23 HH.out), Bk (pj24 HH.out), Bk (pj25 HH.out), Bk (pj26 HH.out), Bk (pj27 HH.out), Bk (pj28 HH.out), Bk (pj29 HH.out), Bk (pj30 HH.out), Bk (pj31 HH.out), Bk (pj32 HH.out), Bi (pj33 HH.out), Bw (pe34 HH.out)⟩
          · have D3 := (pj3 HH.out) (ready_dep2 hi 3 (by kernel_rfl))
            have D4 := (pj4 HH.out) (ready_dep2 hi 4 (by kernel_rfl))
            have D5 := (pj5 HH.out) (ready_dep2 hi 5 (by kernel_rfl))
            clear hi HCL
            simp only [List.setIfInBounds_toArray, List.set_cons_succ, List.set_cons_zero, D3, D4, D5]
            refine wpOp_yes rfl (by rfl) ?_
            intro K hK
            go_wp2_with fail
            rw [HJ0.out]
            exact ⟨tok, x2, x45, x46, x47, x48, x49, x50, .bool true, x52, x53, x54, x55, x56, x57, x58, x59, x60, x61, x62, x63, x64, x65, x66, x67, x68, x69, x70, x71, x72, x73, x74, x75, x76, (by simp only [List.setIfInBounds_toArray, List.set_cons_succ, List.set_cons_zero, D3, D4, D5]), Bk (pj0 HH.out), Bk (pj1 HH.out), Bk (pj2 HH.out), Bk (pj3 HH.out), Bk (pj4 HH.out), Bk (pj5 HH.out), fun _ => rfl, Bk (pj7 HH.out), Bk (pj8 HH.out), Bk (pj9 HH.out), Bk (pj10 HH.out), Bk (pj11 HH.out), Bk (pj12 HH.out), Bk (pj13 HH.out), Bk (pj14 HH.out), Bk (pj15 HH.out), Bk (pj16 HH.out), Bk (pj17 HH.out), Bk (pj18 HH.out), Bk (pj19 HH.out), Bk (pj20 HH.out), Bk (pj21 HH.out), Bk (pj22 HH.out), Bk (pj23 HH.out), Bk (pj24 HH.out), Bk (pj25 HH.out), Bk (pj26 HH.out), Bk (pj27 HH.out), Bk (pj28 HH.out), Bk (pj29 HH.out), Bk (pj30 HH.out), Bk (pj31 HH.out), Bk (pj32 HH.out), Bi (pj33 HH.out), Bw (pe34 HH.out)⟩
          · have D3 := (pj3 HH.out) (ready_dep2 hi 3 (by kernel_rfl))
            have D6 := (pj6 HH.out) (ready_dep2 hi 6 (by kernel_rfl))
            clear hi HCL
            simp only [List.setIfInBounds_toArray, List.set_cons_succ, List.set_cons_zero, D3, D6]
            refine wpOp_one rfl rfl ?_
            intro K hK
            go_wp2_with fail
            rw [HJ0.out]
            exact ⟨tok, x2, x45, x46, x47, x48, x49, x50, x51, .bool true, x53, x54, x55, x56, x57, x58, x59, x60, x61, x62, x63, x64, x65, x66, x67, x68, x69, x70, x71, x72, x73, x74, x75, x76, (by simp only [List.setIfInBounds_toArray, List.set_cons_succ, List.set_cons_zero, D3, D6]), Bk (pj0 HH.out), Bk (pj1 HH.out), Bk (pj2 HH.out), Bk (pj3 HH.out), Bk (pj4 HH.out), Bk (pj5 HH.out), Bk (pj6 HH.out), fun _ => rfl, Bk (pj8 HH.out), Bk (pj9 HH.out), Bk (pj10 HH.out), Bk (pj11 HH.out), Bk (pj12 HH.out), Bk (pj13 HH.out), Bk (pj14 HH.out), Bk (pj15 HH.out), Bk (pj16 HH.out), Bk (pj17 HH.out), Bk (pj18 HH.out), Bk (pj19 HH.out), Bk (pj20 HH.out), Bk (pj21 HH.out), Bk (pj22 HH.out), Bk (pj23 HH.out), Bk (pj24 HH.out), Bk (pj25 HH.out), Bk (pj26 HH.out), Bk (pj27 HH.out), Bk (pj28 HH.out), Bk (pj29 HH.out), Bk (pj30 HH.out), Bk (pj31 HH.out), Bk (pj32 HH.out), Bi (pj33 HH.out), Bw (pe34 HH.out)⟩
          · have D7 := (pj7 HH.out) (ready_dep2 hi 7 (by kernel_rfl))
            clear hi HCL
            simp only [List.setIfInBounds_toArray, List.set_cons_succ, List.set_cons_zero, D7]
            refine wpOp_one rfl rfl ?_
            intro K hK
            go_wp2_with fail
            rw [HJ0.out]
            exact ⟨tok, x2, x45, x46, x47, x48, x49, x50, x51, x52, .bool true, x54, x55, x56, x57, x58, x59, x60, x61, x62, x63, x64, x65, x66, x67, x68, x69, x70, x71, x72, x73, x74, x75, x76, (by simp only [List.setIfInBounds_toArray, List.set_cons_succ, List.set_cons_zero, D7]), Bk (pj0 HH.out), Bk (pj1 HH.out), Bk (pj2 HH.out), Bk (pj3 HH.out), Bk (pj4 HH.out), Bk (pj5 HH.out), Bk (pj6 HH.out), Bk (pj7 HH.out), fun _ => rfl, Bk (pj9 HH.out), Bk (pj10 HH.out), Bk (pj11 HH.out), Bk (pj12 HH.out), Bk (pj13 HH.out), Bk (pj14 HH.out), Bk (pj15 HH.out), Bk (pj16 HH.out), Bk (pj17 HH.out), Bk (pj18 HH.out), Bk (pj19 HH.out), Bk (pj20 HH.out), Bk (pj21 HH.out), Bk (pj22 HH.out), Bk (pj23 HH.out), Bk (pj24 HH.out), Bk (pj25 HH.out), Bk (pj26 HH.out), Bk (pj27 HH.out), Bk (pj28 HH.out), Bk (pj29 HH.out), Bk (pj30 HH.out), Bk (pj31 HH.out), Bk (pj32 HH.out), Bi (pj33 HH.out), Bw (pe34 HH.out)⟩
          · have D8 := (pj8 HH.out) (ready_dep2 hi 8 (by kernel_rfl))
            clear hi HCL
            simp only [List.setIfInBounds_toArray, List.set_cons_succ, List.set_cons_zero, D8]
            refine wpOp_yes rfl (by rfl) ?_
            intro K hK
            go_wp2_with fail
            rw [HJ0.out]
            exact ⟨tok, x2, x45, x46, x47, x48, x49, x50, x51, x52, x53, .int .i64 N, x55, x56, x57, x58, x59, x60, x61, x62, x63, x64, x65, x66, x67, x68, x69, x70, x71, x72, x73, x74, x75, x76, (by simp only [List.setIfInBounds_toArray, List.set_cons_succ, List.set_cons_zero, D8]), Bk (pj0 HH.out), Bk (pj1 HH.out), Bk (pj2 HH.out), Bk (pj3 HH.out), Bk (pj4 HH.out), Bk (pj5 HH.out), Bk (pj6 HH.out), Bk (pj7 HH.out), Bk (pj8 HH.out), fun _ => rfl, Bk (pj10 HH.out), Bk (pj11 HH.out), Bk (pj12 HH.out), Bk (pj13 HH.out), Bk (pj14 HH.out), Bk (pj15 HH.out), Bk (pj16 HH.out), Bk (pj17 HH.out), Bk (pj18 HH.out), Bk (pj19 HH.out), Bk (pj20 HH.out), Bk (pj21 HH.out), Bk (pj22 HH.out), Bk (pj23 HH.out), Bk (pj24 HH.out), Bk (pj25 HH.out), Bk (pj26 HH.out), Bk (pj27 HH.out), Bk (pj28 HH.out), Bk (pj29 HH.out), Bk (pj30 HH.out), Bk (pj31 HH.out), Bk (pj32 HH.out), Bi (pj33 HH.out), Bw (pe34 HH.out)⟩
          · have D8 := (pj8 HH.out) (ready_dep2 hi 8 (by kernel_rfl))
            clear hi HCL
            simp only [List.setIfInBounds_toArray, List.set_cons_succ, List.set_cons_zero, D8]
            refine wpOp_yes rfl (by rfl) ?_
            intro K hK
            go_wp2_with fail
            rw [HJ0.out]
            exact ⟨tok, x2, x45, x46, x47, x48, x49, x50, x51, x52, x53, x54, .int .i64 aa, x56, x57, x58, x59, x60, x61, x62, x63, x64, x65, x66, x67, x68, x69, x70, x71, x72, x73, x74, x75, x76, (by simp only [List.setIfInBounds_toArray, List.set_cons_succ, List.set_cons_zero, D8]), Bk (pj0 HH.out), Bk (pj1 HH.out), Bk (pj2 HH.out), Bk (pj3 HH.out), Bk (pj4 HH.out), Bk (pj5 HH.out), Bk (pj6 HH.out), Bk (pj7 HH.out), Bk (pj8 HH.out), Bk (pj9 HH.out), fun _ => rfl, Bk (pj11 HH.out), Bk (pj12 HH.out), Bk (pj13 HH.out), Bk (pj14 HH.out), Bk (pj15 HH.out), Bk (pj16 HH.out), Bk (pj17 HH.out), Bk (pj18 HH.out), Bk (pj19 HH.out), Bk (pj20 HH.out), Bk (pj21 HH.out), Bk (pj22 HH.out), Bk (pj23 HH.out), Bk (pj24 HH.out), Bk (pj25 HH.out), Bk (pj26 HH.out), Bk (pj27 HH.out), Bk (pj28 HH.out), Bk (pj29 HH.out), Bk (pj30 HH.out), Bk (pj31 HH.out), Bk (pj32 HH.out), Bi (pj33 HH.out), Bw (pe34 HH.out)⟩
          · have D8 := (pj8 HH.out) (ready_dep2 hi 8 (by kernel_rfl))
            have D9 := (pj9 HH.out) (ready_dep2 hi 9 (by kernel_rfl))
            have D10 := (pj10 HH.out) (ready_dep2 hi 10 (by kernel_rfl))
            clear hi HCL
            simp only [List.setIfInBounds_toArray, List.set_cons_succ, List.set_cons_zero, D8, D9, D10]
            refine wpOp_yes rfl (by rfl) ?_
            intro K hK
            go_wp2_with fail
            rw [HJ0.out]
            exact ⟨tok, x2, x45, x46, x47, x48, x49, x50, x51, x52, x53, x54, x55, .bool true, x57, x58, x59, x60, x61, x62, x63, x64, x65, x66, x67, x68, x69, x70, x71, x72, x73, x74, x75, x76, (by simp only [List.setIfInBounds_toArray, List.set_cons_succ, List.set_cons_zero, D8, D9, D10]), Bk (pj0 HH.out), Bk (pj1 HH.out), Bk (pj2 HH.out), Bk (pj3 HH.out), Bk (pj4 HH.out), Bk (pj5 HH.out), Bk (pj6 HH.out), Bk (pj7 HH.out), Bk (pj8 HH.out), Bk (pj9 HH.out), Bk (pj10 HH.out), fun _ => rfl, Bk (pj12 HH.out), Bk (pj13 HH.out), Bk (pj14 HH.out), Bk (pj15 HH.out), Bk (pj16 HH.out), Bk (pj17 HH.out), Bk (pj18 HH.out), Bk (pj19 HH.out), Bk (pj20 HH.out), Bk (pj21 HH.out), Bk (pj22 HH.out), Bk (pj23 HH.out), Bk (pj24 HH.out), Bk (pj25 HH.out), Bk (pj26 HH.out), Bk (pj27 HH.out), Bk (pj28 HH.out), Bk (pj29 HH.out), Bk (pj30 HH.out), Bk (pj31 HH.out), Bk (pj32 HH.out), Bi (pj33 HH.out), Bw (pe34 HH.out)⟩
          · have D8 := (pj8 HH.out) (ready_dep2 hi 8 (by kernel_rfl))
            have D11 := (pj11 HH.out) (ready_dep2 hi 11 (by kernel_rfl))
            clear hi HCL
            simp only [List.setIfInBounds_toArray, List.set_cons_succ, List.set_cons_zero, D8, D11]
            refine wpOp_one rfl rfl ?_
            intro K hK
            go_wp2_with fail
            rw [HJ0.out]
            exact ⟨tok, x2, x45, x46, x47, x48, x49, x50, x51, x52, x53, x54, x55, x56, .bool true, x58, x59, x60, x61, x62, x63, x64, x65, x66, x67, x68, x69, x70, x71, x72, x73, x74, x75, x76, (by simp only [List.setIfInBounds_toArray, List.set_cons_succ, List.set_cons_zero, D8, D11]), Bk (pj0 HH.out), Bk (pj1 HH.out), Bk (pj2 HH.out), Bk (pj3 HH.out), Bk (pj4 HH.out), Bk (pj5 HH.out), Bk (pj6 HH.out), Bk (pj7 HH.out), Bk (pj8 HH.out), Bk (pj9 HH.out), Bk (pj10 HH.out), Bk (pj11 HH.out), fun _ => rfl, Bk (pj13 HH.out), Bk (pj14 HH.out), Bk (pj15 HH.out), Bk (pj16 HH.out), Bk (pj17 HH.out), Bk (pj18 HH.out), Bk (pj19 HH.out), Bk (pj20 HH.out), Bk (pj21 HH.out), Bk (pj22 HH.out), Bk (pj23 HH.out), Bk (pj24 HH.out), Bk (pj25 HH.out), Bk (pj26 HH.out), Bk (pj27 HH.out), Bk (pj28 HH.out), Bk (pj29 HH.out), Bk (pj30 HH.out), Bk (pj31 HH.out), Bk (pj32 HH.out), Bi (pj33 HH.out), Bw (pe34 HH.out)⟩
          · have D12 := (pj12 HH.out) (ready_dep2 hi 12 (by kernel_rfl))
            clear hi HCL
            simp only [List.setIfInBounds_toArray, List.set_cons_succ, List.set_cons_zero, D12]
            refine wpOp_one rfl rfl ?_
            intro K hK
            go_wp2_with fail
            rw [HJ0.out]
            exact ⟨tok, x2, x45, x46, x47, x48, x49, x50, x51, x52, x53, x54, x55, x56, x57, .bool true, x59, x60, x61, x62, x63, x64, x65, x66, x67, x68, x69, x70, x71, x72, x73, x74, x75, x76, (by simp only [List.setIfInBounds_toArray, List.set_cons_succ, List.set_cons_zero, D12]), Bk (pj0 HH.out), Bk (pj1 HH.out), Bk (pj2 HH.out), Bk (pj3 HH.out), Bk (pj4 HH.out), Bk (pj5 HH.out), Bk (pj6 HH.out), Bk (pj7 HH.out), Bk (pj8 HH.out), Bk (pj9 HH.out), Bk (pj10 HH.out), Bk (pj11 HH.out), Bk (pj12 HH.out), fun _ => rfl, Bk (pj14 HH.out), Bk (pj15 HH.out), Bk (pj16 HH.out), Bk (pj17 HH.out), Bk (pj18 HH.out), Bk (pj19 HH.out), Bk (pj20 HH.out), Bk (pj21 HH.out), Bk (pj22 HH.out), Bk (pj23 HH.out), Bk (pj24 HH.out), Bk (pj25 HH.out), Bk (pj26 HH.out), Bk (pj27 HH.out), Bk (pj28 HH.out), Bk (pj29 HH.out), Bk (pj30 HH.out), Bk (pj31 HH.out), Bk (pj32 HH.out), Bi (pj33 HH.out), Bw (pe34 HH.out)⟩
          · have D13 := (pj13 HH.out) (ready_dep2 hi 13 (by kernel_rfl))
            clear hi HCL
            simp only [List.setIfInBounds_toArray, List.set_cons_succ, List.set_cons_zero, D13]
            refine wpOp_yes rfl (by rfl) ?_
            intro K hK
            go_wp2_with fail
            rw [HJ0.out]
            exact ⟨tok, x2, x45, x46, x47, x48, x49, x50, x51, x52, x53, x54, x55, x56, x57, x58, .int .i64 N, x60, x61, x62, x63, x64, x65, x66, x67, x68, x69, x70, x71, x72, x73, x74, x75, x76, (by simp only [List.setIfInBounds_toArray, List.set_cons_succ, List.set_cons_zero, D13]), Bk (pj0 HH.out), Bk (pj1 HH.out), Bk (pj2 HH.out), Bk (pj3 HH.out), Bk (pj4 HH.out), Bk (pj5 HH.out), Bk (pj6 HH.out), Bk (pj7 HH.out), Bk (pj8 HH.out), Bk (pj9 HH.out), Bk (pj10 HH.out), Bk (pj11 HH.out), Bk (pj12 HH.out), Bk (pj13 HH.out), fun _ => rfl, Bk (pj15 HH.out), Bk (pj16 HH.out), Bk (pj17 HH.out), Bk (pj18 HH.out), Bk (pj19 HH.out), Bk (pj20 HH.out), Bk (pj21 HH.out), Bk (pj22 HH.out), Bk (pj23 HH.out), Bk (pj24 HH.out), Bk (pj25 HH.out), Bk (pj26 HH.out), Bk (pj27 HH.out), Bk (pj28 HH.out), Bk (pj29 HH.out), Bk (pj30 HH.out), Bk (pj31 HH.out), Bk (pj32 HH.out), Bi (pj33 HH.out), Bw (pe34 HH.out)⟩
          · have D13 := (pj13 HH.out) (ready_dep2 hi 13 (by kernel_rfl))
            clear hi HCL
            simp only [List.setIfInBounds_toArray, List.set_cons_succ, List.set_cons_zero, D13]
            refine wpOp_yes rfl (by rfl) ?_
            intro K hK
            go_wp2_with fail
            rw [HJ0.out]
            exact ⟨tok, x2, x45, x46, x47, x48, x49, x50, x51, x52, x53, x54, x55, x56, x57, x58, x59, .int .i64 N, x61, x62, x63, x64, x65, x66, x67, x68, x69, x70, x71, x72, x73, x74, x75, x76, (by simp only [List.setIfInBounds_toArray, List.set_cons_succ, List.set_cons_zero, D13]), Bk (pj0 HH.out), Bk (pj1 HH.out), Bk (pj2 HH.out), Bk (pj3 HH.out), Bk (pj4 HH.out), Bk (pj5 HH.out), Bk (pj6 HH.out), Bk (pj7 HH.out), Bk (pj8 HH.out), Bk (pj9 HH.out), Bk (pj10 HH.out), Bk (pj11 HH.out), Bk (pj12 HH.out), Bk (pj13 HH.out), Bk (pj14 HH.out), fun _ => rfl, Bk (pj16 HH.out), Bk (pj17 HH.out), Bk (pj18 HH.out), Bk (pj19 HH.out), Bk (pj20 HH.out), Bk (pj21 HH.out), Bk (pj22 HH.out), Bk (pj23 HH.out), Bk (pj24 HH.out), Bk (pj25 HH.out), Bk (pj26 HH.out), Bk (pj27 HH.out), Bk (pj28 HH.out), Bk (pj29 HH.out), Bk (pj30 HH.out), Bk (pj31 HH.out), Bk (pj32 HH.out), Bi (pj33 HH.out), Bw (pe34 HH.out)⟩
          · have D13 := (pj13 HH.out) (ready_dep2 hi 13 (by kernel_rfl))
            have D14 := (pj14 HH.out) (ready_dep2 hi 14 (by kernel_rfl))
            have D15 := (pj15 HH.out) (ready_dep2 hi 15 (by kernel_rfl))
            clear hi HCL
            simp only [List.setIfInBounds_toArray, List.set_cons_succ, List.set_cons_zero, D13, D14, D15]
            refine wpOp_yes rfl (by rfl) ?_
            intro K hK
            go_wp2_with fail
            rw [HJ0.out]
            exact ⟨tok, x2, x45, x46, x47, x48, x49, x50, x51, x52, x53, x54, x55, x56, x57, x58, x59, x60, .bool true, x62, x63, x64, x65, x66, x67, x68, x69, x70, x71, x72, x73, x74, x75, x76, (by simp only [List.setIfInBounds_toArray, List.set_cons_succ, List.set_cons_zero, D13, D14, D15]), Bk (pj0 HH.out), Bk (pj1 HH.out), Bk (pj2 HH.out), Bk (pj3 HH.out), Bk (pj4 HH.out), Bk (pj5 HH.out), Bk (pj6 HH.out), Bk (pj7 HH.out), Bk (pj8 HH.out), Bk (pj9 HH.out), Bk (pj10 HH.out), Bk (pj11 HH.out), Bk (pj12 HH.out), Bk (pj13 HH.out), Bk (pj14 HH.out), Bk (pj15 HH.out), fun _ => rfl, Bk (pj17 HH.out), Bk (pj18 HH.out), Bk (pj19 HH.out), Bk (pj20 HH.out), Bk (pj21 HH.out), Bk (pj22 HH.out), Bk (pj23 HH.out), Bk (pj24 HH.out), Bk (pj25 HH.out), Bk (pj26 HH.out), Bk (pj27 HH.out), Bk (pj28 HH.out), Bk (pj29 HH.out), Bk (pj30 HH.out), Bk (pj31 HH.out), Bk (pj32 HH.out), Bi (pj33 HH.out), Bw (pe34 HH.out)⟩
          · have D13 := (pj13 HH.out) (ready_dep2 hi 13 (by kernel_rfl))
            have D16 := (pj16 HH.out) (ready_dep2 hi 16 (by kernel_rfl))
            clear hi HCL
            simp only [List.setIfInBounds_toArray, List.set_cons_succ, List.set_cons_zero, D13, D16]
            refine wpOp_one rfl rfl ?_
            intro K hK
            go_wp2_with fail
            rw [HJ0.out]
            exact ⟨tok, x2, x45, x46, x47, x48, x49, x50, x51, x52, x53, x54, x55, x56, x57, x58, x59, x60, x61, .bool true, x63, x64, x65, x66, x67, x68, x69, x70, x71, x72, x73, x74, x75, x76, (by simp only [List.setIfInBounds_toArray, List.set_cons_succ, List.set_cons_zero, D13, D16]), Bk (pj0 HH.out), Bk (pj1 HH.out), Bk (pj2 HH.out), Bk (pj3 HH.out), Bk (pj4 HH.out), Bk (pj5 HH.out), Bk (pj6 HH.out), Bk (pj7 HH.out), Bk (pj8 HH.out), Bk (pj9 HH.out), Bk (pj10 HH.out), Bk (pj11 HH.out), Bk (pj12 HH.out), Bk (pj13 HH.out), Bk (pj14 HH.out), Bk (pj15 HH.out), Bk (pj16 HH.out), fun _ => rfl, Bk (pj18 HH.out), Bk (pj19 HH.out), Bk (pj20 HH.out), Bk (pj21 HH.out), Bk (pj22 HH.out), Bk (pj23 HH.out), Bk (pj24 HH.out), Bk (pj25 HH.out), Bk (pj26 HH.out), Bk (pj27 HH.out), Bk (pj28 HH.out), Bk (pj29 HH.out), Bk (pj30 HH.out), Bk (pj31 HH.out), Bk (pj32 HH.out), Bi (pj33 HH.out), Bw (pe34 HH.out)⟩
          · have D17 := (pj17 HH.out) (ready_dep2 hi 17 (by kernel_rfl))
            clear hi HCL
            simp only [List.setIfInBounds_toArray, List.set_cons_succ, List.set_cons_zero, D17]
            refine wpOp_one rfl rfl ?_
            intro K hK
            go_wp2_with fail
            rw [HJ0.out]
            exact ⟨tok, x2, x45, x46, x47, x48, x49, x50, x51, x52, x53, x54, x55, x56, x57, x58, x59, x60, x61, x62, .bool true, x64, x65, x66, x67, x68, x69, x70, x71, x72, x73, x74, x75, x76, (by simp only [List.setIfInBounds_toArray, List.set_cons_succ, List.set_cons_zero, D17]), Bk (pj0 HH.out), Bk (pj1 HH.out), Bk (pj2 HH.out), Bk (pj3 HH.out), Bk (pj4 HH.out), Bk (pj5 HH.out), Bk (pj6 HH.out), Bk (pj7 HH.out), Bk (pj8 HH.out), Bk (pj9 HH.out), Bk (pj10 HH.out), Bk (pj11 HH.out), Bk (pj12 HH.out), Bk (pj13 HH.out), Bk (pj14 HH.out), Bk (pj15 HH.out), Bk (pj16 HH.out), Bk (pj17 HH.out), fun _ => rfl, Bk (pj19 HH.out), Bk (pj20 HH.out), Bk (pj21 HH.out), Bk (pj22 HH.out), Bk (pj23 HH.out), Bk (pj24 HH.out), Bk (pj25 HH.out), Bk (pj26 HH.out), Bk (pj27 HH.out), Bk (pj28 HH.out), Bk (pj29 HH.out), Bk (pj30 HH.out), Bk (pj31 HH.out), Bk (pj32 HH.out), Bi (pj33 HH.out), Bw (pe34 HH.out)⟩
          · have D18 := (pj18 HH.out) (ready_dep2 hi 18 (by kernel_rfl))
            clear hi HCL
            simp only [List.setIfInBounds_toArray, List.set_cons_succ, List.set_cons_zero, D18]
            refine wpOp_yes rfl (by rfl) ?_
            intro K hK
            go_wp2_with fail
            rw [HJ0.out]
            exact ⟨tok, x2, x45, x46, x47, x48, x49, x50, x51, x52, x53, x54, x55, x56, x57, x58, x59, x60, x61, x62, x63, .slice (some ⟨g, 0, none⟩) m c1, x65, x66, x67, x68, x69, x70, x71, x72, x73, x74, x75, x76, (by simp only [List.setIfInBounds_toArray, List.set_cons_succ, List.set_cons_zero, D18]), Bk (pj0 HH.out), Bk (pj1 HH.out), Bk (pj2 HH.out), Bk (pj3 HH.out), Bk (pj4 HH.out), Bk (pj5 HH.out), Bk (pj6 HH.out), Bk (pj7 HH.out), Bk (pj8 HH.out), Bk (pj9 HH.out), Bk (pj10 HH.out), Bk (pj11 HH.out), Bk (pj12 HH.out), Bk (pj13 HH.out), Bk (pj14 HH.out), Bk (pj15 HH.out), Bk (pj16 HH.out), Bk (pj17 HH.out), Bk (pj18 HH.out), fun _ => rfl, Bk (pj20 HH.out), Bk (pj21 HH.out), Bk (pj22 HH.out), Bk (pj23 HH.out), Bk (pj24 HH.out), Bk (pj25 HH.out), Bk (pj26 HH.out), Bk (pj27 HH.out), Bk (pj28 HH.out), Bk (pj29 HH.out), Bk (pj30 HH.out), Bk (pj31 HH.out), Bk (pj32 HH.out), Bi (pj33 HH.out), Bw (pe34 HH.out)⟩
          · have hns : ¬ Ls listed 32 := fun h => hnl (HCL.out.dep2 (HCL.out.dep2 (HCL.out.dep2 h 31 (by kernel_rfl)) 30 (by kernel_rfl)) 20 (by kernel_rfl))
            have D18 := (pj18 HH.out) (ready_dep2 hi 18 (by kernel_rfl))
            have D19 := (pj19 HH.out) (ready_dep2 hi 19 (by kernel_rfl))
            have V0 := (pj33 HH.out) hns
            clear hi HCL
            simp only [List.setIfInBounds_toArray, List.set_cons_succ, List.set_cons_zero, D18, D19]
            refine wpOp_yes rfl (by rfl) ?_
            intro K hK
            go_wp2_with fail
            refine (StmtTokenCount_impl 6 0 _ _ _ l W (HRw.out.below V0) (by omega)).mono ?_
            rintro e y ⟨he, hb, hs⟩
            obtain rfl : e = .returned (.int .i64 ((T1 : Int) + (T2 : Int))) := by rw [he, HT.out] <;> rfl
            go_wp2_with fail
            rw [HJ0.out]
            exact ⟨tok, x2, x45, x46, x47, x48, x49, x50, x51, x52, x53, x54, x55, x56, x57, x58, x59, x60, x61, x62, x63, x64, .int .i64 ((T1 : Int) + (T2 : Int)), x66, x67, x68, x69, x70, x71, x72, x73, x74, x75, x76, (by simp only [List.setIfInBounds_toArray, List.set_cons_succ, List.set_cons_zero, D18, D19]), Bk (pj0 HH.out), Bk (pj1 HH.out), Bk (pj2 HH.out), Bk (pj3 HH.out), Bk (pj4 HH.out), Bk (pj5 HH.out), Bk (pj6 HH.out), Bk (pj7 HH.out), Bk (pj8 HH.out), Bk (pj9 HH.out), Bk (pj10 HH.out), Bk (pj11 HH.out), Bk (pj12 HH.out), Bk (pj13 HH.out), Bk (pj14 HH.out), Bk (pj15 HH.out), Bk (pj16 HH.out), Bk (pj17 HH.out), Bk (pj18 HH.out), Bk (pj19 HH.out), fun _ => rfl, Bk (pj21 HH.out), Bk (pj22 HH.out), Bk (pj23 HH.out), Bk (pj24 HH.out), Bk (pj25 HH.out), Bk (pj26 HH.out), Bk (pj27 HH.out), Bk (pj28 HH.out), Bk (pj29 HH.out), Bk (pj30 HH.out), Bk (pj31 HH.out), fun h => absurd (h.back (by decide)) hns, fun h => belT ((pj33 HH.out) (fun h2 => h h2.fwd)) hb, fun h1 _ => absurd (h1.back (by decide)) hns⟩
          · have D18 := (pj18 HH.out) (ready_dep2 hi 18 (by kernel_rfl))
            clear hi HCL
            simp only [List.setIfInBounds_toArray, List.set_cons_succ, List.set_cons_zero, D18]
            refine wpOp_yes rfl (by rfl) ?_
            intro K hK
            go_wp2_with fail
            rw [HJ0.out]
            exact ⟨tok, x2, x45, x46, x47, x48, x49, x50, x51, x52, x53, x54, x55, x56, x57, x58, x59, x60, x61, x62, x63, x64, x65, .slice (some ⟨g, 0, none⟩) m c1, x67, x68, x69, x70, x71, x72, x73, x74, x75, x76, (by simp only [List.setIfInBounds_toArray, List.set_cons_succ, List.set_cons_zero, D18]), Bk (pj0 HH.out), Bk (pj1 HH.out), Bk (pj2 HH.out), Bk (pj3 HH.out), Bk (pj4 HH.out), Bk (pj5 HH.out), Bk (pj6 HH.out), Bk (pj7 HH.out), Bk (pj8 HH.out), Bk (pj9 HH.out), Bk (pj10 HH.out), Bk (pj11 HH.out), Bk (pj12 HH.out), Bk (pj13 HH.out), Bk (pj14 HH.out), Bk (pj15 HH.out), Bk (pj16 HH.out), Bk (pj17 HH.out), Bk (pj18 HH.out), Bk (pj19 HH.out), Bk (pj20 HH.out), fun _ => rfl, Bk (pj22 HH.out), Bk (pj23 HH.out), Bk (pj24 HH.out), Bk (pj25 HH.out), Bk (pj26 HH.out), Bk (pj27 HH.out), Bk (pj28 HH.out), Bk (pj29 HH.out), Bk (pj30 HH.out), Bk (pj31 HH.out), Bk (pj32 HH.out), Bi (pj33 HH.out), Bw (pe34 HH.out)⟩
          · have D18 := (pj18 HH.out) (ready_dep2 hi 18 (by kernel_rfl))
            clear hi HCL
            simp only [List.setIfInBounds_toArray, List.set_cons_succ, List.set_cons_zero, D18]
            refine wpOp_yes rfl (by rfl) ?_
            intro K hK
            go_wp2_with fail
            rw [HJ0.out]
            exact ⟨tok, x2, x45, x46, x47, x48, x49, x50, x51, x52, x53, x54, x55, x56, x57, x58, x59, x60, x61, x62, x63, x64, x65, x66, .int .i64 k, x68, x69, x70, x71, x72, x73, x74, x75, x76, (by simp only [List.setIfInBounds_toArray, List.set_cons_succ, List.set_cons_zero, D18]), Bk (pj0 HH.out), Bk (pj1 HH.out), Bk (pj2 HH.out), Bk (pj3 HH.out), Bk (pj4 HH.out), Bk (pj5 HH.out), Bk (pj6 HH.out), Bk (pj7 HH.out), Bk (pj8 HH.out), Bk (pj9 HH.out), Bk (pj10 HH.out), Bk (pj11 HH.out), Bk (pj12 HH.out), Bk (pj13 HH.out), Bk (pj14 HH.out), Bk (pj15 HH.out), Bk (pj16 HH.out), Bk (pj17 HH.out), Bk (pj18 HH.out), Bk (pj19 HH.out), Bk (pj20 HH.out), Bk (pj21 HH.out), fun _ => rfl, Bk (pj23 HH.out), Bk (pj24 HH.out), Bk (pj25 HH.out), Bk (pj26 HH.out), Bk (pj27 HH.out), Bk (pj28 HH.out), Bk (pj29 HH.out), Bk (pj30 HH.out), Bk (pj31 HH.out), Bk (pj32 HH.out), Bi (pj33 HH.out), Bw (pe34 HH.out)⟩
          · have D18 := (pj18 HH.out) (ready_dep2 hi 18 (by kernel_rfl))
            have D21 := (pj21 HH.out) (ready_dep2 hi 21 (by kernel_rfl))
            have D22 := (pj22 HH.out) (ready_dep2 hi 22 (by kernel_rfl))
            clear hi HCL
            simp only [List.setIfInBounds_toArray, List.set_cons_succ, List.set_cons_zero, D18, D21, D22]
            refine wpOp_yes rfl (by rfl) ?_
            intro K hK
            go_wp2_with fail
            rw [HJ0.out]
            exact ⟨tok, x2, x45, x46, x47, x48, x49, x50, x51, x52, x53, x54, x55, x56, x57, x58, x59, x60, x61, x62, x63, x64, x65, x66, x67, .slice (some ⟨g, 0, none⟩) k c1, x69, x70, x71, x72, x73, x74, x75, x76, (by simp only [List.setIfInBounds_toArray, List.set_cons_succ, List.set_cons_zero, D18, D21, D22]), Bk (pj0 HH.out), Bk (pj1 HH.out), Bk (pj2 HH.out), Bk (pj3 HH.out), Bk (pj4 HH.out), Bk (pj5 HH.out), Bk (pj6 HH.out), Bk (pj7 HH.out), Bk (pj8 HH.out), Bk (pj9 HH.out), Bk (pj10 HH.out), Bk (pj11 HH.out), Bk (pj12 HH.out), Bk (pj13 HH.out), Bk (pj14 HH.out), Bk (pj15 HH.out), Bk (pj16 HH.out), Bk (pj17 HH.out), Bk (pj18 HH.out), Bk (pj19 HH.out), Bk (pj20 HH.out), Bk (pj21 HH.out), Bk (pj22 HH.out), fun _ => rfl, Bk (pj24 HH.out), Bk (pj25 HH.out), Bk (pj26 HH.out), Bk (pj27 HH.out), Bk (pj28 HH.out), Bk (pj29 HH.out), Bk (pj30 HH.out), Bk (pj31 HH.out), Bk (pj32 HH.out), Bi (pj33 HH.out), Bw (pe34 HH.out)⟩
          · have hns : ¬ Ls listed 32 := fun h => hnl (HCL.out.dep2 (HCL.out.dep2 (HCL.out.dep2 (HCL.out.dep2 h 31 (by kernel_rfl)) 30 (by kernel_rfl)) 29 (by kernel_rfl)) 24 (by kernel_rfl))
            have D18 := (pj18 HH.out) (ready_dep2 hi 18 (by kernel_rfl))
            have D23 := (pj23 HH.out) (ready_dep2 hi 23 (by kernel_rfl))
            have V0 := (pj33 HH.out) hns
            clear hi HCL
            simp only [List.setIfInBounds_toArray, List.set_cons_succ, List.set_cons_zero, D18, D23]
            refine wpOp_yes rfl (by rfl) ?_
            intro K hK
            go_wp2_with fail
            refine (StmtTokenCount_impl 6 0 _ _ _ (l.take k) W (RT.out.below V0) (by omega)).mono ?_
            rintro e y ⟨he, hb, hs⟩
            obtain rfl : e = .returned (.int .i64 T1) := by rw [he, HT1.out] <;> rfl
            go_wp2_with fail
            rw [HJ0.out]
            exact ⟨tok, x2, x45, x46, x47, x48, x49, x50, x51, x52, x53, x54, x55, x56, x57, x58, x59, x60, x61, x62, x63, x64, x65, x66, x67, x68, .int .i64 T1, x70, x71, x72, x73, x74, x75, x76, (by simp only [List.setIfInBounds_toArray, List.set_cons_succ, List.set_cons_zero, D18, D23]), Bk (pj0 HH.out), Bk (pj1 HH.out), Bk (pj2 HH.out), Bk (pj3 HH.out), Bk (pj4 HH.out), Bk (pj5 HH.out), Bk (pj6 HH.out), Bk (pj7 HH.out), Bk (pj8 HH.out), Bk (pj9 HH.out), Bk (pj10 HH.out), Bk (pj11 HH.out), Bk (pj12 HH.out), Bk (pj13 HH.out), Bk (pj14 HH.out), Bk (pj15 HH.out), Bk (pj16 HH.out), Bk (pj17 HH.out), Bk (pj18 HH.out), Bk (pj19 HH.out), Bk (pj20 HH.out), Bk (pj21 HH.out), Bk (pj22 HH.out), Bk (pj23 HH.out), fun _ => rfl, Bk (pj25 HH.out), Bk (pj26 HH.out), Bk (pj27 HH.out), Bk (pj28 HH.out), Bk (pj29 HH.out), Bk (pj30 HH.out), Bk (pj31 HH.out), fun h => absurd (h.back (by decide)) hns, fun h => belT ((pj33 HH.out) (fun h2 => h h2.fwd)) hb, fun h1 _ => absurd (h1.back (by decide)) hns⟩
          · have D18 := (pj18 HH.out) (ready_dep2 hi 18 (by kernel_rfl))
            clear hi HCL
            simp only [List.setIfInBounds_toArray, List.set_cons_succ, List.set_cons_zero, D18]
            refine wpOp_yes rfl (by rfl) ?_
            intro K hK
            go_wp2_with fail
            rw [HJ0.out]
            exact ⟨tok, x2, x45, x46, x47, x48, x49, x50, x51, x52, x53, x54, x55, x56, x57, x58, x59, x60, x61, x62, x63, x64, x65, x66, x67, x68, x69, .slice (some ⟨g, 0, none⟩) m c1, x71, x72, x73, x74, x75, x76, (by simp only [List.setIfInBounds_toArray, List.set_cons_succ, List.set_cons_zero, D18]), Bk (pj0 HH.out), Bk (pj1 HH.out), Bk (pj2 HH.out), Bk (pj3 HH.out), Bk (pj4 HH.out), Bk (pj5 HH.out), Bk (pj6 HH.out), Bk (pj7 HH.out), Bk (pj8 HH.out), Bk (pj9 HH.out), Bk (pj10 HH.out), Bk (pj11 HH.out), Bk (pj12 HH.out), Bk (pj13 HH.out), Bk (pj14 HH.out), Bk (pj15 HH.out), Bk (pj16 HH.out), Bk (pj17 HH.out), Bk (pj18 HH.out), Bk (pj19 HH.out), Bk (pj20 HH.out), Bk (pj21 HH.out), Bk (pj22 HH.out), Bk (pj23 HH.out), Bk (pj24 HH.out), fun _ => rfl, Bk (pj26 HH.out), Bk (pj27 HH.out), Bk (pj28 HH.out), Bk (pj29 HH.out), Bk (pj30 HH.out), Bk (pj31 HH.out), Bk (pj32 HH.out), Bi (pj33 HH.out), Bw (pe34 HH.out)⟩
          · have D18 := (pj18 HH.out) (ready_dep2 hi 18 (by kernel_rfl))
            clear hi HCL
            simp only [List.setIfInBounds_toArray, List.set_cons_succ, List.set_cons_zero, D18]
            refine wpOp_yes rfl (by rfl) ?_
            intro K hK
            go_wp2_with fail
            rw [HJ0.out]
            exact ⟨tok, x2, x45, x46, x47, x48, x49, x50, x51, x52, x53, x54, x55, x56, x57, x58, x59, x60, x61, x62, x63, x64, x65, x66, x67, x68, x69, x70, .int .i64 k, x72, x73, x74, x75, x76, (by simp only [List.setIfInBounds_toArray, List.set_cons_succ, List.set_cons_zero, D18]), Bk (pj0 HH.out), Bk (pj1 HH.out), Bk (pj2 HH.out), Bk (pj3 HH.out), Bk (pj4 HH.out), Bk (pj5 HH.out), Bk (pj6 HH.out), Bk (pj7 HH.out), Bk (pj8 HH.out), Bk (pj9 HH.out), Bk (pj10 HH.out), Bk (pj11 HH.out), Bk (pj12 HH.out), Bk (pj13 HH.out), Bk (pj14 HH.out), Bk (pj15 HH.out), Bk (pj16 HH.out), Bk (pj17 HH.out), Bk (pj18 HH.out), Bk (pj19 HH.out), Bk (pj20 HH.out), Bk (pj21 HH.out), Bk (pj22 HH.out), Bk (pj23 HH.out), Bk (pj24 HH.out), Bk (pj25 HH.out), fun _ => rfl, Bk (pj27 HH.out), Bk (pj28 HH.out), Bk (pj29 HH.out), Bk (pj30 HH.out), Bk (pj31 HH.out), Bk (pj32 HH.out), Bi (pj33 HH.out), Bw (pe34 HH.out)⟩
          · have D18 := (pj18 HH.out) (ready_dep2 hi 18 (by kernel_rfl))
            have D25 := (pj25 HH.out) (ready_dep2 hi 25 (by kernel_rfl))
            have D26 := (pj26 HH.out) (ready_dep2 hi 26 (by kernel_rfl))
            clear hi HCL
            simp only [List.setIfInBounds_toArray, List.set_cons_succ, List.set_cons_zero, D18, D25, D26]
            refine wpOp_yes rfl (by rfl) ?_
            intro K hK
            go_wp2_with fail
            rw [HJ0.out]
            exact ⟨tok, x2, x45, x46, x47, x48, x49, x50, x51, x52, x53, x54, x55, x56, x57, x58, x59, x60, x61, x62, x63, x64, x65, x66, x67, x68, x69, x70, x71, .slice (some ⟨g, k * 5, none⟩) (m - k) (c1 - k), x73, x74, x75, x76, (by simp only [List.setIfInBounds_toArray, List.set_cons_succ, List.set_cons_zero, D18, D25, D26]), Bk (pj0 HH.out), Bk (pj1 HH.out), Bk (pj2 HH.out), Bk (pj3 HH.out), Bk (pj4 HH.out), Bk (pj5 HH.out), Bk (pj6 HH.out), Bk (pj7 HH.out), Bk (pj8 HH.out), Bk (pj9 HH.out), Bk (pj10 HH.out), Bk (pj11 HH.out), Bk (pj12 HH.out), Bk (pj13 HH.out), Bk (pj14 HH.out), Bk (pj15 HH.out), Bk (pj16 HH.out), Bk (pj17 HH.out), Bk (pj18 HH.out), Bk (pj19 HH.out), Bk (pj20 HH.out), Bk (pj21 HH.out), Bk (pj22 HH.out), Bk (pj23 HH.out), Bk (pj24 HH.out), Bk (pj25 HH.out), Bk (pj26 HH.out), fun _ => rfl, Bk (pj28 HH.out), Bk (pj29 HH.out), Bk (pj30 HH.out), Bk (pj31 HH.out), Bk (pj32 HH.out), Bi (pj33 HH.out), Bw (pe34 HH.out)⟩
          · have hns : ¬ Ls listed 32 := fun h => hnl (HCL.out.dep2 (HCL.out.dep2 (HCL.out.dep2 (HCL.out.dep2 h 31 (by kernel_rfl)) 30 (by kernel_rfl)) 29 (by kernel_rfl)) 28 (by kernel_rfl))
            have D18 := (pj18 HH.out) (ready_dep2 hi 18 (by kernel_rfl))
            have D27 := (pj27 HH.out) (ready_dep2 hi 27 (by kernel_rfl))
            have V0 := (pj33 HH.out) hns
            clear hi HCL
            simp only [List.setIfInBounds_toArray, List.set_cons_succ, List.set_cons_zero, D18, D27]
            refine wpOp_yes rfl (by rfl) ?_
            intro K hK
            go_wp2_with fail
            refine (StmtTokenCount_impl 6 0 _ _ _ (l.drop k) W (RD.out.below V0) (by omega)).mono ?_
            rintro e y ⟨he, hb, hs⟩
            obtain rfl : e = .returned (.int .i64 T2) := by rw [he, HT2.out] <;> rfl
            go_wp2_with fail
            rw [HJ0.out]
            exact ⟨tok, x2, x45, x46, x47, x48, x49, x50, x51, x52, x53, x54, x55, x56, x57, x58, x59, x60, x61, x62, x63, x64, x65, x66, x67, x68, x69, x70, x71, x72, .int .i64 T2, x74, x75, x76, (by simp only [List.setIfInBounds_toArray, List.set_cons_succ, List.set_cons_zero, D18, D27]), Bk (pj0 HH.out), Bk (pj1 HH.out), Bk (pj2 HH.out), Bk (pj3 HH.out), Bk (pj4 HH.out), Bk (pj5 HH.out), Bk (pj6 HH.out), Bk (pj7 HH.out), Bk (pj8 HH.out), Bk (pj9 HH.out), Bk (pj10 HH.out), Bk (pj11 HH.out), Bk (pj12 HH.out), Bk (pj13 HH.out), Bk (pj14 HH.out), Bk (pj15 HH.out), Bk (pj16 HH.out), Bk (pj17 HH.out), Bk (pj18 HH.out), Bk (pj19 HH.out), Bk (pj20 HH.out), Bk (pj21 HH.out), Bk (pj22 HH.out), Bk (pj23 HH.out), Bk (pj24 HH.out), Bk (pj25 HH.out), Bk (pj26 HH.out), Bk (pj27 HH.out), fun _ => rfl, Bk (pj29 HH.out), Bk (pj30 HH.out), Bk (pj31 HH.out), fun h => absurd (h.back (by decide)) hns, fun h => belT ((pj33 HH.out) (fun h2 => h h2.fwd)) hb, fun h1 _ => absurd (h1.back (by decide)) hns⟩
          · have D18 := (pj18 HH.out) (ready_dep2 hi 18 (by kernel_rfl))
            have D24 := (pj24 HH.out) (ready_dep2 hi 24 (by kernel_rfl))
            have D28 := (pj28 HH.out) (ready_dep2 hi 28 (by kernel_rfl))
            clear hi HCL
            simp only [List.setIfInBounds_toArray, List.set_cons_succ, List.set_cons_zero, D18, D24, D28]
            refine wpOp_yes rfl (by rfl) ?_
            intro K hK
            go_wp2_with fail
            rw [HJ0.out]
            exact ⟨tok, x2, x45, x46, x47, x48, x49, x50, x51, x52, x53, x54, x55, x56, x57, x58, x59, x60, x61, x62, x63, x64, x65, x66, x67, x68, x69, x70, x71, x72, x73, .int .i64 ((T1 : Int) + (T2 : Int)), x75, x76, (by simp only [List.setIfInBounds_toArray, List.set_cons_succ, List.set_cons_zero, D18, D24, D28]), Bk (pj0 HH.out), Bk (pj1 HH.out), Bk (pj2 HH.out), Bk (pj3 HH.out), Bk (pj4 HH.out), Bk (pj5 HH.out), Bk (pj6 HH.out), Bk (pj7 HH.out), Bk (pj8 HH.out), Bk (pj9 HH.out), Bk (pj10 HH.out), Bk (pj11 HH.out), Bk (pj12 HH.out), Bk (pj13 HH.out), Bk (pj14 HH.out), Bk (pj15 HH.out), Bk (pj16 HH.out), Bk (pj17 HH.out), Bk (pj18 HH.out), Bk (pj19 HH.out), Bk (pj20 HH.out), Bk (pj21 HH.out), Bk (pj22 HH.out), Bk (pj23 HH.out), Bk (pj24 HH.out), Bk (pj25 HH.out), Bk (pj26 HH.out), Bk (pj27 HH.out), Bk (pj28 HH.out), fun _ => rfl, Bk (pj30 HH.out), Bk (pj31 HH.out), Bk (pj32 HH.out), Bi (pj33 HH.out), Bw (pe34 HH.out)⟩
          · have D18 := (pj18 HH.out) (ready_dep2 hi 18 (by kernel_rfl))
            have D20 := (pj20 HH.out) (ready_dep2 hi 20 (by kernel_rfl))
            have D29 := (pj29 HH.out) (ready_dep2 hi 29 (by kernel_rfl))
            clear hi HCL
            simp only [List.setIfInBounds_toArray, List.set_cons_succ, List.set_cons_zero, D18, D20, D29]
            refine wpOp_yes rfl (by rfl) ?_
            intro K hK
            go_wp2_with fail
            rw [HJ0.out]
            exact ⟨tok, x2, x45, x46, x47, x48, x49, x50, x51, x52, x53, x54, x55, x56, x57, x58, x59, x60, x61, x62, x63, x64, x65, x66, x67, x68, x69, x70, x71, x72, x73, x74, .bool true, x76, (by simp only [List.setIfInBounds_toArray, List.set_cons_succ, List.set_cons_zero, D18, D20, D29]), Bk (pj0 HH.out), Bk (pj1 HH.out), Bk (pj2 HH.out), Bk (pj3 HH.out), Bk (pj4 HH.out), Bk (pj5 HH.out), Bk (pj6 HH.out), Bk (pj7 HH.out), Bk (pj8 HH.out), Bk (pj9 HH.out), Bk (pj10 HH.out), Bk (pj11 HH.out), Bk (pj12 HH.out), Bk (pj13 HH.out), Bk (pj14 HH.out), Bk (pj15 HH.out), Bk (pj16 HH.out), Bk (pj17 HH.out), Bk (pj18 HH.out), Bk (pj19 HH.out), Bk (pj20 HH.out), Bk (pj21 HH.out), Bk (pj22 HH.out), Bk (pj23 HH.out), Bk (pj24 HH.out), Bk (pj25 HH.out), Bk (pj26 HH.out), Bk (pj27 HH.out), Bk (pj28 HH.out), Bk (pj29 HH.out), fun _ => rfl, Bk (pj31 HH.out), Bk (pj32 HH.out), Bi (pj33 HH.out), Bw (pe34 HH.out)⟩
          · have D18 := (pj18 HH.out) (ready_dep2 hi 18 (by kernel_rfl))
            have D30 := (pj30 HH.out) (ready_dep2 hi 30 (by kernel_rfl))
            clear hi HCL
            simp only [List.setIfInBounds_toArray, List.set_cons_succ, List.set_cons_zero, D18, D30]
            refine wpOp_one rfl rfl ?_
            intro K hK
            go_wp2_with fail
            rw [HJ0.out]
            exact ⟨tok, x2, x45, x46, x47, x48, x49, x50, x51, x52, x53, x54, x55, x56, x57, x58, x59, x60, x61, x62, x63, x64, x65, x66, x67, x68, x69, x70, x71, x72, x73, x74, x75, .bool true, (by simp only [List.setIfInBounds_toArray, List.set_cons_succ, List.set_cons_zero, D18, D30]), Bk (pj0 HH.out), Bk (pj1 HH.out), Bk (pj2 HH.out), Bk (pj3 HH.out), Bk (pj4 HH.out), Bk (pj5 HH.out), Bk (pj6 HH.out), Bk (pj7 HH.out), Bk (pj8 HH.out), Bk (pj9 HH.out), Bk (pj10 HH.out), Bk (pj11 HH.out), Bk (pj12 HH.out), Bk (pj13 HH.out), Bk (pj14 HH.out), Bk (pj15 HH.out), Bk (pj16 HH.out), Bk (pj17 HH.out), Bk (pj18 HH.out), Bk (pj19 HH.out), Bk (pj20 HH.out), Bk (pj21 HH.out), Bk (pj22 HH.out), Bk (pj23 HH.out), Bk (pj24 HH.out), Bk (pj25 HH.out), Bk (pj26 HH.out), Bk (pj27 HH.out), Bk (pj28 HH.out), Bk (pj29 HH.out), Bk (pj30 HH.out), fun _ => rfl, Bk (pj32 HH.out), Bi (pj33 HH.out), Bw (pe34 HH.out)⟩
          · have hns : ¬ Ls listed 32 := hnl
            have D31 := (pj31 HH.out) (ready_dep2 hi 31 (by kernel_rfl))
            have V0 := (pj33 HH.out) hns
            clear hi HCL
            simp only [List.setIfInBounds_toArray, List.set_cons_succ, List.set_cons_zero, D31]
            refine wpOp_one rfl rfl ?_
            intro K hK
            go_wp2_with fail
            rw [HJ0.out]
            exact ⟨tok, .bool true, x45, x46, x47, x48, x49, x50, x51, x52, x53, x54, x55, x56, x57, x58, x59, x60, x61, x62, x63, x64, x65, x66, x67, x68, x69, x70, x71, x72, x73, x74, x75, x76, (by first | (simp only [List.setIfInBounds_toArray, List.set_cons_succ, List.set_cons_zero, D31] <;> fail) | simp only [Act.put, List.setIfInBounds_toArray, List.set_cons_succ, List.set_cons_zero, D31]), Bk (pj0 HH.out), Bk (pj1 HH.out), Bk (pj2 HH.out), Bk (pj3 HH.out), Bk (pj4 HH.out), Bk (pj5 HH.out), Bk (pj6 HH.out), Bk (pj7 HH.out), Bk (pj8 HH.out), Bk (pj9 HH.out), Bk (pj10 HH.out), Bk (pj11 HH.out), Bk (pj12 HH.out), Bk (pj13 HH.out), Bk (pj14 HH.out), Bk (pj15 HH.out), Bk (pj16 HH.out), Bk (pj17 HH.out), Bk (pj18 HH.out), Bk (pj19 HH.out), Bk (pj20 HH.out), Bk (pj21 HH.out), Bk (pj22 HH.out), Bk (pj23 HH.out), Bk (pj24 HH.out), Bk (pj25 HH.out), Bk (pj26 HH.out), Bk (pj27 HH.out), Bk (pj28 HH.out), Bk (pj29 HH.out), Bk (pj30 HH.out), Bk (pj31 HH.out), fun _ => ⟨rfl, V0⟩, fun h => absurd hnow h, fun _ h => absurd hnow h⟩
        · intro listed a W hsize hJ hr
          rw [HJ0.out] at hJ
          have hall := all_listed hsize (by kernel_rfl) hr
          obtain ⟨tok, x2, x45, x46, x47, x48, x49, x50, x51, x52, x53, x54, x55, x56, x57, x58, x59, x60, x61, x62, x63, x64, x65, x66, x67, x68, x69, x70, x71, x72, x73, x74, x75, x76, rfl, HF⟩ := hJ
          have HH := Lib.hid HF
          have HEND := (pj32 HH.out) (hall 32 (by decide))
          clear HF HH hall hr hsize
          simp only [List.setIfInBounds_toArray, List.set_cons_succ, List.set_cons_zero]
          obtain ⟨rfl, hbF⟩ := HEND
          have HBF := Lib.hid hbF
          clear hbF
          go_wp2_with fail
          go_ret
          exact ⟨rfl, HB1.out.trans ((B2.out.trans (HBF.out.mono (by omega))).mono hs1)⟩
set_option maxRecDepth 100000 in
theorem lifted_fnTree (os : Os) (started : os.Started) (H : Type) (enc : TypeId × Value → H) :
    ReturnsInHanded {} Try.checked os 3 .any (Rows.fnTreeSpec.pre6 enc Try.prog Try.f3 Rows.fnTreeRow.domain false) (Rows.fnTreeSpec.post enc Try.prog Try.f3 false true false false) := by
  refine returnsInHanded_of_change (C := Try.checked) own started (by kernel_rfl) Try.func3
    (ChangeSpec.witness6 (enc := enc) (C := Try.checked) false ⟨#[], #[.slice none 0 0], []⟩ 8 (by kernel_rfl) (by kernel_rfl) (by kernel_rfl) (by kernel_rfl)) ?_
  intro W base args ds gs before hval0 hW hcnd _
  have hval : ∀ (j : Nat) t v, Try.f3.params[j]? = some t → args[j]? = some v → Value.okWide Try.prog W .any base t v := hval0
  have hW' := hW
  obtain ⟨p, q, hA0, hV, rfl, hfz, hnd⟩ := hW
  have hA : DataW.TrodAll enc Try.prog W 0 (fun _ => true) true Try.f3.params.toList args.toList ds p := hA0
  obtain ⟨rfl, rfl⟩ := trodVars_none hV
  have hlt : ∀ x ∈ p, x.block < W.heap.size := fun x hx => hW'.lt x (by simp [hx])
  have key : Calls Try.prog 3 args W fun e W' => e = .returned (.bool true) ∧ Below W.heap.size W W' := by
    rw [Try.params3] at hA hval
    obtain ⟨v0, vs0, d0, ds0, p0, q0, hargs, rfl, rfl, h0, r0⟩ := trodAll_cons hA
    obtain ⟨rfl, rfl, rfl⟩ := trodAll_nil r0
    obtain rfl : args = #[v0] := by cases args; simp_all
    clear hA0 hval0 hW' hA
    obtain ⟨fuel0, hf0⟩ := h0
    obtain ⟨A, n, c, l, hv0, hnc, hcm, hl, hrd⟩ := rd_of_slice (cellsf := bcell) Try.underlying22 cells_byte (by decide) trod_byte bcell_len (slice_one (hval 0 22 v0 rfl rfl) Try.underlying22 hf0)
    subst hv0
    exact law_Tree A n c l W hrd hl hnc hcm
  refine key.mono fun e W' ⟨he, hb⟩ => ?_
  subst he
  have hrd : (Try.f3.params.toList.all fun t => Try.prog.readableRec t && decide (t < Try.prog.types.size)) = true := by kernel_rfl
  have hst : ∀ sp : Nat → Bool, (∀ x ∈ p ++ [], sp x.block = true) → DataW.TrodAll enc Try.prog W' 0 sp true Try.f3.params.toList args.toList ds p := fun sp hsp => trodAll_stays (sp := sp) (W' := W') laidOut (fun t ht => by simpa using List.all_eq_true.1 hrd t ht) hA (fun x hx => hb.same (hlt x hx)) (fun x hx => hsp x (by simp [hx]))
  have hds : ds.length = 1 := by
    rw [Try.params3] at hA
    obtain ⟨v0, vs0, d0, ds0, p0, q0, _, rfl, rfl, h0, r0⟩ := trodAll_cons hA
    obtain ⟨_, rfl, _⟩ := trodAll_nil r0
    rfl
  clear hA hA0 hval hval0
  obtain ⟨e0, rfl⟩ : ∃ e0, ds = [e0] := by match ds, hds with | [e0], _ => exact ⟨e0, rfl⟩
  exact ⟨_, rfl, post_of_below (pa := p) (pv := []) hW' (fun _ _ _ => (trodAll_cons_mk (shut_bool Try.underlying4 _) trodAll_mk0)) hst (fun _ _ => rfl) rfl hb (ok_one (by kernel_rfl) rfl (okWide_bool_mk Try.underlying4 _))⟩
theorem over_fnTree : Rows.fnTreeRow.holds Try.pinned (OpenSpec.ofChange Rows.fnTreeSpec) :=
  OpenClaim.holds_of_wide 3 Try.f3 rfl rfl rfl rfl rfl rfl rfl ⟨rfl, rfl, rfl, rfl, rfl⟩ rfl rfl rfl rfl rfl (by kernel_rfl) Try.func3 (by kernel_rfl)
    (of_decide_eq_true (by kernel_rfl)) (by unfold Func.isWrapper; first | (rw [if_pos (by decide +kernel)]; kernel_rfl) | (rw [if_neg (by decide +kernel)]; exact ⟨rfl, rfl⟩))
    (fun os started H enc _ => lifted_fnTree os started H enc)
/-- The statement. -/
theorem fnTree_holds : Rows.FnTreeSaid := over_fnTree
end Go.Proofs.Ytbamjfbfipkioaa
