/- A statement has the computed number of tokens: for every code. -/
import Derived.Test.YtbamjfbfipkioaaDoorJFStmtTokens3
import Derived.Test.YtbamjfbfipkioaaDoorJFStmtTokens13
import Derived.Test.YtbamjfbfipkioaaDoorJFStmtTokens14
import Derived.Test.YtbamjfbfipkioaaDoorJFStmtTokens20
namespace Go.Proofs.YtbamjfbfipkioaaDoor
open Go.ChangeShapes Go.WideShapes Go.ChangeAt Go.RowKit
set_option linter.unusedVariables false
theorem below_drewS {B : Nat} {w w' : World} (h : Below B w w') : Below B w w'.drew := ⟨h.os, h.tape, h.output, h.size, h.block⟩
theorem belS {w w1 w2 : World} (f : Below w.heap.size w w1) (h : Below w1.heap.size w1 w2) : Below w.heap.size w w2 := f.trans (h.mono f.size)
/-- A slice of one new statement reads as it. -/
theorem rdT_one {w w' : World} {lo d nb ca cb : Nat} {k count : Int} {word : ByteArray} {args : List ByteArray} {Aa Ab : Option Addr} {bd : List (Tr d)} {t : TypeId} {g : Nat} (hh : w'.heap[g]? = some (.cells #[.int .i64 k, .string word, .slice Aa args.length ca, .int .i64 count, .slice Ab nb cb] t (0, 0))) (ra : RdL w' lo 1 Aa args.length (strs args)) (rb : RdT w' lo d Ab nb bd) (hca : args.length ≤ ca) (hlo : lo ≤ g) :
    RdT w' lo (d + 1) (some ⟨g, 0, none⟩) 1 [mkT (d := d) ⟨k, word, args, count⟩ bd] := by
  refine ⟨rfl, fun _ => ⟨g, 0, rfl, hlo, lt_of_block hh, fun i s hi => ?_⟩⟩
  have hi0 : i = 0 := by
    have := (List.getElem?_eq_some_iff.1 hi).1
    simp at this
    exact this
  subst hi0
  simp at hi
  subst hi
  obtain ⟨k0, k1, k2, k3, k4⟩ := boxcells5 (lay := Below.refl _ _) hh
  exact ⟨Aa, ca, Ab, nb, cb, ⟨k0, k1, k2, k3, k4⟩, ra, rb, hca⟩
set_option maxRecDepth 100000 in
set_option maxHeartbeats 8000000 in
theorem law_FStmtTokens (A : Option Addr) (n c : Nat) (bs : List (Fin 256)) (w0 : World) (h : Rd w0 1 A n (bs.flatMap bcell)) (hl : bs.length = n) (hnc : n ≤ c) (hc : c ≤ maxLen) (hG : GN w0) :
    Calls Tryd.prog 3 #[.slice A n c] w0 fun e w' => e = .returned (.bool true) ∧ Below w0.heap.size w0 w' := by
  have hn0 : n ≤ 9223372036854775807 := by simp only [maxLen] at hc; omega
  have H := Lib.hid h
  have HL := Lib.hid hl
  have HG := Lib.hid hG
  clear h hl hG
  by_cases hbig : 1048576 < n
  · have hB : decide (1048576 < n) = true := by simpa using hbig
    go_enter Tryd.func3, Tryd.ntmps3
    go_wp2_with (go_at_call 5; refine (big_law _ _ _ _ hn0).mono ?_; rintro e w' ⟨rfl, rfl⟩)
    go_ret
    exact ⟨rfl, Below.refl _ _⟩
  have hB : decide (1048576 < n) = false := by simpa using hbig
  go_enter Tryd.func3, Tryd.ntmps3
  go_wp2_with (go_at_call 5; refine (big_law _ _ _ _ hn0).mono ?_; rintro e w' ⟨rfl, rfl⟩)
  clear hB
  refine (DrawStmtTokens_any _ _ _ bs w0 H.out HL.out (by omega)).mono ?_
  rintro e w1 ⟨⟨k, word, args, count⟩, bd, Aa, ca, Ab, nb, cb, rfl, hra, hrb, ⟨hz, hca⟩, hb1⟩
  have hs1 := hb1.size
  have hz1 : word.size + (args.length + szS args + szT 5 bd) ≤ 100000 := hz
  have hra : RdL w1 0 1 Aa args.length (strs args) := RdL.lower hra (Nat.zero_le _)
  have hrb : RdT w1 0 5 Ab nb bd := RdT.lower (Nat.zero_le _) hrb
  have hca : args.length ≤ ca := hca
  simp only at *
  go_upto_region 4 with (fail)
  obtain ⟨w2, hw2⟩ : ∃ w2, w2 = w1.alloc (.cells #[.int .i64 k, .string word, .slice Aa args.length ca, .int .i64 count, .slice Ab nb cb] 27) := ⟨_, rfl⟩
  rw [← hw2]
  have b2 : Below w1.heap.size w1 w2 := by rw [hw2]; exact (by repeat (first | exact Below.refl _ _ | assumption | (refine Below.trans ?_ (Below.mono (by assumption) (by first | omega | (simp; done) | (simp; omega)))) | (with_reducible refine Below.drew ?_) | (with_reducible refine Below.alloc ?_ (by first | omega | (simp; done) | (simp; omega)) _) | (with_reducible refine Below.setCell ?_ (by first | omega | (simp; done) | (simp; omega)) _)))
  have s2 : w1.heap.size + 1 = w2.heap.size := by rw [hw2]; simp
  have x2 : w2.heap[w1.heap.size]? = some (.cells #[.int .i64 k, .string word, .slice Aa args.length ca, .int .i64 count, .slice Ab nb cb] 27 (0, 0)) := by rw [hw2]; exact boxed1_0 _ _
  have hra2 := hra.below b2
  have hrb2 := hrb.below b2
  have hb2 := hb1.trans (b2.mono hs1)
  have HG2 := Lib.hid (HG.out.below hb2)
  have X2 := Lib.hid x2
  have HB2 := Lib.hid hb2
  have HRA2 := Lib.hid hra2
  have HRB2 := Lib.hid hrb2
  clear hw2 b2 x2 hra hrb hra2 hrb2 hb1 hb2 hz
  obtain ⟨k0, k1, k2, k3, k4⟩ := boxcells5 (lay := Below.refl _ _) X2.out
  have l2 := lt_of_block X2.out
  go_wp2_with fail
  refine (StmtTokens_impl 5 0 k word args count bd Aa ca Ab nb cb w2 HRA2.out HRB2.out HG2.out (by omega) (by omega) (by omega)).mono ?_
  have hTL := stToks_len (vOne 5 (validT 5) ⟨k, word, args, count⟩ bd) (toks1 ⟨k, word, args, count⟩ (toksT 5 bd))
  have hT1 := toks1_len ⟨k, word, args, count⟩ (toksT 5 bd)
  have hT2 := toksT_len 5 bd
  have hT3 : (toks1 ⟨k, word, args, count⟩ (toksT 5 bd)).length ≤ 4 + args.length + (toksT 5 bd).length := hT1
  obtain ⟨T, hT⟩ : ∃ T, T = stToks (vOne 5 (validT 5) ⟨k, word, args, count⟩ bd) (toks1 ⟨k, word, args, count⟩ (toksT 5 bd)) := ⟨_, rfl⟩
  have hTl : T.length ≤ 10485760 := by rw [hT]; omega
  have HCS := Lib.hid (fun W (ra : RdL W 0 1 Aa args.length (strs args)) (rb : RdT W 0 5 Ab nb bd) => StmtTokens_spec 5 0 k word args count bd Aa ca Ab nb cb W ra rb (by omega) (by omega) (by omega))
  have HVI := Lib.hid (fun W (ra : RdL W 0 1 Aa args.length (strs args)) (rb : RdT W 0 5 Ab nb bd) (hG : GN W) => IsValidStmt_impl 5 0 k word args count bd Aa ca Ab nb cb W ra rb hG (by omega) (by omega) (by omega))
  have HVS := Lib.hid (fun W (ra : RdL W 0 1 Aa args.length (strs args)) (rb : RdT W 0 5 Ab nb bd) => IsValidStmt_spec 5 0 k word args count bd Aa ca Ab nb cb W ra rb (by omega) (by omega) (by omega))
  rw [← hT] at HCS ⊢
  rintro e w3 ⟨vg, rfl, og, b3, s3⟩
  obtain ⟨tn, htn⟩ : ∃ tn, T.length = tn := ⟨_, rfl⟩
  rw [htn] at og hTl
  have HTN := Lib.hid htn
  clear htn
  obtain ⟨Ag, cg, rfl, _, _, rg⟩ := rd_of_own og
  have HTG := Lib.hid rg
  have X0 := Lib.hid ((b3.block _ (lt_of_block X2.out)).trans X2.out)
  have HB1 := Lib.hid (HB2.out.trans (b3.mono HB2.out.size))
  have HGN := Lib.hid (HG2.out.below b3)
  have HRA := Lib.hid (HRA2.out.below b3)
  have HRB := Lib.hid (HRB2.out.below b3)
  have hs13 := HB1.out.size
  have l3 : w1.heap.size < w3.heap.size := by omega
  clear og rg b3 hTL hT1 hT2 hT3 k0 k1 k2 k3 k4 l2 X2 HB2 HG2 HRA2 HRB2
  have HT := Lib.hid hT
  clear hT
  cases hv : vOne 5 (validT 5) ⟨k, word, args, count⟩ bd
  · have hT0 : T = [] := by rw [HT.out, hv]; exact stToks_f _
    have HT0 : Hid (tn = 0) := by show tn = 0; rw [← HTN.out, hT0]; rfl
    rw [hv] at HVI HVS
    clear hv hT0 HT
    go_upto_region 5 with (fail)
    obtain ⟨J0, hJ0⟩ : ∃ J : Array Value → Array Bool → Act → World → Prop, J = (fun A0 listed a W => ∃ (Aw : Option Addr) (cw : Nat), ∃ x11 x12 x13 x14 x15 x16 x17 x18 x19 x20 x21 x22 : Value, a = ⟨((((((((((((A0.setIfInBounds 11 x11).setIfInBounds 12 x12).setIfInBounds 13 x13).setIfInBounds 14 x14).setIfInBounds 15 x15).setIfInBounds 16 x16).setIfInBounds 17 x17).setIfInBounds 18 x18).setIfInBounds 19 x19).setIfInBounds 20 x20).setIfInBounds 21 x21).setIfInBounds 22 x22), []⟩ ∧ (Ls listed 0 → x11 = .slice Ag tn cg) ∧ (Ls listed 1 → x12 = .agg #[.int .i64 k, .string word, .slice Aa args.length ca, .int .i64 count, .slice Ab nb cb]) ∧ (Ls listed 2 → x13 = .slice Aw tn cw) ∧ (Ls listed 3 → x14 = .bool true) ∧ (Ls listed 4 → x15 = .bool false) ∧ (Ls listed 5 → x16 = .bool false) ∧ (Ls listed 6 → x17 = .agg #[.int .i64 k, .string word, .slice Aa args.length ca, .int .i64 count, .slice Ab nb cb]) ∧ (Ls listed 7 → x18 = .bool false) ∧ (Ls listed 8 → x19 = .agg #[.int .i64 k, .string word, .slice Aa args.length ca, .int .i64 count, .slice Ab nb cb]) ∧ (Ls listed 9 → x20 = .bool false) ∧ (Ls listed 10 → x21 = .bool false) ∧ (Ls listed 11 → x22 = .bool false ∧ Below w3.heap.size w3 W) ∧ (Ls listed 2 → ¬ Ls listed 11 → Rd W 2 Aw tn (tkcs T)) ∧ (¬ Ls listed 11 → Below w3.heap.size w3 W) ∧ (Ls listed 11 → ¬ Ls listed 11 → True)) := ⟨_, rfl⟩
    have HJ0 := Lib.hid hJ0
    clear hJ0
    refine wp_region_inv2 (by kernel_rfl) J0 ?_ ?_ ?_
    · intro A0
      rw [HJ0.out]
      exact ⟨none, 0, A0.getD 11 undef, A0.getD 12 undef, A0.getD 13 undef, A0.getD 14 undef, A0.getD 15 undef, A0.getD 16 undef, A0.getD 17 undef, A0.getD 18 undef, A0.getD 19 undef, A0.getD 20 undef, A0.getD 21 undef, A0.getD 22 undef, by simp only [set_self], fun h => h.none, fun h => h.none, fun h => h.none, fun h => h.none, fun h => h.none, fun h => h.none, fun h => h.none, fun h => h.none, fun h => h.none, fun h => h.none, fun h => h.none, fun h => h.none, fun h => h.none, fun _ => below_drewS (Below.refl _ _), fun h => h.none⟩
    · intro listed a W hsize hcl hJ i hi
      have hil := ready_lt hi
      have hnl := ready_not hi
      have hnow := ready_now hi hsize
      have HCL := Lib.hid hcl
      rw [HJ0.out] at hJ
      obtain ⟨Aw, cw, x11, x12, x13, x14, x15, x16, x17, x18, x19, x20, x21, x22, rfl, HF⟩ := hJ
      have HH := Lib.hid HF
      have hi2 : i = 0 ∨ i = 1 ∨ i = 2 ∨ i = 3 ∨ i = 4 ∨ i = 5 ∨ i = 6 ∨ i = 7 ∨ i = 8 ∨ i = 9 ∨ i = 10 ∨ i = 11 := by simp at hil; omega
      clear hil hcl HF
      rcases hi2 with rfl | rfl | rfl | rfl | rfl | rfl | rfl | rfl | rfl | rfl | rfl | rfl
      · clear hi HCL
        simp only [List.setIfInBounds_toArray, List.set_cons_succ, List.set_cons_zero]
        refine wpOp_one rfl rfl ?_
        intro K hK
        go_wp2_with fail
        rw [HJ0.out]
        exact ⟨Aw, cw, .slice Ag tn cg, x12, x13, x14, x15, x16, x17, x18, x19, x20, x21, x22, (by simp only [List.setIfInBounds_toArray, List.set_cons_succ, List.set_cons_zero]), fun _ => rfl, fun h => HH.out.2.1 (h.back (by decide)), fun h => HH.out.2.2.1 (h.back (by decide)), fun h => HH.out.2.2.2.1 (h.back (by decide)), fun h => HH.out.2.2.2.2.1 (h.back (by decide)), fun h => HH.out.2.2.2.2.2.1 (h.back (by decide)), fun h => HH.out.2.2.2.2.2.2.1 (h.back (by decide)), fun h => HH.out.2.2.2.2.2.2.2.1 (h.back (by decide)), fun h => HH.out.2.2.2.2.2.2.2.2.1 (h.back (by decide)), fun h => HH.out.2.2.2.2.2.2.2.2.2.1 (h.back (by decide)), fun h => HH.out.2.2.2.2.2.2.2.2.2.2.1 (h.back (by decide)), fun h => HH.out.2.2.2.2.2.2.2.2.2.2.2.1 (h.back (by decide)), fun h1 h2 => HH.out.2.2.2.2.2.2.2.2.2.2.2.2.1 (h1.back (by decide)) (fun h3 => h2 h3.fwd), fun h => HH.out.2.2.2.2.2.2.2.2.2.2.2.2.2.1 (fun h2 => h h2.fwd), fun h1 h2 => HH.out.2.2.2.2.2.2.2.2.2.2.2.2.2.2 (h1.back (by decide)) (fun h3 => h2 h3.fwd)⟩
      · have hns : ¬ Ls listed 11 := fun h => hnl (HCL.out.dep2 (HCL.out.dep2 (HCL.out.dep2 (HCL.out.dep2 (HCL.out.dep2 h 5 (by kernel_rfl)) 4 (by kernel_rfl)) 3 (by kernel_rfl)) 2 (by kernel_rfl)) 1 (by kernel_rfl))
        have V0 := HH.out.2.2.2.2.2.2.2.2.2.2.2.2.2.1 hns
        clear hi HCL
        simp only [List.setIfInBounds_toArray, List.set_cons_succ, List.set_cons_zero]
        obtain ⟨k0, k1, k2, k3, k4⟩ := boxcells5 (lay := V0) X0.out
        refine wpOp_one rfl rfl ?_
        intro K hK
        go_wp2_with fail
        rw [HJ0.out]
        exact ⟨Aw, cw, x11, .agg #[.int .i64 k, .string word, .slice Aa args.length ca, .int .i64 count, .slice Ab nb cb], x13, x14, x15, x16, x17, x18, x19, x20, x21, x22, (by simp only [List.setIfInBounds_toArray, List.set_cons_succ, List.set_cons_zero]), fun h => HH.out.1 (h.back (by decide)), fun _ => rfl, fun h => HH.out.2.2.1 (h.back (by decide)), fun h => HH.out.2.2.2.1 (h.back (by decide)), fun h => HH.out.2.2.2.2.1 (h.back (by decide)), fun h => HH.out.2.2.2.2.2.1 (h.back (by decide)), fun h => HH.out.2.2.2.2.2.2.1 (h.back (by decide)), fun h => HH.out.2.2.2.2.2.2.2.1 (h.back (by decide)), fun h => HH.out.2.2.2.2.2.2.2.2.1 (h.back (by decide)), fun h => HH.out.2.2.2.2.2.2.2.2.2.1 (h.back (by decide)), fun h => HH.out.2.2.2.2.2.2.2.2.2.2.1 (h.back (by decide)), fun h => HH.out.2.2.2.2.2.2.2.2.2.2.2.1 (h.back (by decide)), fun h1 h2 => HH.out.2.2.2.2.2.2.2.2.2.2.2.2.1 (h1.back (by decide)) (fun h3 => h2 h3.fwd), fun h => HH.out.2.2.2.2.2.2.2.2.2.2.2.2.2.1 (fun h2 => h h2.fwd), fun h1 h2 => HH.out.2.2.2.2.2.2.2.2.2.2.2.2.2.2 (h1.back (by decide)) (fun h3 => h2 h3.fwd)⟩
      · have hns : ¬ Ls listed 11 := fun h => hnl (HCL.out.dep2 (HCL.out.dep2 (HCL.out.dep2 (HCL.out.dep2 h 5 (by kernel_rfl)) 4 (by kernel_rfl)) 3 (by kernel_rfl)) 2 (by kernel_rfl))
        have D1 := HH.out.2.1 (ready_dep2 hi 1 (by kernel_rfl))
        have V0 := HH.out.2.2.2.2.2.2.2.2.2.2.2.2.2.1 hns
        clear hi HCL
        simp only [List.setIfInBounds_toArray, List.set_cons_succ, List.set_cons_zero, D1]
        refine wpOp_one rfl rfl ?_
        intro K hK
        go_wp2_with fail
        refine (HCS.out W (HRA.out.below V0) (HRB.out.below V0)).mono ?_
        rintro e y ⟨v7, rfl, ow, hb, hs⟩
        rw [HTN.out] at ow
        obtain ⟨A7, c7, rfl, _, _, hr⟩ := rd_of_own ow
        go_wp2_with fail
        rw [HJ0.out]
        exact ⟨A7, c7, x11, x12, .slice A7 tn c7, x14, x15, x16, x17, x18, x19, x20, x21, x22, (by simp only [List.setIfInBounds_toArray, List.set_cons_succ, List.set_cons_zero, D1]), fun h => HH.out.1 (h.back (by decide)), fun h => HH.out.2.1 (h.back (by decide)), fun _ => rfl, fun h => HH.out.2.2.2.1 (h.back (by decide)), fun h => HH.out.2.2.2.2.1 (h.back (by decide)), fun h => HH.out.2.2.2.2.2.1 (h.back (by decide)), fun h => HH.out.2.2.2.2.2.2.1 (h.back (by decide)), fun h => HH.out.2.2.2.2.2.2.2.1 (h.back (by decide)), fun h => HH.out.2.2.2.2.2.2.2.2.1 (h.back (by decide)), fun h => HH.out.2.2.2.2.2.2.2.2.2.1 (h.back (by decide)), fun h => HH.out.2.2.2.2.2.2.2.2.2.2.1 (h.back (by decide)), fun h => absurd (h.back (by decide)) hns, fun _ _ => hr, fun h => belS (HH.out.2.2.2.2.2.2.2.2.2.2.2.2.2.1 (fun h2 => h h2.fwd)) hb, fun h1 _ => absurd (h1.back (by decide)) hns⟩
      · have hns : ¬ Ls listed 11 := fun h => hnl (HCL.out.dep2 (HCL.out.dep2 (HCL.out.dep2 h 5 (by kernel_rfl)) 4 (by kernel_rfl)) 3 (by kernel_rfl))
        have D0 := HH.out.1 (ready_dep2 hi 0 (by kernel_rfl))
        have D2 := HH.out.2.2.1 (ready_dep2 hi 2 (by kernel_rfl))
        have E2 := HH.out.2.2.2.2.2.2.2.2.2.2.2.2.1 (ready_dep2 hi 2 (by kernel_rfl)) hns
        have V0 := HH.out.2.2.2.2.2.2.2.2.2.2.2.2.2.1 hns
        clear hi HCL
        simp only [List.setIfInBounds_toArray, List.set_cons_succ, List.set_cons_zero, D0, D2]
        refine wpOp_one rfl rfl ?_
        intro K hK
        go_wp2_with fail
        refine (sameTokens_same _ _ tn _ _ T W HTN.out (by omega) (HTG.out.below V0) E2).mono ?_
        rintro e y ⟨he, hb, hs⟩
        obtain rfl : e = .returned (.bool true) := by exact he
        go_wp2_with fail
        rw [HJ0.out]
        exact ⟨Aw, cw, x11, x12, x13, .bool true, x15, x16, x17, x18, x19, x20, x21, x22, (by simp only [List.setIfInBounds_toArray, List.set_cons_succ, List.set_cons_zero, D0, D2]), fun h => HH.out.1 (h.back (by decide)), fun h => HH.out.2.1 (h.back (by decide)), fun h => HH.out.2.2.1 (h.back (by decide)), fun _ => rfl, fun h => HH.out.2.2.2.2.1 (h.back (by decide)), fun h => HH.out.2.2.2.2.2.1 (h.back (by decide)), fun h => HH.out.2.2.2.2.2.2.1 (h.back (by decide)), fun h => HH.out.2.2.2.2.2.2.2.1 (h.back (by decide)), fun h => HH.out.2.2.2.2.2.2.2.2.1 (h.back (by decide)), fun h => HH.out.2.2.2.2.2.2.2.2.2.1 (h.back (by decide)), fun h => HH.out.2.2.2.2.2.2.2.2.2.2.1 (h.back (by decide)), fun h => absurd (h.back (by decide)) hns, fun h1 h2 => Rd.below (HH.out.2.2.2.2.2.2.2.2.2.2.2.2.1 (h1.back (by decide)) (fun h3 => h2 h3.fwd)) hb, fun h => belS (HH.out.2.2.2.2.2.2.2.2.2.2.2.2.2.1 (fun h2 => h h2.fwd)) hb, fun h1 _ => absurd (h1.back (by decide)) hns⟩
      · have D3 := HH.out.2.2.2.1 (ready_dep2 hi 3 (by kernel_rfl))
        clear hi HCL
        simp only [List.setIfInBounds_toArray, List.set_cons_succ, List.set_cons_zero, D3]
        refine wpOp_one rfl rfl ?_
        intro K hK
        go_wp2_with fail
        rw [HJ0.out]
        exact ⟨Aw, cw, x11, x12, x13, x14, .bool false, x16, x17, x18, x19, x20, x21, x22, (by simp only [List.setIfInBounds_toArray, List.set_cons_succ, List.set_cons_zero, D3]), fun h => HH.out.1 (h.back (by decide)), fun h => HH.out.2.1 (h.back (by decide)), fun h => HH.out.2.2.1 (h.back (by decide)), fun h => HH.out.2.2.2.1 (h.back (by decide)), fun _ => rfl, fun h => HH.out.2.2.2.2.2.1 (h.back (by decide)), fun h => HH.out.2.2.2.2.2.2.1 (h.back (by decide)), fun h => HH.out.2.2.2.2.2.2.2.1 (h.back (by decide)), fun h => HH.out.2.2.2.2.2.2.2.2.1 (h.back (by decide)), fun h => HH.out.2.2.2.2.2.2.2.2.2.1 (h.back (by decide)), fun h => HH.out.2.2.2.2.2.2.2.2.2.2.1 (h.back (by decide)), fun h => HH.out.2.2.2.2.2.2.2.2.2.2.2.1 (h.back (by decide)), fun h1 h2 => HH.out.2.2.2.2.2.2.2.2.2.2.2.2.1 (h1.back (by decide)) (fun h3 => h2 h3.fwd), fun h => HH.out.2.2.2.2.2.2.2.2.2.2.2.2.2.1 (fun h2 => h h2.fwd), fun h1 h2 => HH.out.2.2.2.2.2.2.2.2.2.2.2.2.2.2 (h1.back (by decide)) (fun h3 => h2 h3.fwd)⟩
      · have D4 := HH.out.2.2.2.2.1 (ready_dep2 hi 4 (by kernel_rfl))
        clear hi HCL
        simp only [List.setIfInBounds_toArray, List.set_cons_succ, List.set_cons_zero, D4]
        refine wpOp_one rfl rfl ?_
        intro K hK
        go_wp2_with fail
        rw [HJ0.out]
        exact ⟨Aw, cw, x11, x12, x13, x14, x15, .bool false, x17, x18, x19, x20, x21, x22, (by simp only [List.setIfInBounds_toArray, List.set_cons_succ, List.set_cons_zero, D4]), fun h => HH.out.1 (h.back (by decide)), fun h => HH.out.2.1 (h.back (by decide)), fun h => HH.out.2.2.1 (h.back (by decide)), fun h => HH.out.2.2.2.1 (h.back (by decide)), fun h => HH.out.2.2.2.2.1 (h.back (by decide)), fun _ => rfl, fun h => HH.out.2.2.2.2.2.2.1 (h.back (by decide)), fun h => HH.out.2.2.2.2.2.2.2.1 (h.back (by decide)), fun h => HH.out.2.2.2.2.2.2.2.2.1 (h.back (by decide)), fun h => HH.out.2.2.2.2.2.2.2.2.2.1 (h.back (by decide)), fun h => HH.out.2.2.2.2.2.2.2.2.2.2.1 (h.back (by decide)), fun h => HH.out.2.2.2.2.2.2.2.2.2.2.2.1 (h.back (by decide)), fun h1 h2 => HH.out.2.2.2.2.2.2.2.2.2.2.2.2.1 (h1.back (by decide)) (fun h3 => h2 h3.fwd), fun h => HH.out.2.2.2.2.2.2.2.2.2.2.2.2.2.1 (fun h2 => h h2.fwd), fun h1 h2 => HH.out.2.2.2.2.2.2.2.2.2.2.2.2.2.2 (h1.back (by decide)) (fun h3 => h2 h3.fwd)⟩
      · have hns : ¬ Ls listed 11 := fun h => hnl (HCL.out.dep2 (HCL.out.dep2 (HCL.out.dep2 h 10 (by kernel_rfl)) 7 (by kernel_rfl)) 6 (by kernel_rfl))
        have D5 := HH.out.2.2.2.2.2.1 (ready_dep2 hi 5 (by kernel_rfl))
        have V0 := HH.out.2.2.2.2.2.2.2.2.2.2.2.2.2.1 hns
        clear hi HCL
        simp only [List.setIfInBounds_toArray, List.set_cons_succ, List.set_cons_zero, D5]
        obtain ⟨k0, k1, k2, k3, k4⟩ := boxcells5 (lay := V0) X0.out
        refine wpOp_yes rfl (by rfl) ?_
        intro K hK
        go_wp2_with fail
        rw [HJ0.out]
        exact ⟨Aw, cw, x11, x12, x13, x14, x15, x16, .agg #[.int .i64 k, .string word, .slice Aa args.length ca, .int .i64 count, .slice Ab nb cb], x18, x19, x20, x21, x22, (by simp only [List.setIfInBounds_toArray, List.set_cons_succ, List.set_cons_zero, D5]), fun h => HH.out.1 (h.back (by decide)), fun h => HH.out.2.1 (h.back (by decide)), fun h => HH.out.2.2.1 (h.back (by decide)), fun h => HH.out.2.2.2.1 (h.back (by decide)), fun h => HH.out.2.2.2.2.1 (h.back (by decide)), fun h => HH.out.2.2.2.2.2.1 (h.back (by decide)), fun _ => rfl, fun h => HH.out.2.2.2.2.2.2.2.1 (h.back (by decide)), fun h => HH.out.2.2.2.2.2.2.2.2.1 (h.back (by decide)), fun h => HH.out.2.2.2.2.2.2.2.2.2.1 (h.back (by decide)), fun h => HH.out.2.2.2.2.2.2.2.2.2.2.1 (h.back (by decide)), fun h => HH.out.2.2.2.2.2.2.2.2.2.2.2.1 (h.back (by decide)), fun h1 h2 => HH.out.2.2.2.2.2.2.2.2.2.2.2.2.1 (h1.back (by decide)) (fun h3 => h2 h3.fwd), fun h => HH.out.2.2.2.2.2.2.2.2.2.2.2.2.2.1 (fun h2 => h h2.fwd), fun h1 h2 => HH.out.2.2.2.2.2.2.2.2.2.2.2.2.2.2 (h1.back (by decide)) (fun h3 => h2 h3.fwd)⟩
      · have hns : ¬ Ls listed 11 := fun h => hnl (HCL.out.dep2 (HCL.out.dep2 h 10 (by kernel_rfl)) 7 (by kernel_rfl))
        have D5 := HH.out.2.2.2.2.2.1 (ready_dep2 hi 5 (by kernel_rfl))
        have D6 := HH.out.2.2.2.2.2.2.1 (ready_dep2 hi 6 (by kernel_rfl))
        have V0 := HH.out.2.2.2.2.2.2.2.2.2.2.2.2.2.1 hns
        clear hi HCL
        simp only [List.setIfInBounds_toArray, List.set_cons_succ, List.set_cons_zero, D5, D6]
        refine wpOp_yes rfl (by rfl) ?_
        intro K hK
        go_wp2_with fail
        refine (HVI.out W (HRA.out.below V0) (HRB.out.below V0) (HGN.out.below V0)).mono ?_
        rintro e y ⟨he, hb, hs⟩
        obtain rfl : e = .returned (.bool false) := by exact he
        go_wp2_with fail
        rw [HJ0.out]
        exact ⟨Aw, cw, x11, x12, x13, x14, x15, x16, x17, .bool false, x19, x20, x21, x22, (by simp only [List.setIfInBounds_toArray, List.set_cons_succ, List.set_cons_zero, D5, D6]), fun h => HH.out.1 (h.back (by decide)), fun h => HH.out.2.1 (h.back (by decide)), fun h => HH.out.2.2.1 (h.back (by decide)), fun h => HH.out.2.2.2.1 (h.back (by decide)), fun h => HH.out.2.2.2.2.1 (h.back (by decide)), fun h => HH.out.2.2.2.2.2.1 (h.back (by decide)), fun h => HH.out.2.2.2.2.2.2.1 (h.back (by decide)), fun _ => rfl, fun h => HH.out.2.2.2.2.2.2.2.2.1 (h.back (by decide)), fun h => HH.out.2.2.2.2.2.2.2.2.2.1 (h.back (by decide)), fun h => HH.out.2.2.2.2.2.2.2.2.2.2.1 (h.back (by decide)), fun h => absurd (h.back (by decide)) hns, fun h1 h2 => Rd.below (HH.out.2.2.2.2.2.2.2.2.2.2.2.2.1 (h1.back (by decide)) (fun h3 => h2 h3.fwd)) hb, fun h => belS (HH.out.2.2.2.2.2.2.2.2.2.2.2.2.2.1 (fun h2 => h h2.fwd)) hb, fun h1 _ => absurd (h1.back (by decide)) hns⟩
      · have hns : ¬ Ls listed 11 := fun h => hnl (HCL.out.dep2 (HCL.out.dep2 (HCL.out.dep2 h 10 (by kernel_rfl)) 9 (by kernel_rfl)) 8 (by kernel_rfl))
        have D5 := HH.out.2.2.2.2.2.1 (ready_dep2 hi 5 (by kernel_rfl))
        have V0 := HH.out.2.2.2.2.2.2.2.2.2.2.2.2.2.1 hns
        clear hi HCL
        simp only [List.setIfInBounds_toArray, List.set_cons_succ, List.set_cons_zero, D5]
        obtain ⟨k0, k1, k2, k3, k4⟩ := boxcells5 (lay := V0) X0.out
        refine wpOp_yes rfl (by rfl) ?_
        intro K hK
        go_wp2_with fail
        rw [HJ0.out]
        exact ⟨Aw, cw, x11, x12, x13, x14, x15, x16, x17, x18, .agg #[.int .i64 k, .string word, .slice Aa args.length ca, .int .i64 count, .slice Ab nb cb], x20, x21, x22, (by simp only [List.setIfInBounds_toArray, List.set_cons_succ, List.set_cons_zero, D5]), fun h => HH.out.1 (h.back (by decide)), fun h => HH.out.2.1 (h.back (by decide)), fun h => HH.out.2.2.1 (h.back (by decide)), fun h => HH.out.2.2.2.1 (h.back (by decide)), fun h => HH.out.2.2.2.2.1 (h.back (by decide)), fun h => HH.out.2.2.2.2.2.1 (h.back (by decide)), fun h => HH.out.2.2.2.2.2.2.1 (h.back (by decide)), fun h => HH.out.2.2.2.2.2.2.2.1 (h.back (by decide)), fun _ => rfl, fun h => HH.out.2.2.2.2.2.2.2.2.2.1 (h.back (by decide)), fun h => HH.out.2.2.2.2.2.2.2.2.2.2.1 (h.back (by decide)), fun h => HH.out.2.2.2.2.2.2.2.2.2.2.2.1 (h.back (by decide)), fun h1 h2 => HH.out.2.2.2.2.2.2.2.2.2.2.2.2.1 (h1.back (by decide)) (fun h3 => h2 h3.fwd), fun h => HH.out.2.2.2.2.2.2.2.2.2.2.2.2.2.1 (fun h2 => h h2.fwd), fun h1 h2 => HH.out.2.2.2.2.2.2.2.2.2.2.2.2.2.2 (h1.back (by decide)) (fun h3 => h2 h3.fwd)⟩
      · have hns : ¬ Ls listed 11 := fun h => hnl (HCL.out.dep2 (HCL.out.dep2 h 10 (by kernel_rfl)) 9 (by kernel_rfl))
        have D5 := HH.out.2.2.2.2.2.1 (ready_dep2 hi 5 (by kernel_rfl))
        have D8 := HH.out.2.2.2.2.2.2.2.2.1 (ready_dep2 hi 8 (by kernel_rfl))
        have V0 := HH.out.2.2.2.2.2.2.2.2.2.2.2.2.2.1 hns
        clear hi HCL
        simp only [List.setIfInBounds_toArray, List.set_cons_succ, List.set_cons_zero, D5, D8]
        refine wpOp_yes rfl (by rfl) ?_
        intro K hK
        go_wp2_with fail
        refine (HVS.out W (HRA.out.below V0) (HRB.out.below V0)).mono ?_
        rintro e y ⟨he, hb, hs⟩
        obtain rfl : e = .returned (.bool false) := by exact he
        go_wp2_with fail
        rw [HJ0.out]
        exact ⟨Aw, cw, x11, x12, x13, x14, x15, x16, x17, x18, x19, .bool false, x21, x22, (by simp only [List.setIfInBounds_toArray, List.set_cons_succ, List.set_cons_zero, D5, D8]), fun h => HH.out.1 (h.back (by decide)), fun h => HH.out.2.1 (h.back (by decide)), fun h => HH.out.2.2.1 (h.back (by decide)), fun h => HH.out.2.2.2.1 (h.back (by decide)), fun h => HH.out.2.2.2.2.1 (h.back (by decide)), fun h => HH.out.2.2.2.2.2.1 (h.back (by decide)), fun h => HH.out.2.2.2.2.2.2.1 (h.back (by decide)), fun h => HH.out.2.2.2.2.2.2.2.1 (h.back (by decide)), fun h => HH.out.2.2.2.2.2.2.2.2.1 (h.back (by decide)), fun _ => rfl, fun h => HH.out.2.2.2.2.2.2.2.2.2.2.1 (h.back (by decide)), fun h => absurd (h.back (by decide)) hns, fun h1 h2 => Rd.below (HH.out.2.2.2.2.2.2.2.2.2.2.2.2.1 (h1.back (by decide)) (fun h3 => h2 h3.fwd)) hb, fun h => belS (HH.out.2.2.2.2.2.2.2.2.2.2.2.2.2.1 (fun h2 => h h2.fwd)) hb, fun h1 _ => absurd (h1.back (by decide)) hns⟩
      · have D5 := HH.out.2.2.2.2.2.1 (ready_dep2 hi 5 (by kernel_rfl))
        have D7 := HH.out.2.2.2.2.2.2.2.1 (ready_dep2 hi 7 (by kernel_rfl))
        have D9 := HH.out.2.2.2.2.2.2.2.2.2.1 (ready_dep2 hi 9 (by kernel_rfl))
        clear hi HCL
        simp only [List.setIfInBounds_toArray, List.set_cons_succ, List.set_cons_zero, D5, D7, D9]
        refine wpOp_yes rfl (by rfl) ?_
        intro K hK
        go_wp2_with fail
        rw [HJ0.out]
        exact ⟨Aw, cw, x11, x12, x13, x14, x15, x16, x17, x18, x19, x20, .bool false, x22, (by simp only [List.setIfInBounds_toArray, List.set_cons_succ, List.set_cons_zero, D5, D7, D9]), fun h => HH.out.1 (h.back (by decide)), fun h => HH.out.2.1 (h.back (by decide)), fun h => HH.out.2.2.1 (h.back (by decide)), fun h => HH.out.2.2.2.1 (h.back (by decide)), fun h => HH.out.2.2.2.2.1 (h.back (by decide)), fun h => HH.out.2.2.2.2.2.1 (h.back (by decide)), fun h => HH.out.2.2.2.2.2.2.1 (h.back (by decide)), fun h => HH.out.2.2.2.2.2.2.2.1 (h.back (by decide)), fun h => HH.out.2.2.2.2.2.2.2.2.1 (h.back (by decide)), fun h => HH.out.2.2.2.2.2.2.2.2.2.1 (h.back (by decide)), fun _ => rfl, fun h => HH.out.2.2.2.2.2.2.2.2.2.2.2.1 (h.back (by decide)), fun h1 h2 => HH.out.2.2.2.2.2.2.2.2.2.2.2.2.1 (h1.back (by decide)) (fun h3 => h2 h3.fwd), fun h => HH.out.2.2.2.2.2.2.2.2.2.2.2.2.2.1 (fun h2 => h h2.fwd), fun h1 h2 => HH.out.2.2.2.2.2.2.2.2.2.2.2.2.2.2 (h1.back (by decide)) (fun h3 => h2 h3.fwd)⟩
      · have hns : ¬ Ls listed 11 := hnl
        have D5 := HH.out.2.2.2.2.2.1 (ready_dep2 hi 5 (by kernel_rfl))
        have D10 := HH.out.2.2.2.2.2.2.2.2.2.2.1 (ready_dep2 hi 10 (by kernel_rfl))
        have V0 := HH.out.2.2.2.2.2.2.2.2.2.2.2.2.2.1 hns
        clear hi HCL
        simp only [List.setIfInBounds_toArray, List.set_cons_succ, List.set_cons_zero, D5, D10]
        refine wpOp_one rfl rfl ?_
        intro K hK
        go_wp2_with fail
        rw [HJ0.out]
        exact ⟨Aw, cw, x11, x12, x13, x14, x15, x16, x17, x18, x19, x20, x21, .bool false, (by first | (simp only [List.setIfInBounds_toArray, List.set_cons_succ, List.set_cons_zero, D5, D10] <;> fail) | simp only [Act.put, List.setIfInBounds_toArray, List.set_cons_succ, List.set_cons_zero, D5, D10]), fun h => HH.out.1 (h.back (by decide)), fun h => HH.out.2.1 (h.back (by decide)), fun h => HH.out.2.2.1 (h.back (by decide)), fun h => HH.out.2.2.2.1 (h.back (by decide)), fun h => HH.out.2.2.2.2.1 (h.back (by decide)), fun h => HH.out.2.2.2.2.2.1 (h.back (by decide)), fun h => HH.out.2.2.2.2.2.2.1 (h.back (by decide)), fun h => HH.out.2.2.2.2.2.2.2.1 (h.back (by decide)), fun h => HH.out.2.2.2.2.2.2.2.2.1 (h.back (by decide)), fun h => HH.out.2.2.2.2.2.2.2.2.2.1 (h.back (by decide)), fun h => HH.out.2.2.2.2.2.2.2.2.2.2.1 (h.back (by decide)), fun _ => ⟨rfl, V0⟩, fun _ h => absurd hnow h, fun h => absurd hnow h, fun _ h => absurd hnow h⟩
    · intro listed a W hsize hJ hr
      rw [HJ0.out] at hJ
      have hall := all_listed hsize (by kernel_rfl) hr
      obtain ⟨Aw, cw, x11, x12, x13, x14, x15, x16, x17, x18, x19, x20, x21, x22, rfl, HF⟩ := hJ
      have HH := Lib.hid HF
      have HEND := HH.out.2.2.2.2.2.2.2.2.2.2.2.1 (hall 11 (by decide))
      clear HF HH hall hr hsize
      simp only [List.setIfInBounds_toArray, List.set_cons_succ, List.set_cons_zero]
      obtain ⟨rfl, hbF⟩ := HEND
      have HBF := Lib.hid hbF
      clear hbF
      obtain ⟨w4, rfl⟩ : ∃ w4 : World, w4 = W := ⟨_, rfl⟩
      go_upto_region 7 with (fail)
      obtain ⟨k0, k1, k2, k3, k4⟩ := boxcells5 (lay := HBF.out) X0.out
      go_wp2_with fail
      refine (HVS.out w4 (HRA.out.below HBF.out) (HRB.out.below HBF.out)).mono ?_
      rintro e w5 ⟨rfl, b5, s5⟩
      have HBG := Lib.hid (belS HBF.out b5)
      clear k0 k1 k2 k3 k4 b5
      obtain rfl : tn = 0 := HT0.out
      go_wp2_with fail
      go_ret
      exact ⟨rfl, HB1.out.trans (HBG.out.mono (by omega))⟩
  · have hT0 : T.length = tokT 6 [mkT (d := 5) ⟨k, word, args, count⟩ bd] := by rw [HT.out, hv, stToks_t]; exact stToks_count hv
    have HTT : Hid (tn = tokT 6 [mkT (d := 5) ⟨k, word, args, count⟩ bd]) := HTN.out.symm.trans hT0
    rw [hv] at HVI HVS
    clear hv hT0 HT
    go_upto_region 5 with (fail)
    obtain ⟨J0, hJ0⟩ : ∃ J : Array Value → Array Bool → Act → World → Prop, J = (fun A0 listed a W => ∃ (Aw : Option Addr) (cw : Nat), ∃ x11 x12 x13 x14 x15 x16 x17 x18 x19 x20 x21 x22 : Value, a = ⟨((((((((((((A0.setIfInBounds 11 x11).setIfInBounds 12 x12).setIfInBounds 13 x13).setIfInBounds 14 x14).setIfInBounds 15 x15).setIfInBounds 16 x16).setIfInBounds 17 x17).setIfInBounds 18 x18).setIfInBounds 19 x19).setIfInBounds 20 x20).setIfInBounds 21 x21).setIfInBounds 22 x22), []⟩ ∧ (Ls listed 0 → x11 = .slice Ag tn cg) ∧ (Ls listed 1 → x12 = .agg #[.int .i64 k, .string word, .slice Aa args.length ca, .int .i64 count, .slice Ab nb cb]) ∧ (Ls listed 2 → x13 = .slice Aw tn cw) ∧ (Ls listed 3 → x14 = .bool true) ∧ (Ls listed 4 → x15 = .bool false) ∧ (Ls listed 5 → x16 = .bool false) ∧ (Ls listed 6 → x17 = .agg #[.int .i64 k, .string word, .slice Aa args.length ca, .int .i64 count, .slice Ab nb cb]) ∧ (Ls listed 7 → x18 = .bool true) ∧ (Ls listed 8 → x19 = .agg #[.int .i64 k, .string word, .slice Aa args.length ca, .int .i64 count, .slice Ab nb cb]) ∧ (Ls listed 9 → x20 = .bool true) ∧ (Ls listed 10 → x21 = .bool false) ∧ (Ls listed 11 → x22 = .bool false ∧ Below w3.heap.size w3 W) ∧ (Ls listed 2 → ¬ Ls listed 11 → Rd W 2 Aw tn (tkcs T)) ∧ (¬ Ls listed 11 → Below w3.heap.size w3 W) ∧ (Ls listed 11 → ¬ Ls listed 11 → True)) := ⟨_, rfl⟩
    have HJ0 := Lib.hid hJ0
    clear hJ0
    refine wp_region_inv2 (by kernel_rfl) J0 ?_ ?_ ?_
    · intro A0
      rw [HJ0.out]
      exact ⟨none, 0, A0.getD 11 undef, A0.getD 12 undef, A0.getD 13 undef, A0.getD 14 undef, A0.getD 15 undef, A0.getD 16 undef, A0.getD 17 undef, A0.getD 18 undef, A0.getD 19 undef, A0.getD 20 undef, A0.getD 21 undef, A0.getD 22 undef, by simp only [set_self], fun h => h.none, fun h => h.none, fun h => h.none, fun h => h.none, fun h => h.none, fun h => h.none, fun h => h.none, fun h => h.none, fun h => h.none, fun h => h.none, fun h => h.none, fun h => h.none, fun h => h.none, fun _ => below_drewS (Below.refl _ _), fun h => h.none⟩
    · intro listed a W hsize hcl hJ i hi
      have hil := ready_lt hi
      have hnl := ready_not hi
      have hnow := ready_now hi hsize
      have HCL := Lib.hid hcl
      rw [HJ0.out] at hJ
      obtain ⟨Aw, cw, x11, x12, x13, x14, x15, x16, x17, x18, x19, x20, x21, x22, rfl, HF⟩ := hJ
      have HH := Lib.hid HF
      have hi2 : i = 0 ∨ i = 1 ∨ i = 2 ∨ i = 3 ∨ i = 4 ∨ i = 5 ∨ i = 6 ∨ i = 7 ∨ i = 8 ∨ i = 9 ∨ i = 10 ∨ i = 11 := by simp at hil; omega
      clear hil hcl HF
      rcases hi2 with rfl | rfl | rfl | rfl | rfl | rfl | rfl | rfl | rfl | rfl | rfl | rfl
      · clear hi HCL
        simp only [List.setIfInBounds_toArray, List.set_cons_succ, List.set_cons_zero]
        refine wpOp_one rfl rfl ?_
        intro K hK
        go_wp2_with fail
        rw [HJ0.out]
        exact ⟨Aw, cw, .slice Ag tn cg, x12, x13, x14, x15, x16, x17, x18, x19, x20, x21, x22, (by simp only [List.setIfInBounds_toArray, List.set_cons_succ, List.set_cons_zero]), fun _ => rfl, fun h => HH.out.2.1 (h.back (by decide)), fun h => HH.out.2.2.1 (h.back (by decide)), fun h => HH.out.2.2.2.1 (h.back (by decide)), fun h => HH.out.2.2.2.2.1 (h.back (by decide)), fun h => HH.out.2.2.2.2.2.1 (h.back (by decide)), fun h => HH.out.2.2.2.2.2.2.1 (h.back (by decide)), fun h => HH.out.2.2.2.2.2.2.2.1 (h.back (by decide)), fun h => HH.out.2.2.2.2.2.2.2.2.1 (h.back (by decide)), fun h => HH.out.2.2.2.2.2.2.2.2.2.1 (h.back (by decide)), fun h => HH.out.2.2.2.2.2.2.2.2.2.2.1 (h.back (by decide)), fun h => HH.out.2.2.2.2.2.2.2.2.2.2.2.1 (h.back (by decide)), fun h1 h2 => HH.out.2.2.2.2.2.2.2.2.2.2.2.2.1 (h1.back (by decide)) (fun h3 => h2 h3.fwd), fun h => HH.out.2.2.2.2.2.2.2.2.2.2.2.2.2.1 (fun h2 => h h2.fwd), fun h1 h2 => HH.out.2.2.2.2.2.2.2.2.2.2.2.2.2.2 (h1.back (by decide)) (fun h3 => h2 h3.fwd)⟩
      · have hns : ¬ Ls listed 11 := fun h => hnl (HCL.out.dep2 (HCL.out.dep2 (HCL.out.dep2 (HCL.out.dep2 (HCL.out.dep2 h 5 (by kernel_rfl)) 4 (by kernel_rfl)) 3 (by kernel_rfl)) 2 (by kernel_rfl)) 1 (by kernel_rfl))
        have V0 := HH.out.2.2.2.2.2.2.2.2.2.2.2.2.2.1 hns
        clear hi HCL
        simp only [List.setIfInBounds_toArray, List.set_cons_succ, List.set_cons_zero]
        obtain ⟨k0, k1, k2, k3, k4⟩ := boxcells5 (lay := V0) X0.out
        refine wpOp_one rfl rfl ?_
        intro K hK
        go_wp2_with fail
        rw [HJ0.out]
        exact ⟨Aw, cw, x11, .agg #[.int .i64 k, .string word, .slice Aa args.length ca, .int .i64 count, .slice Ab nb cb], x13, x14, x15, x16, x17, x18, x19, x20, x21, x22, (by simp only [List.setIfInBounds_toArray, List.set_cons_succ, List.set_cons_zero]), fun h => HH.out.1 (h.back (by decide)), fun _ => rfl, fun h => HH.out.2.2.1 (h.back (by decide)), fun h => HH.out.2.2.2.1 (h.back (by decide)), fun h => HH.out.2.2.2.2.1 (h.back (by decide)), fun h => HH.out.2.2.2.2.2.1 (h.back (by decide)), fun h => HH.out.2.2.2.2.2.2.1 (h.back (by decide)), fun h => HH.out.2.2.2.2.2.2.2.1 (h.back (by decide)), fun h => HH.out.2.2.2.2.2.2.2.2.1 (h.back (by decide)), fun h => HH.out.2.2.2.2.2.2.2.2.2.1 (h.back (by decide)), fun h => HH.out.2.2.2.2.2.2.2.2.2.2.1 (h.back (by decide)), fun h => HH.out.2.2.2.2.2.2.2.2.2.2.2.1 (h.back (by decide)), fun h1 h2 => HH.out.2.2.2.2.2.2.2.2.2.2.2.2.1 (h1.back (by decide)) (fun h3 => h2 h3.fwd), fun h => HH.out.2.2.2.2.2.2.2.2.2.2.2.2.2.1 (fun h2 => h h2.fwd), fun h1 h2 => HH.out.2.2.2.2.2.2.2.2.2.2.2.2.2.2 (h1.back (by decide)) (fun h3 => h2 h3.fwd)⟩
      · have hns : ¬ Ls listed 11 := fun h => hnl (HCL.out.dep2 (HCL.out.dep2 (HCL.out.dep2 (HCL.out.dep2 h 5 (by kernel_rfl)) 4 (by kernel_rfl)) 3 (by kernel_rfl)) 2 (by kernel_rfl))
        have D1 := HH.out.2.1 (ready_dep2 hi 1 (by kernel_rfl))
        have V0 := HH.out.2.2.2.2.2.2.2.2.2.2.2.2.2.1 hns
        clear hi HCL
        simp only [List.setIfInBounds_toArray, List.set_cons_succ, List.set_cons_zero, D1]
        refine wpOp_one rfl rfl ?_
        intro K hK
        go_wp2_with fail
        refine (HCS.out W (HRA.out.below V0) (HRB.out.below V0)).mono ?_
        rintro e y ⟨v7, rfl, ow, hb, hs⟩
        rw [HTN.out] at ow
        obtain ⟨A7, c7, rfl, _, _, hr⟩ := rd_of_own ow
        go_wp2_with fail
        rw [HJ0.out]
        exact ⟨A7, c7, x11, x12, .slice A7 tn c7, x14, x15, x16, x17, x18, x19, x20, x21, x22, (by simp only [List.setIfInBounds_toArray, List.set_cons_succ, List.set_cons_zero, D1]), fun h => HH.out.1 (h.back (by decide)), fun h => HH.out.2.1 (h.back (by decide)), fun _ => rfl, fun h => HH.out.2.2.2.1 (h.back (by decide)), fun h => HH.out.2.2.2.2.1 (h.back (by decide)), fun h => HH.out.2.2.2.2.2.1 (h.back (by decide)), fun h => HH.out.2.2.2.2.2.2.1 (h.back (by decide)), fun h => HH.out.2.2.2.2.2.2.2.1 (h.back (by decide)), fun h => HH.out.2.2.2.2.2.2.2.2.1 (h.back (by decide)), fun h => HH.out.2.2.2.2.2.2.2.2.2.1 (h.back (by decide)), fun h => HH.out.2.2.2.2.2.2.2.2.2.2.1 (h.back (by decide)), fun h => absurd (h.back (by decide)) hns, fun _ _ => hr, fun h => belS (HH.out.2.2.2.2.2.2.2.2.2.2.2.2.2.1 (fun h2 => h h2.fwd)) hb, fun h1 _ => absurd (h1.back (by decide)) hns⟩
      · have hns : ¬ Ls listed 11 := fun h => hnl (HCL.out.dep2 (HCL.out.dep2 (HCL.out.dep2 h 5 (by kernel_rfl)) 4 (by kernel_rfl)) 3 (by kernel_rfl))
        have D0 := HH.out.1 (ready_dep2 hi 0 (by kernel_rfl))
        have D2 := HH.out.2.2.1 (ready_dep2 hi 2 (by kernel_rfl))
        have E2 := HH.out.2.2.2.2.2.2.2.2.2.2.2.2.1 (ready_dep2 hi 2 (by kernel_rfl)) hns
        have V0 := HH.out.2.2.2.2.2.2.2.2.2.2.2.2.2.1 hns
        clear hi HCL
        simp only [List.setIfInBounds_toArray, List.set_cons_succ, List.set_cons_zero, D0, D2]
        refine wpOp_one rfl rfl ?_
        intro K hK
        go_wp2_with fail
        refine (sameTokens_same _ _ tn _ _ T W HTN.out (by omega) (HTG.out.below V0) E2).mono ?_
        rintro e y ⟨he, hb, hs⟩
        obtain rfl : e = .returned (.bool true) := by exact he
        go_wp2_with fail
        rw [HJ0.out]
        exact ⟨Aw, cw, x11, x12, x13, .bool true, x15, x16, x17, x18, x19, x20, x21, x22, (by simp only [List.setIfInBounds_toArray, List.set_cons_succ, List.set_cons_zero, D0, D2]), fun h => HH.out.1 (h.back (by decide)), fun h => HH.out.2.1 (h.back (by decide)), fun h => HH.out.2.2.1 (h.back (by decide)), fun _ => rfl, fun h => HH.out.2.2.2.2.1 (h.back (by decide)), fun h => HH.out.2.2.2.2.2.1 (h.back (by decide)), fun h => HH.out.2.2.2.2.2.2.1 (h.back (by decide)), fun h => HH.out.2.2.2.2.2.2.2.1 (h.back (by decide)), fun h => HH.out.2.2.2.2.2.2.2.2.1 (h.back (by decide)), fun h => HH.out.2.2.2.2.2.2.2.2.2.1 (h.back (by decide)), fun h => HH.out.2.2.2.2.2.2.2.2.2.2.1 (h.back (by decide)), fun h => absurd (h.back (by decide)) hns, fun h1 h2 => Rd.below (HH.out.2.2.2.2.2.2.2.2.2.2.2.2.1 (h1.back (by decide)) (fun h3 => h2 h3.fwd)) hb, fun h => belS (HH.out.2.2.2.2.2.2.2.2.2.2.2.2.2.1 (fun h2 => h h2.fwd)) hb, fun h1 _ => absurd (h1.back (by decide)) hns⟩
      · have D3 := HH.out.2.2.2.1 (ready_dep2 hi 3 (by kernel_rfl))
        clear hi HCL
        simp only [List.setIfInBounds_toArray, List.set_cons_succ, List.set_cons_zero, D3]
        refine wpOp_one rfl rfl ?_
        intro K hK
        go_wp2_with fail
        rw [HJ0.out]
        exact ⟨Aw, cw, x11, x12, x13, x14, .bool false, x16, x17, x18, x19, x20, x21, x22, (by simp only [List.setIfInBounds_toArray, List.set_cons_succ, List.set_cons_zero, D3]), fun h => HH.out.1 (h.back (by decide)), fun h => HH.out.2.1 (h.back (by decide)), fun h => HH.out.2.2.1 (h.back (by decide)), fun h => HH.out.2.2.2.1 (h.back (by decide)), fun _ => rfl, fun h => HH.out.2.2.2.2.2.1 (h.back (by decide)), fun h => HH.out.2.2.2.2.2.2.1 (h.back (by decide)), fun h => HH.out.2.2.2.2.2.2.2.1 (h.back (by decide)), fun h => HH.out.2.2.2.2.2.2.2.2.1 (h.back (by decide)), fun h => HH.out.2.2.2.2.2.2.2.2.2.1 (h.back (by decide)), fun h => HH.out.2.2.2.2.2.2.2.2.2.2.1 (h.back (by decide)), fun h => HH.out.2.2.2.2.2.2.2.2.2.2.2.1 (h.back (by decide)), fun h1 h2 => HH.out.2.2.2.2.2.2.2.2.2.2.2.2.1 (h1.back (by decide)) (fun h3 => h2 h3.fwd), fun h => HH.out.2.2.2.2.2.2.2.2.2.2.2.2.2.1 (fun h2 => h h2.fwd), fun h1 h2 => HH.out.2.2.2.2.2.2.2.2.2.2.2.2.2.2 (h1.back (by decide)) (fun h3 => h2 h3.fwd)⟩
      · have D4 := HH.out.2.2.2.2.1 (ready_dep2 hi 4 (by kernel_rfl))
        clear hi HCL
        simp only [List.setIfInBounds_toArray, List.set_cons_succ, List.set_cons_zero, D4]
        refine wpOp_one rfl rfl ?_
        intro K hK
        go_wp2_with fail
        rw [HJ0.out]
        exact ⟨Aw, cw, x11, x12, x13, x14, x15, .bool false, x17, x18, x19, x20, x21, x22, (by simp only [List.setIfInBounds_toArray, List.set_cons_succ, List.set_cons_zero, D4]), fun h => HH.out.1 (h.back (by decide)), fun h => HH.out.2.1 (h.back (by decide)), fun h => HH.out.2.2.1 (h.back (by decide)), fun h => HH.out.2.2.2.1 (h.back (by decide)), fun h => HH.out.2.2.2.2.1 (h.back (by decide)), fun _ => rfl, fun h => HH.out.2.2.2.2.2.2.1 (h.back (by decide)), fun h => HH.out.2.2.2.2.2.2.2.1 (h.back (by decide)), fun h => HH.out.2.2.2.2.2.2.2.2.1 (h.back (by decide)), fun h => HH.out.2.2.2.2.2.2.2.2.2.1 (h.back (by decide)), fun h => HH.out.2.2.2.2.2.2.2.2.2.2.1 (h.back (by decide)), fun h => HH.out.2.2.2.2.2.2.2.2.2.2.2.1 (h.back (by decide)), fun h1 h2 => HH.out.2.2.2.2.2.2.2.2.2.2.2.2.1 (h1.back (by decide)) (fun h3 => h2 h3.fwd), fun h => HH.out.2.2.2.2.2.2.2.2.2.2.2.2.2.1 (fun h2 => h h2.fwd), fun h1 h2 => HH.out.2.2.2.2.2.2.2.2.2.2.2.2.2.2 (h1.back (by decide)) (fun h3 => h2 h3.fwd)⟩
      · have hns : ¬ Ls listed 11 := fun h => hnl (HCL.out.dep2 (HCL.out.dep2 (HCL.out.dep2 h 10 (by kernel_rfl)) 7 (by kernel_rfl)) 6 (by kernel_rfl))
        have D5 := HH.out.2.2.2.2.2.1 (ready_dep2 hi 5 (by kernel_rfl))
        have V0 := HH.out.2.2.2.2.2.2.2.2.2.2.2.2.2.1 hns
        clear hi HCL
        simp only [List.setIfInBounds_toArray, List.set_cons_succ, List.set_cons_zero, D5]
        obtain ⟨k0, k1, k2, k3, k4⟩ := boxcells5 (lay := V0) X0.out
        refine wpOp_yes rfl (by rfl) ?_
        intro K hK
        go_wp2_with fail
        rw [HJ0.out]
        exact ⟨Aw, cw, x11, x12, x13, x14, x15, x16, .agg #[.int .i64 k, .string word, .slice Aa args.length ca, .int .i64 count, .slice Ab nb cb], x18, x19, x20, x21, x22, (by simp only [List.setIfInBounds_toArray, List.set_cons_succ, List.set_cons_zero, D5]), fun h => HH.out.1 (h.back (by decide)), fun h => HH.out.2.1 (h.back (by decide)), fun h => HH.out.2.2.1 (h.back (by decide)), fun h => HH.out.2.2.2.1 (h.back (by decide)), fun h => HH.out.2.2.2.2.1 (h.back (by decide)), fun h => HH.out.2.2.2.2.2.1 (h.back (by decide)), fun _ => rfl, fun h => HH.out.2.2.2.2.2.2.2.1 (h.back (by decide)), fun h => HH.out.2.2.2.2.2.2.2.2.1 (h.back (by decide)), fun h => HH.out.2.2.2.2.2.2.2.2.2.1 (h.back (by decide)), fun h => HH.out.2.2.2.2.2.2.2.2.2.2.1 (h.back (by decide)), fun h => HH.out.2.2.2.2.2.2.2.2.2.2.2.1 (h.back (by decide)), fun h1 h2 => HH.out.2.2.2.2.2.2.2.2.2.2.2.2.1 (h1.back (by decide)) (fun h3 => h2 h3.fwd), fun h => HH.out.2.2.2.2.2.2.2.2.2.2.2.2.2.1 (fun h2 => h h2.fwd), fun h1 h2 => HH.out.2.2.2.2.2.2.2.2.2.2.2.2.2.2 (h1.back (by decide)) (fun h3 => h2 h3.fwd)⟩
      · have hns : ¬ Ls listed 11 := fun h => hnl (HCL.out.dep2 (HCL.out.dep2 h 10 (by kernel_rfl)) 7 (by kernel_rfl))
        have D5 := HH.out.2.2.2.2.2.1 (ready_dep2 hi 5 (by kernel_rfl))
        have D6 := HH.out.2.2.2.2.2.2.1 (ready_dep2 hi 6 (by kernel_rfl))
        have V0 := HH.out.2.2.2.2.2.2.2.2.2.2.2.2.2.1 hns
        clear hi HCL
        simp only [List.setIfInBounds_toArray, List.set_cons_succ, List.set_cons_zero, D5, D6]
        refine wpOp_yes rfl (by rfl) ?_
        intro K hK
        go_wp2_with fail
        refine (HVI.out W (HRA.out.below V0) (HRB.out.below V0) (HGN.out.below V0)).mono ?_
        rintro e y ⟨he, hb, hs⟩
        obtain rfl : e = .returned (.bool true) := by exact he
        go_wp2_with fail
        rw [HJ0.out]
        exact ⟨Aw, cw, x11, x12, x13, x14, x15, x16, x17, .bool true, x19, x20, x21, x22, (by simp only [List.setIfInBounds_toArray, List.set_cons_succ, List.set_cons_zero, D5, D6]), fun h => HH.out.1 (h.back (by decide)), fun h => HH.out.2.1 (h.back (by decide)), fun h => HH.out.2.2.1 (h.back (by decide)), fun h => HH.out.2.2.2.1 (h.back (by decide)), fun h => HH.out.2.2.2.2.1 (h.back (by decide)), fun h => HH.out.2.2.2.2.2.1 (h.back (by decide)), fun h => HH.out.2.2.2.2.2.2.1 (h.back (by decide)), fun _ => rfl, fun h => HH.out.2.2.2.2.2.2.2.2.1 (h.back (by decide)), fun h => HH.out.2.2.2.2.2.2.2.2.2.1 (h.back (by decide)), fun h => HH.out.2.2.2.2.2.2.2.2.2.2.1 (h.back (by decide)), fun h => absurd (h.back (by decide)) hns, fun h1 h2 => Rd.below (HH.out.2.2.2.2.2.2.2.2.2.2.2.2.1 (h1.back (by decide)) (fun h3 => h2 h3.fwd)) hb, fun h => belS (HH.out.2.2.2.2.2.2.2.2.2.2.2.2.2.1 (fun h2 => h h2.fwd)) hb, fun h1 _ => absurd (h1.back (by decide)) hns⟩
      · have hns : ¬ Ls listed 11 := fun h => hnl (HCL.out.dep2 (HCL.out.dep2 (HCL.out.dep2 h 10 (by kernel_rfl)) 9 (by kernel_rfl)) 8 (by kernel_rfl))
        have D5 := HH.out.2.2.2.2.2.1 (ready_dep2 hi 5 (by kernel_rfl))
        have V0 := HH.out.2.2.2.2.2.2.2.2.2.2.2.2.2.1 hns
        clear hi HCL
        simp only [List.setIfInBounds_toArray, List.set_cons_succ, List.set_cons_zero, D5]
        obtain ⟨k0, k1, k2, k3, k4⟩ := boxcells5 (lay := V0) X0.out
        refine wpOp_yes rfl (by rfl) ?_
        intro K hK
        go_wp2_with fail
        rw [HJ0.out]
        exact ⟨Aw, cw, x11, x12, x13, x14, x15, x16, x17, x18, .agg #[.int .i64 k, .string word, .slice Aa args.length ca, .int .i64 count, .slice Ab nb cb], x20, x21, x22, (by simp only [List.setIfInBounds_toArray, List.set_cons_succ, List.set_cons_zero, D5]), fun h => HH.out.1 (h.back (by decide)), fun h => HH.out.2.1 (h.back (by decide)), fun h => HH.out.2.2.1 (h.back (by decide)), fun h => HH.out.2.2.2.1 (h.back (by decide)), fun h => HH.out.2.2.2.2.1 (h.back (by decide)), fun h => HH.out.2.2.2.2.2.1 (h.back (by decide)), fun h => HH.out.2.2.2.2.2.2.1 (h.back (by decide)), fun h => HH.out.2.2.2.2.2.2.2.1 (h.back (by decide)), fun _ => rfl, fun h => HH.out.2.2.2.2.2.2.2.2.2.1 (h.back (by decide)), fun h => HH.out.2.2.2.2.2.2.2.2.2.2.1 (h.back (by decide)), fun h => HH.out.2.2.2.2.2.2.2.2.2.2.2.1 (h.back (by decide)), fun h1 h2 => HH.out.2.2.2.2.2.2.2.2.2.2.2.2.1 (h1.back (by decide)) (fun h3 => h2 h3.fwd), fun h => HH.out.2.2.2.2.2.2.2.2.2.2.2.2.2.1 (fun h2 => h h2.fwd), fun h1 h2 => HH.out.2.2.2.2.2.2.2.2.2.2.2.2.2.2 (h1.back (by decide)) (fun h3 => h2 h3.fwd)⟩
      · have hns : ¬ Ls listed 11 := fun h => hnl (HCL.out.dep2 (HCL.out.dep2 h 10 (by kernel_rfl)) 9 (by kernel_rfl))
        have D5 := HH.out.2.2.2.2.2.1 (ready_dep2 hi 5 (by kernel_rfl))
        have D8 := HH.out.2.2.2.2.2.2.2.2.1 (ready_dep2 hi 8 (by kernel_rfl))
        have V0 := HH.out.2.2.2.2.2.2.2.2.2.2.2.2.2.1 hns
        clear hi HCL
        simp only [List.setIfInBounds_toArray, List.set_cons_succ, List.set_cons_zero, D5, D8]
        refine wpOp_yes rfl (by rfl) ?_
        intro K hK
        go_wp2_with fail
        refine (HVS.out W (HRA.out.below V0) (HRB.out.below V0)).mono ?_
        rintro e y ⟨he, hb, hs⟩
        obtain rfl : e = .returned (.bool true) := by exact he
        go_wp2_with fail
        rw [HJ0.out]
        exact ⟨Aw, cw, x11, x12, x13, x14, x15, x16, x17, x18, x19, .bool true, x21, x22, (by simp only [List.setIfInBounds_toArray, List.set_cons_succ, List.set_cons_zero, D5, D8]), fun h => HH.out.1 (h.back (by decide)), fun h => HH.out.2.1 (h.back (by decide)), fun h => HH.out.2.2.1 (h.back (by decide)), fun h => HH.out.2.2.2.1 (h.back (by decide)), fun h => HH.out.2.2.2.2.1 (h.back (by decide)), fun h => HH.out.2.2.2.2.2.1 (h.back (by decide)), fun h => HH.out.2.2.2.2.2.2.1 (h.back (by decide)), fun h => HH.out.2.2.2.2.2.2.2.1 (h.back (by decide)), fun h => HH.out.2.2.2.2.2.2.2.2.1 (h.back (by decide)), fun _ => rfl, fun h => HH.out.2.2.2.2.2.2.2.2.2.2.1 (h.back (by decide)), fun h => absurd (h.back (by decide)) hns, fun h1 h2 => Rd.below (HH.out.2.2.2.2.2.2.2.2.2.2.2.2.1 (h1.back (by decide)) (fun h3 => h2 h3.fwd)) hb, fun h => belS (HH.out.2.2.2.2.2.2.2.2.2.2.2.2.2.1 (fun h2 => h h2.fwd)) hb, fun h1 _ => absurd (h1.back (by decide)) hns⟩
      · have D5 := HH.out.2.2.2.2.2.1 (ready_dep2 hi 5 (by kernel_rfl))
        have D7 := HH.out.2.2.2.2.2.2.2.1 (ready_dep2 hi 7 (by kernel_rfl))
        have D9 := HH.out.2.2.2.2.2.2.2.2.2.1 (ready_dep2 hi 9 (by kernel_rfl))
        clear hi HCL
        simp only [List.setIfInBounds_toArray, List.set_cons_succ, List.set_cons_zero, D5, D7, D9]
        refine wpOp_yes rfl (by rfl) ?_
        intro K hK
        go_wp2_with fail
        rw [HJ0.out]
        exact ⟨Aw, cw, x11, x12, x13, x14, x15, x16, x17, x18, x19, x20, .bool false, x22, (by simp only [List.setIfInBounds_toArray, List.set_cons_succ, List.set_cons_zero, D5, D7, D9]), fun h => HH.out.1 (h.back (by decide)), fun h => HH.out.2.1 (h.back (by decide)), fun h => HH.out.2.2.1 (h.back (by decide)), fun h => HH.out.2.2.2.1 (h.back (by decide)), fun h => HH.out.2.2.2.2.1 (h.back (by decide)), fun h => HH.out.2.2.2.2.2.1 (h.back (by decide)), fun h => HH.out.2.2.2.2.2.2.1 (h.back (by decide)), fun h => HH.out.2.2.2.2.2.2.2.1 (h.back (by decide)), fun h => HH.out.2.2.2.2.2.2.2.2.1 (h.back (by decide)), fun h => HH.out.2.2.2.2.2.2.2.2.2.1 (h.back (by decide)), fun _ => rfl, fun h => HH.out.2.2.2.2.2.2.2.2.2.2.2.1 (h.back (by decide)), fun h1 h2 => HH.out.2.2.2.2.2.2.2.2.2.2.2.2.1 (h1.back (by decide)) (fun h3 => h2 h3.fwd), fun h => HH.out.2.2.2.2.2.2.2.2.2.2.2.2.2.1 (fun h2 => h h2.fwd), fun h1 h2 => HH.out.2.2.2.2.2.2.2.2.2.2.2.2.2.2 (h1.back (by decide)) (fun h3 => h2 h3.fwd)⟩
      · have hns : ¬ Ls listed 11 := hnl
        have D5 := HH.out.2.2.2.2.2.1 (ready_dep2 hi 5 (by kernel_rfl))
        have D10 := HH.out.2.2.2.2.2.2.2.2.2.2.1 (ready_dep2 hi 10 (by kernel_rfl))
        have V0 := HH.out.2.2.2.2.2.2.2.2.2.2.2.2.2.1 hns
        clear hi HCL
        simp only [List.setIfInBounds_toArray, List.set_cons_succ, List.set_cons_zero, D5, D10]
        refine wpOp_one rfl rfl ?_
        intro K hK
        go_wp2_with fail
        rw [HJ0.out]
        exact ⟨Aw, cw, x11, x12, x13, x14, x15, x16, x17, x18, x19, x20, x21, .bool false, (by first | (simp only [List.setIfInBounds_toArray, List.set_cons_succ, List.set_cons_zero, D5, D10] <;> fail) | simp only [Act.put, List.setIfInBounds_toArray, List.set_cons_succ, List.set_cons_zero, D5, D10]), fun h => HH.out.1 (h.back (by decide)), fun h => HH.out.2.1 (h.back (by decide)), fun h => HH.out.2.2.1 (h.back (by decide)), fun h => HH.out.2.2.2.1 (h.back (by decide)), fun h => HH.out.2.2.2.2.1 (h.back (by decide)), fun h => HH.out.2.2.2.2.2.1 (h.back (by decide)), fun h => HH.out.2.2.2.2.2.2.1 (h.back (by decide)), fun h => HH.out.2.2.2.2.2.2.2.1 (h.back (by decide)), fun h => HH.out.2.2.2.2.2.2.2.2.1 (h.back (by decide)), fun h => HH.out.2.2.2.2.2.2.2.2.2.1 (h.back (by decide)), fun h => HH.out.2.2.2.2.2.2.2.2.2.2.1 (h.back (by decide)), fun _ => ⟨rfl, V0⟩, fun _ h => absurd hnow h, fun h => absurd hnow h, fun _ h => absurd hnow h⟩
    · intro listed a W hsize hJ hr
      rw [HJ0.out] at hJ
      have hall := all_listed hsize (by kernel_rfl) hr
      obtain ⟨Aw, cw, x11, x12, x13, x14, x15, x16, x17, x18, x19, x20, x21, x22, rfl, HF⟩ := hJ
      have HH := Lib.hid HF
      have HEND := HH.out.2.2.2.2.2.2.2.2.2.2.2.1 (hall 11 (by decide))
      clear HF HH hall hr hsize
      simp only [List.setIfInBounds_toArray, List.set_cons_succ, List.set_cons_zero]
      obtain ⟨rfl, hbF⟩ := HEND
      have HBF := Lib.hid hbF
      clear hbF
      obtain ⟨w4, rfl⟩ : ∃ w4 : World, w4 = W := ⟨_, rfl⟩
      go_upto_region 7 with (fail)
      obtain ⟨k0, k1, k2, k3, k4⟩ := boxcells5 (lay := HBF.out) X0.out
      go_wp2_with fail
      refine (HVS.out w4 (HRA.out.below HBF.out) (HRB.out.below HBF.out)).mono ?_
      rintro e w5 ⟨rfl, b5, s5⟩
      have HBG := Lib.hid (belS HBF.out b5)
      clear k0 k1 k2 k3 k4 b5
      obtain ⟨k0, k1, k2, k3, k4⟩ := boxcells5 (lay := HBG.out) X0.out
      go_wp2_with fail
      refine (HVS.out w5 (HRA.out.below HBG.out) (HRB.out.below HBG.out)).mono ?_
      rintro e w6 ⟨rfl, b6, s6⟩
      have HBH := Lib.hid (belS HBG.out b6)
      clear k0 k1 k2 k3 k4 b6
      obtain ⟨k0, k1, k2, k3, k4⟩ := boxcells5 (lay := HBH.out) X0.out
      go_wp2_with fail
      obtain ⟨w7, hw7⟩ : ∃ w7, w7 = w6.alloc (.cells #[.int .i64 k, .string word, .slice Aa args.length ca, .int .i64 count, .slice Ab nb cb] 27) := ⟨_, rfl⟩
      rw [← hw7]
      have b7 : Below w6.heap.size w6 w7 := by rw [hw7]; exact (by repeat (first | exact Below.refl _ _ | assumption | (refine Below.trans ?_ (Below.mono (by assumption) (by first | omega | (simp; done) | (simp; omega)))) | (with_reducible refine Below.drew ?_) | (with_reducible refine Below.alloc ?_ (by first | omega | (simp; done) | (simp; omega)) _) | (with_reducible refine Below.setCell ?_ (by first | omega | (simp; done) | (simp; omega)) _)))
      have HBI := Lib.hid (belS HBH.out b7)
      have x7 : w7.heap[w6.heap.size]? = some (.cells #[.int .i64 k, .string word, .slice Aa args.length ca, .int .i64 count, .slice Ab nb cb] 27 (0, 0)) := by rw [hw7]; exact boxed1_0 _ _
      have ROne := Lib.hid (rdT_one (w := w6) x7 (HRA.out.below HBI.out) (HRB.out.below HBI.out) hca (Nat.zero_le _))
      have hsz6 : szT 6 [mkT (d := 5) ⟨k, word, args, count⟩ bd] ≤ 1048576 := by
        rw [szT_one, szE_mk]
        show 1 + (word.size + (args.length + szS args + szT 5 bd)) ≤ _
        omega
      clear hw7 b7 x7 k0 k1 k2 k3 k4
      refine (StmtTokenCount_spec 6 0 _ 1 _ _ w7 ROne.out hsz6).mono ?_
      rintro e w8 ⟨rfl, b8, s8⟩
      rw [← HTT.out]
      have HBJ := Lib.hid (belS HBI.out b8)
      clear b8
      go_wp2_with fail
      go_ret
      exact ⟨rfl, HB1.out.trans (HBJ.out.mono (by omega))⟩
set_option maxRecDepth 100000 in
theorem door_fnStmtTokens (os : Os) (args : Array Value) : laidMetH Tryd.prog Rows.fnStmtTokensRow.laid ((World.doorLaid Tryd.prog 4000 os).forCall (fun _ _ => 0) ⟨#[], args, []⟩).memory :=
  laidMetH_of_parts3 (fuel := 10) (laidMet_of_run' 10 (by kernel_rfl) (by kernel_rfl)) (by kernel_rfl) (by kernel_rfl)
set_option maxRecDepth 100000 in
theorem lifted_fnStmtTokens (os : Os) (started : os.Started) (H : Type) (enc : TypeId × Value → H) :
    ReturnsInHanded {} Tryd.checked os 3 .any (fun w args => (Rows.fnStmtTokensSpec.pre enc Tryd.prog Tryd.f3 [] false w args ∧ laidMetH Tryd.prog Rows.fnStmtTokensRow.laid w) ∧ sizedMet enc Tryd.prog Tryd.f3 (OpenSpec.ofChange Rows.fnStmtTokensSpec) false w args)
      (Rows.fnStmtTokensSpec.post enc Tryd.prog Tryd.f3 false true false false) := by
  refine returnsInHanded_of_change_and (C := Tryd.checked) (X := fun w _ => laidMetH Tryd.prog Rows.fnStmtTokensRow.laid w) (fun _ _ _ hh h => h.of_heap hh) own started (by kernel_rfl) Tryd.func3
    (ChangeSpec.witness_shaped (enc := enc) (C := Tryd.checked) (os := os) (X := fun w _ => laidMetH Tryd.prog Rows.fnStmtTokensRow.laid w) false (World.doorLaid Tryd.prog 4000 os) #[.slice none 0 0] 10 rfl (World.shaped_of_RefB (by kernel_rfl) (by kernel_rfl)) (by kernel_rfl) (by kernel_rfl) (by kernel_rfl) (door_fnStmtTokens os _)) ?_
  intro W base args ds gs before hval0 hW _ _ hL _
  have hval : ∀ (j : Nat) t v, Tryd.f3.params[j]? = some t → args[j]? = some v → Value.okWide Tryd.prog W .any base t v := hval0
  have hW' := hW
  obtain ⟨p, q, hA0, hV, rfl, hfz, hnd⟩ := hW
  have hA : DataW.TrodAll enc Tryd.prog W 0 (fun _ => true) true Tryd.f3.params.toList args.toList ds p := hA0
  have hGN : GN W := gn_of_laid4 hL
  have hltp : ∀ x ∈ p, x.block < W.heap.size := fun x hx => hW'.lt x (by simp [hx])
  have hltq : ∀ x ∈ q, x.block < W.heap.size := fun x hx => hW'.lt x (by simp [hx])
  have key : Calls Tryd.prog 3 args W fun e W' => e = .returned (.bool true) ∧ Below W.heap.size W W' := by
    rw [Tryd.params3] at hA hval
    obtain ⟨v0, vs0, d0, ds0, p0, q0, hargs, rfl, rfl, h0, r0⟩ := trodAll_cons hA
    obtain ⟨rfl, rfl, rfl⟩ := trodAll_nil r0
    obtain rfl : args = #[v0] := by cases args; simp_all
    clear hA0 hval0 hW' hA hV hltp hltq
    obtain ⟨fuel0, hf0⟩ := h0
    obtain ⟨A, n, c, l, hv0, hnc, hcm, hl, hrd⟩ := rd_of_slice (cellsf := bcell) Tryd.underlying22 cells_byte (by decide) trod_byte bcell_len (slice_one (hval 0 22 v0 rfl rfl) Tryd.underlying22 hf0)
    subst hv0
    exact law_FStmtTokens A n c l W hrd hl hnc hcm hGN
  refine key.mono fun e W' ⟨he, hb⟩ => ?_
  subst he
  obtain ⟨g1, hgs, hvs⟩ := vars_stay laidOut strRec hV hltq hb (by obtain ⟨_, _, _, h, _⟩ := hGN; exact h)
  subst hgs
  have hrd : (Tryd.f3.params.toList.all fun t => Tryd.prog.readableRec t && decide (t < Tryd.prog.types.size)) = true := by kernel_rfl
  have hst : ∀ sp : Nat → Bool, (∀ x ∈ p ++ q, sp x.block = true) → DataW.TrodAll enc Tryd.prog W' 0 sp true Tryd.f3.params.toList args.toList ds p := fun sp hsp => trodAll_stays (sp := sp) (W' := W') laidOut (fun t ht => by simpa using List.all_eq_true.1 hrd t ht) hA (fun x hx => hb.same (hltp x hx)) (fun x hx => hsp x (by simp [hx]))
  have hds : ds.length = 1 := by
    rw [Tryd.params3] at hA
    obtain ⟨v0, vs0, d0, ds0, p0, q0, _, rfl, rfl, h0, r0⟩ := trodAll_cons hA
    obtain ⟨_, rfl, _⟩ := trodAll_nil r0
    rfl
  clear hA hA0 hval hval0
  obtain ⟨e0, rfl⟩ : ∃ e0, ds = [e0] := by match ds, hds with | [e0], _ => exact ⟨e0, rfl⟩
  exact ⟨_, rfl, post_of_below (pa := p) (pv := q) hW' (fun _ _ _ => (trodAll_cons_mk (shut_bool Tryd.underlying4 _) trodAll_mk0)) hst (fun sp hsp => hvs sp (fun x hx => hsp x (by simp [hx]))) rfl hb (ok_one (by kernel_rfl) rfl (okWide_bool_mk Tryd.underlying4 _))⟩
theorem over_fnStmtTokens : Rows.fnStmtTokensRow.holds Tryd.pinned (OpenSpec.ofChange Rows.fnStmtTokensSpec) :=
  OpenClaim.holds_of_wide 3 Tryd.f3 rfl rfl rfl rfl rfl rfl rfl ⟨rfl, rfl, rfl, rfl, rfl⟩ rfl rfl rfl rfl rfl (by kernel_rfl) Tryd.func3 (by kernel_rfl)
    (of_decide_eq_true (by kernel_rfl)) (by unfold Func.isWrapper; first | (rw [if_pos (by decide +kernel)]; kernel_rfl) | (rw [if_neg (by decide +kernel)]; exact ⟨rfl, rfl⟩))
    (fun os started H enc _ => lifted_fnStmtTokens os started H enc)
/-- The statement: the tied card. -/
theorem fnStmtTokens_holds : Rows.FnStmtTokensCardSaid :=
  Claim7.holds_tied_plain_at .later [] [.data, .data, .data, .data] true (true, "30c2abee178498631ace57a443689a3b337f7a84f6f688a296876958dfa781fe") false
    over_fnStmtTokens (fun _ h => by cases h) (by kernel_rfl) (fun _ h => by cases h) fnStmtTokens_row_tie rfl ⟨rfl, rfl⟩ (by kernel_rfl) rfl
    (fun f fn hf hfn => by
      obtain rfl : f = 3 := Option.some.inj ((show Tryd.prog.funcNamed "loop.example/g00506/laws.FnStmtTokens" = some 3 by kernel_rfl).symm.trans hf) |>.symm
      obtain rfl : fn = Tryd.f3 := (Option.some.inj (Tryd.func3.symm.trans hfn)).symm
      exact ⟨by kernel_rfl, fun j t ht => by
        have hall : (Tryd.f3.params.toList.all fun u => !Tryd.prog.wantsStandIn u) = true := by kernel_rfl
        have hm : t ∈ Tryd.f3.params.toList := by simpa using Array.mem_of_getElem? ht
        exact (show Tryd.prog.wantsStandIn t = false by simpa using List.all_eq_true.1 hall t hm)⟩)
    (by kernel_rfl)
end Go.Proofs.YtbamjfbfipkioaaDoor
