/- Programs round-trip through their text: for every code. -/
import Derived.Test.YthkbckkghnbonaaGreatDoorJProgramText2
import Derived.Test.YthkbckkghnbonaaGreatDoorJProgramText8
import Derived.Test.YthkbckkghnbonaaGreatDoorJProgramText15
import Derived.Test.YthkbckkghnbonaaGreatDoorJProgramText17
import Derived.Test.YthkbckkghnbonaaGreatDoorJProgramText9
import Derived.Test.YthkbckkghnbonaaGreatDoorJProgramText14
namespace Go.Proofs.YthkbckkghnbonaaGreatDoor
open Go.ChangeShapes Go.WideShapes Go.ChangeAt Go.RowKit
set_option linter.unusedVariables false
theorem belP {w w1 w2 : World} (f : Below w.heap.size w w1) (h : Below w1.heap.size w1 w2) : Below w.heap.size w w2 := f.trans (h.mono f.size)
theorem below_drewP {B : Nat} {w w' : World} (h : Below B w w') : Below B w w'.drew := ⟨h.os, h.tape, h.output, h.size, h.block⟩
theorem eqPg_refl {d : Nat} (Q : List ByteArray) (l : List (Tr d)) : eqPg Q Q l l = true := by unfold eqPg; rw [eqBy_refl (fun x _ => eqSt_refl x), eqTs_refl]; rfl
set_option maxRecDepth 100000 in
set_option maxHeartbeats 8000000 in
theorem law_ProgramText (A : Option Addr) (n c : Nat) (bs : List (Fin 256)) (w0 : World) (h : Rd w0 1 A n (bs.flatMap bcell)) (hl : bs.length = n) (hnc : n ≤ c) (hc : c ≤ maxLen) (hV : LVb w0.heap.size w0) :
    Calls Tryz.prog 3 #[.slice A n c] w0 fun e w' => e = .returned (.bool true) ∧ Below w0.heap.size w0 w' := by
  have hn0 : n ≤ 9223372036854775807 := by simp only [maxLen] at hc; omega
  have H := Lib.hid h
  have HL := Lib.hid hl
  have HV := Lib.hid hV
  clear h hl hV
  by_cases hbig : 1048576 < n
  · have hB : decide (1048576 < n) = true := by simpa using hbig
    go_enter Tryz.func3, Tryz.ntmps3
    go_wp2_with (go_at_call 7; refine (big_law _ _ _ _ hn0).mono ?_; rintro e w' ⟨rfl, rfl⟩)
    go_ret
    exact ⟨rfl, Below.refl _ _⟩
  have hB : decide (1048576 < n) = false := by simpa using hbig
  go_enter Tryz.func3, Tryz.ntmps3
  go_wp2_with (go_at_call 7; refine (big_law _ _ _ _ hn0).mono ?_; rintro e w' ⟨rfl, rfl⟩)
  clear hB
  refine (DrawFormatProgram_any _ _ _ bs w0 H.out HL.out (by omega)).mono ?_
  rintro e w1 ⟨Aq, cq, Q, Ab, nb, cb, l, rfl, hq, ⟨hq4, hq9⟩, hr, hz, hb1⟩
  have hs1 := hb1.size
  have hzq : szS Q ≤ 1048576 := by have := szS9p Q hq9; omega
  obtain ⟨nq, hnq⟩ : ∃ nq, nq = Q.length := ⟨_, rfl⟩
  have hnq4 : nq ≤ 4 := by omega
  have hz6 : szT 6 l ≤ 1048576 := by omega
  -- what the functions answer
  have HFI := Lib.hid (fun W (ra : RdL W 0 1 Aq Q.length (strs Q)) (rb : RdT W 0 6 Ab nb l) (hG : GN W) => FormatProgram_impl 6 0 0 Aq cq Q l Ab nb cb W ra rb hG (by omega) hzq hz6)
  have HFS := Lib.hid (fun W (ra : RdL W 0 1 Aq Q.length (strs Q)) (rb : RdT W 0 6 Ab nb l) => FormatProgram_spec 6 0 0 Aq cq Q l Ab nb cb W ra rb (by omega) hzq hz6)
  have HVI := Lib.hid (fun W (ra : RdL W 0 1 Aq Q.length (strs Q)) (rb : RdT W 0 6 Ab nb l) (hG : GN W) => IsValidProgram_impl 6 0 0 Aq cq Q l Ab nb cb W ra rb hG (by omega) hzq hz6)
  have HVS := Lib.hid (fun W (ra : RdL W 0 1 Aq Q.length (strs Q)) (rb : RdT W 0 6 Ab nb l) => IsValidProgram_spec 6 0 0 Aq cq Q l Ab nb cb W ra rb (by omega) hzq hz6)
  have HPI := Lib.hid (fun W (hv : LVb W.heap.size W) (hs : (ftx (pTks 6 Q l)).size ≤ 1099511627776) => ParseProgram_impl (ftx (pTks 6 Q l)) W hv hs)
  have hsz : (ftx (pTks 6 Q l)).size ≤ 1099511627776 := by
    have h1 := ftxR_size (pTks 6 Q l).reverse
    rw [List.length_reverse] at h1
    have h2 := pTks_len 6 Q l
    show (ftxR (pTks 6 Q l).reverse).size ≤ _
    omega
  have HEI := Lib.hid (fun (m' nb' : Nat) (l' : List (Tr 6)) (Aq' : Option Addr) (cq' : Nat) (Ab' : Option Addr) (cb' : Nat) W ra rb ra' rb' hm' h2' => EqualProgram_impl 6 0 0 Q.length nb m' nb' Q Q l l' Aq cq Ab cb Aq' cq' Ab' cb' W ra rb ra' rb' rfl hm' (by omega) hz6 h2')
  have HES := Lib.hid (fun (m' nb' : Nat) (l' : List (Tr 6)) (Aq' : Option Addr) (cq' : Nat) (Ab' : Option Addr) (cb' : Nat) W ra rb ra' rb' hm' h2' => EqualProgram_spec 6 0 0 Q.length nb m' nb' Q Q l l' Aq cq Ab cb Aq' cq' Ab' cb' W ra rb ra' rb' rfl hm' (by omega) hz6 h2')
  have HTB := Lib.hid (fun hv : progV 6 Q l = true => text_back hv)
  have HTN := Lib.hid (fun hv : progV 6 Q l = false => text_none hv)
  have HER := Lib.hid (eqPg_refl Q l)
  obtain ⟨T, hT⟩ : ∃ T, T = ftx (pTks 6 Q l) := ⟨_, rfl⟩
  rw [← hT] at HFI HFS HPI HTB HTN hsz
  obtain ⟨V, hVv⟩ : ∃ V, V = progV 6 Q l := ⟨_, rfl⟩
  rw [← hVv] at HVI HVS HTB HTN
  have HSZ := Lib.hid hsz
  clear hT hVv hq9 hsz
  go_upto_region 4 with (fail)
  refine wp_name (fun w2 hw2 => ?_)
  obtain ⟨X, hX⟩ : ∃ X, X = w1.heap.size := ⟨_, rfl⟩
  have b2 : Below w1.heap.size w1 w2 := by rw [hw2]; exact below_alloc1
  have X2 := Lib.hid (show w2.heap[X]? = some (.cells #[.slice Aq Q.length cq, .slice Ab nb cb] 27 (0, 0)) by rw [hw2, hX]; exact heap_topG rfl)
  have hs2 := b2.size
  have lX2 := lt_of_block X2.out
  have RA2 := Lib.hid (hq.below b2)
  have RB2 := Lib.hid (hr.below b2)
  have BW2 := Lib.hid (belP hb1 b2)
  have V2 := Lib.hid (HV.out.below BW2.out)
  rw [← hX]
  clear hw2 hq hr hb1 b2 hX
  rw [← hnq] at HFI HFS HVI HVS X2 RA2 HEI HES ⊢
  have HNQ := Lib.hid hnq
  clear hnq
  obtain ⟨k0, k1⟩ := cells2G (lay := Below.refl _ _) X2.out
  go_wp2_with fail
  refine (HFI.out w2 RA2.out RB2.out V2.out.gn').mono ?_
  rintro e w3 ⟨rfl, b3, s3⟩
  have B3 := Lib.hid b3
  clear k0 k1 b3
  have RA3 := Lib.hid (RA2.out.below B3.out)
  have RB3 := Lib.hid (RB2.out.below B3.out)
  have V3 := Lib.hid (V2.out.below (B3.out.mono V2.out.le))
  have BW3 := Lib.hid (belP BW2.out B3.out)
  have HX3 := Lib.hid ((B3.out.block X lX2).trans X2.out)
  have hst : (T.toList == T.toList) = true := by simp
  cases hv : V
  · rw [hv] at HVI HVS HTB HTN
    clear hv
    obtain ⟨rfl, hp⟩ := HTN.out rfl
    have HP4 : Hid (∀ W, LVb W.heap.size W → Calls Tryz.prog 13 #[.string ⟨#[]⟩] W (RetP4 2 0 [] [] W)) := fun W hv => by rw [← retP4 hp W]; exact HPI.out W hv HSZ.out
    clear hp HTB HTN HPI
    go_upto_region 5 with (fail)
    obtain ⟨J0, hJ0⟩ : ∃ J : Array Value → Array Bool → Act → World → Prop, J = (fun A0 listed a W => ∃ (z0 : Nat), ∃ x14 x15 x16 x17 x18 x19 x20 x21 x22 x23 x24 : Value, a = ⟨(((((((((((A0.setIfInBounds 14 x14).setIfInBounds 15 x15).setIfInBounds 16 x16).setIfInBounds 17 x17).setIfInBounds 18 x18).setIfInBounds 19 x19).setIfInBounds 20 x20).setIfInBounds 21 x21).setIfInBounds 22 x22).setIfInBounds 23 x23).setIfInBounds 24 x24), []⟩ ∧ (Ls listed 0 → x14 = .string ⟨#[]⟩) ∧ (Ls listed 1 → x15 = .agg #[.slice Aq nq cq, .slice Ab nb cb]) ∧ (Ls listed 2 → x16 = .string ⟨#[]⟩) ∧ (Ls listed 3 → x17 = .bool false) ∧ (Ls listed 4 → x18 = .bool false) ∧ (Ls listed 5 → x19 = .agg #[.slice Aq nq cq, .slice Ab nb cb]) ∧ (Ls listed 6 → x20 = .bool false) ∧ (Ls listed 7 → x21 = .agg #[.slice Aq nq cq, .slice Ab nb cb]) ∧ (Ls listed 8 → x22 = .bool false) ∧ (Ls listed 9 → x23 = .bool false) ∧ (Ls listed 10 → x24 = .bool false ∧ Below w3.heap.size w3 W) ∧ (¬ Ls listed 10 → Below w3.heap.size w3 W) ∧ (Ls listed 10 → ¬ Ls listed 10 → True)) := ⟨_, rfl⟩
    have HJ0 := Lib.hid hJ0
    clear hJ0
    refine wp_region_inv2 (by kernel_rfl) J0 ?_ ?_ ?_
    · intro A0
      rw [HJ0.out]
      exact ⟨0, A0.getD 14 undef, A0.getD 15 undef, A0.getD 16 undef, A0.getD 17 undef, A0.getD 18 undef, A0.getD 19 undef, A0.getD 20 undef, A0.getD 21 undef, A0.getD 22 undef, A0.getD 23 undef, A0.getD 24 undef, by simp only [set_self], fun h => h.none, fun h => h.none, fun h => h.none, fun h => h.none, fun h => h.none, fun h => h.none, fun h => h.none, fun h => h.none, fun h => h.none, fun h => h.none, fun h => h.none, fun _ => below_drewP (Below.refl _ _), fun h => h.none⟩
    · intro listed a W hsize hcl hJ i hi
      have hil := ready_lt hi
      have hnl := ready_not hi
      have hnow := ready_now hi hsize
      have HCL := Lib.hid hcl
      rw [HJ0.out] at hJ
      obtain ⟨z0, x14, x15, x16, x17, x18, x19, x20, x21, x22, x23, x24, rfl, HF⟩ := hJ
      have HH := Lib.hid HF
      have hi2 : i = 0 ∨ i = 1 ∨ i = 2 ∨ i = 3 ∨ i = 4 ∨ i = 5 ∨ i = 6 ∨ i = 7 ∨ i = 8 ∨ i = 9 ∨ i = 10 := by simp at hil; omega
      clear hil hcl HF
      rcases hi2 with rfl | rfl | rfl | rfl | rfl | rfl | rfl | rfl | rfl | rfl | rfl
      · clear hi HCL
        simp only [List.setIfInBounds_toArray, List.set_cons_succ, List.set_cons_zero]
        refine wpOp_one rfl rfl ?_
        intro K hK
        go_wp2_with fail
        rw [HJ0.out]
        exact ⟨z0, .string ⟨#[]⟩, x15, x16, x17, x18, x19, x20, x21, x22, x23, x24, (by simp only [List.setIfInBounds_toArray, List.set_cons_succ, List.set_cons_zero]), fun _ => rfl, Bk (pj1 HH.out), Bk (pj2 HH.out), Bk (pj3 HH.out), Bk (pj4 HH.out), Bk (pj5 HH.out), Bk (pj6 HH.out), Bk (pj7 HH.out), Bk (pj8 HH.out), Bk (pj9 HH.out), Bk (pj10 HH.out), Bi (pj11 HH.out), Bw (pe12 HH.out)⟩
      · have hns : ¬ Ls listed 10 := fun h => hnl (dq HCL (dq HCL (dq HCL (dq HCL h 4) 3) 2) 1)
        have V0 := (pj11 HH.out) hns
        clear hi HCL
        simp only [List.setIfInBounds_toArray, List.set_cons_succ, List.set_cons_zero]
        obtain ⟨k0, k1⟩ := cells2G (lay := V0) HX3.out
        refine wpOp_one rfl rfl ?_
        intro K hK
        go_wp2_with fail
        rw [HJ0.out]
        exact ⟨z0, x14, .agg #[.slice Aq nq cq, .slice Ab nb cb], x16, x17, x18, x19, x20, x21, x22, x23, x24, (by simp only [List.setIfInBounds_toArray, List.set_cons_succ, List.set_cons_zero]), Bk (pj0 HH.out), fun _ => rfl, Bk (pj2 HH.out), Bk (pj3 HH.out), Bk (pj4 HH.out), Bk (pj5 HH.out), Bk (pj6 HH.out), Bk (pj7 HH.out), Bk (pj8 HH.out), Bk (pj9 HH.out), Bk (pj10 HH.out), Bi (pj11 HH.out), Bw (pe12 HH.out)⟩
      · have hns : ¬ Ls listed 10 := fun h => hnl (dq HCL (dq HCL (dq HCL h 4) 3) 2)
        have D1 := (pj1 HH.out) (rq hi 1)
        have V0 := (pj11 HH.out) hns
        clear hi HCL
        simp only [List.setIfInBounds_toArray, List.set_cons_succ, List.set_cons_zero, D1]
        refine wpOp_one rfl rfl ?_
        intro K hK
        go_wp2_with fail
        refine (HFS.out W (RA3.out.below V0) (RB3.out.below V0)).mono ?_
        rintro e y ⟨he, hb, hs⟩
        obtain rfl : e = .returned (.string ⟨#[]⟩) := by exact he
        go_wp2_with fail
        rw [HJ0.out]
        exact ⟨z0, x14, x15, .string ⟨#[]⟩, x17, x18, x19, x20, x21, x22, x23, x24, (by simp only [List.setIfInBounds_toArray, List.set_cons_succ, List.set_cons_zero, D1]), Bk (pj0 HH.out), Bk (pj1 HH.out), fun _ => rfl, Bk (pj3 HH.out), Bk (pj4 HH.out), Bk (pj5 HH.out), Bk (pj6 HH.out), Bk (pj7 HH.out), Bk (pj8 HH.out), Bk (pj9 HH.out), Ba hns, fun h => belP ((pj11 HH.out) (fun h2 => h h2.fwd)) hb, fun h1 _ => absurd (h1.back (by decide)) hns⟩
      · have D0 := (pj0 HH.out) (rq hi 0)
        have D2 := (pj2 HH.out) (rq hi 2)
        clear hi HCL
        simp only [List.setIfInBounds_toArray, List.set_cons_succ, List.set_cons_zero, D0, D2]
        refine wpOp_one rfl rfl ?_
        intro K hK
        go_wp2_with fail
        rw [HJ0.out]
        exact ⟨z0, x14, x15, x16, .bool false, x18, x19, x20, x21, x22, x23, x24, (by simp only [List.setIfInBounds_toArray, List.set_cons_succ, List.set_cons_zero, D0, D2]), Bk (pj0 HH.out), Bk (pj1 HH.out), Bk (pj2 HH.out), fun _ => rfl, Bk (pj4 HH.out), Bk (pj5 HH.out), Bk (pj6 HH.out), Bk (pj7 HH.out), Bk (pj8 HH.out), Bk (pj9 HH.out), Bk (pj10 HH.out), Bi (pj11 HH.out), Bw (pe12 HH.out)⟩
      · have D3 := (pj3 HH.out) (rq hi 3)
        clear hi HCL
        simp only [List.setIfInBounds_toArray, List.set_cons_succ, List.set_cons_zero, D3]
        refine wpOp_one rfl rfl ?_
        intro K hK
        go_wp2_with fail
        rw [HJ0.out]
        exact ⟨z0, x14, x15, x16, x17, .bool false, x19, x20, x21, x22, x23, x24, (by simp only [List.setIfInBounds_toArray, List.set_cons_succ, List.set_cons_zero, D3]), Bk (pj0 HH.out), Bk (pj1 HH.out), Bk (pj2 HH.out), Bk (pj3 HH.out), fun _ => rfl, Bk (pj5 HH.out), Bk (pj6 HH.out), Bk (pj7 HH.out), Bk (pj8 HH.out), Bk (pj9 HH.out), Bk (pj10 HH.out), Bi (pj11 HH.out), Bw (pe12 HH.out)⟩
      · have hns : ¬ Ls listed 10 := fun h => hnl (dq HCL (dq HCL (dq HCL h 9) 6) 5)
        have D4 := (pj4 HH.out) (rq hi 4)
        have V0 := (pj11 HH.out) hns
        clear hi HCL
        simp only [List.setIfInBounds_toArray, List.set_cons_succ, List.set_cons_zero, D4]
        obtain ⟨k0, k1⟩ := cells2G (lay := V0) HX3.out
        refine wpOp_yes rfl (by rfl) ?_
        intro K hK
        go_wp2_with fail
        rw [HJ0.out]
        exact ⟨z0, x14, x15, x16, x17, x18, .agg #[.slice Aq nq cq, .slice Ab nb cb], x20, x21, x22, x23, x24, (by simp only [List.setIfInBounds_toArray, List.set_cons_succ, List.set_cons_zero, D4]), Bk (pj0 HH.out), Bk (pj1 HH.out), Bk (pj2 HH.out), Bk (pj3 HH.out), Bk (pj4 HH.out), fun _ => rfl, Bk (pj6 HH.out), Bk (pj7 HH.out), Bk (pj8 HH.out), Bk (pj9 HH.out), Bk (pj10 HH.out), Bi (pj11 HH.out), Bw (pe12 HH.out)⟩
      · have hns : ¬ Ls listed 10 := fun h => hnl (dq HCL (dq HCL h 9) 6)
        have D4 := (pj4 HH.out) (rq hi 4)
        have D5 := (pj5 HH.out) (rq hi 5)
        have V0 := (pj11 HH.out) hns
        clear hi HCL
        simp only [List.setIfInBounds_toArray, List.set_cons_succ, List.set_cons_zero, D4, D5]
        refine wpOp_yes rfl (by rfl) ?_
        intro K hK
        go_wp2_with fail
        refine (HVI.out W (RA3.out.below V0) (RB3.out.below V0) (V3.out.gn'.below V0)).mono ?_
        rintro e y ⟨he, hb, hs⟩
        obtain rfl : e = .returned (.bool false) := by exact he
        go_wp2_with fail
        rw [HJ0.out]
        exact ⟨z0, x14, x15, x16, x17, x18, x19, .bool false, x21, x22, x23, x24, (by simp only [List.setIfInBounds_toArray, List.set_cons_succ, List.set_cons_zero, D4, D5]), Bk (pj0 HH.out), Bk (pj1 HH.out), Bk (pj2 HH.out), Bk (pj3 HH.out), Bk (pj4 HH.out), Bk (pj5 HH.out), fun _ => rfl, Bk (pj7 HH.out), Bk (pj8 HH.out), Bk (pj9 HH.out), Ba hns, fun h => belP ((pj11 HH.out) (fun h2 => h h2.fwd)) hb, fun h1 _ => absurd (h1.back (by decide)) hns⟩
      · have hns : ¬ Ls listed 10 := fun h => hnl (dq HCL (dq HCL (dq HCL h 9) 8) 7)
        have D4 := (pj4 HH.out) (rq hi 4)
        have V0 := (pj11 HH.out) hns
        clear hi HCL
        simp only [List.setIfInBounds_toArray, List.set_cons_succ, List.set_cons_zero, D4]
        obtain ⟨k0, k1⟩ := cells2G (lay := V0) HX3.out
        refine wpOp_yes rfl (by rfl) ?_
        intro K hK
        go_wp2_with fail
        rw [HJ0.out]
        exact ⟨z0, x14, x15, x16, x17, x18, x19, x20, .agg #[.slice Aq nq cq, .slice Ab nb cb], x22, x23, x24, (by simp only [List.setIfInBounds_toArray, List.set_cons_succ, List.set_cons_zero, D4]), Bk (pj0 HH.out), Bk (pj1 HH.out), Bk (pj2 HH.out), Bk (pj3 HH.out), Bk (pj4 HH.out), Bk (pj5 HH.out), Bk (pj6 HH.out), fun _ => rfl, Bk (pj8 HH.out), Bk (pj9 HH.out), Bk (pj10 HH.out), Bi (pj11 HH.out), Bw (pe12 HH.out)⟩
      · have hns : ¬ Ls listed 10 := fun h => hnl (dq HCL (dq HCL h 9) 8)
        have D4 := (pj4 HH.out) (rq hi 4)
        have D7 := (pj7 HH.out) (rq hi 7)
        have V0 := (pj11 HH.out) hns
        clear hi HCL
        simp only [List.setIfInBounds_toArray, List.set_cons_succ, List.set_cons_zero, D4, D7]
        refine wpOp_yes rfl (by rfl) ?_
        intro K hK
        go_wp2_with fail
        refine (HVS.out W (RA3.out.below V0) (RB3.out.below V0)).mono ?_
        rintro e y ⟨he, hb, hs⟩
        obtain rfl : e = .returned (.bool false) := by exact he
        go_wp2_with fail
        rw [HJ0.out]
        exact ⟨z0, x14, x15, x16, x17, x18, x19, x20, x21, .bool false, x23, x24, (by simp only [List.setIfInBounds_toArray, List.set_cons_succ, List.set_cons_zero, D4, D7]), Bk (pj0 HH.out), Bk (pj1 HH.out), Bk (pj2 HH.out), Bk (pj3 HH.out), Bk (pj4 HH.out), Bk (pj5 HH.out), Bk (pj6 HH.out), Bk (pj7 HH.out), fun _ => rfl, Bk (pj9 HH.out), Ba hns, fun h => belP ((pj11 HH.out) (fun h2 => h h2.fwd)) hb, fun h1 _ => absurd (h1.back (by decide)) hns⟩
      · have D4 := (pj4 HH.out) (rq hi 4)
        have D6 := (pj6 HH.out) (rq hi 6)
        have D8 := (pj8 HH.out) (rq hi 8)
        clear hi HCL
        simp only [List.setIfInBounds_toArray, List.set_cons_succ, List.set_cons_zero, D4, D6, D8]
        refine wpOp_yes rfl (by rfl) ?_
        intro K hK
        go_wp2_with fail
        rw [HJ0.out]
        exact ⟨z0, x14, x15, x16, x17, x18, x19, x20, x21, x22, .bool false, x24, (by simp only [List.setIfInBounds_toArray, List.set_cons_succ, List.set_cons_zero, D4, D6, D8]), Bk (pj0 HH.out), Bk (pj1 HH.out), Bk (pj2 HH.out), Bk (pj3 HH.out), Bk (pj4 HH.out), Bk (pj5 HH.out), Bk (pj6 HH.out), Bk (pj7 HH.out), Bk (pj8 HH.out), fun _ => rfl, Bk (pj10 HH.out), Bi (pj11 HH.out), Bw (pe12 HH.out)⟩
      · have hns : ¬ Ls listed 10 := hnl
        have D4 := (pj4 HH.out) (rq hi 4)
        have D9 := (pj9 HH.out) (rq hi 9)
        have V0 := (pj11 HH.out) hns
        clear hi HCL
        simp only [List.setIfInBounds_toArray, List.set_cons_succ, List.set_cons_zero, D4, D9]
        refine wpOp_one rfl rfl ?_
        intro K hK
        go_wp2_with fail
        rw [HJ0.out]
        exact ⟨z0, x14, x15, x16, x17, x18, x19, x20, x21, x22, x23, .bool false, (by first | (simp only [List.setIfInBounds_toArray, List.set_cons_succ, List.set_cons_zero, D4, D9] <;> fail) | simp only [Act.put, List.setIfInBounds_toArray, List.set_cons_succ, List.set_cons_zero, D4, D9]), Bk (pj0 HH.out), Bk (pj1 HH.out), Bk (pj2 HH.out), Bk (pj3 HH.out), Bk (pj4 HH.out), Bk (pj5 HH.out), Bk (pj6 HH.out), Bk (pj7 HH.out), Bk (pj8 HH.out), Bk (pj9 HH.out), fun _ => ⟨rfl, V0⟩, fun h => absurd hnow h, fun _ h => absurd hnow h⟩
    · intro listed a W hsize hJ hr
      rw [HJ0.out] at hJ
      have hall := all_listed hsize (by kernel_rfl) hr
      obtain ⟨z0, x14, x15, x16, x17, x18, x19, x20, x21, x22, x23, x24, rfl, HF⟩ := hJ
      have HH := Lib.hid HF
      have HEND := (pj10 HH.out) (hall 10 (by decide))
      clear HF HH hall hr hsize
      simp only [List.setIfInBounds_toArray, List.set_cons_succ, List.set_cons_zero]
      obtain ⟨rfl, hbF⟩ := HEND
      have BW4 := Lib.hid (belP BW3.out hbF)
      have RA4 := Lib.hid (RA3.out.below hbF)
      have RB4 := Lib.hid (RB3.out.below hbF)
      have V4 := Lib.hid (HV.out.below BW4.out).up
      have X4 := Lib.hid ((hbF.block X (lt_of_block HX3.out)).trans HX3.out)
      clear hbF
      obtain ⟨w4, rfl⟩ : ∃ w4 : World, w4 = W := ⟨_, rfl⟩
      have lX4 := lt_of_block X4.out
      go_upto_region 7 with (fail)
      go_wp2_with fail
      refine (HP4.out w4 V4.out).mono ?_
      rintro e w5 ⟨A5, n5, c5, B5, m5, d5, mm5, rfl, hsl5, htr5, _, _, b5⟩
      have RA5 := Lib.hid (RA4.out.below b5)
      have RB5 := Lib.hid (RB4.out.below b5)
      have BW5 := Lib.hid (belP BW4.out b5)
      have X5 := Lib.hid ((b5.block X lX4).trans X4.out)
      have lX5 := lt_of_block X5.out
      clear hsl5 htr5 b5
      go_upto_region 8 with (fail)
      refine wp_name (fun w6 hw6 => ?_)
      have b6 : Below w5.heap.size w5 w6 := by rw [hw6]; exact below_alloc1
      have RA6 := Lib.hid (RA5.out.below b6)
      have RB6 := Lib.hid (RB5.out.below b6)
      have BW6 := Lib.hid (belP BW5.out b6)
      have X6 := Lib.hid ((b6.block X lX5).trans X5.out)
      clear hw6 b6
      obtain ⟨k0, k1⟩ := cells2G (lay := Below.refl _ _) X6.out
      go_upto_region 9 with (go_at_call 12; refine (HVS.out w6 RA6.out RB6.out).mono ?_; rintro e w7 ⟨rfl, b7, s7⟩)
      have BW7 := Lib.hid (belP BW6.out b7)
      clear k0 k1 b7
      go_wp2_with fail
      go_ret
      exact ⟨rfl, BW7.out⟩
  · rw [hv] at HVI HVS HTB HTN
    clear hv
    obtain ⟨l2, hp, hl2⟩ := HTB.out rfl
    have HP4 : Hid (∀ W, LVb W.heap.size W → Calls Tryz.prog 13 #[.string T] W (RetP4 0 0 Q l2 W)) := fun W hv => by rw [← retP4 hp W]; exact HPI.out W hv HSZ.out
    clear hp HTB HTN HPI
    go_upto_region 5 with (fail)
    obtain ⟨J0, hJ0⟩ : ∃ J : Array Value → Array Bool → Act → World → Prop, J = (fun A0 listed a W => ∃ (z0 : Nat), ∃ x14 x15 x16 x17 x18 x19 x20 x21 x22 x23 x24 : Value, a = ⟨(((((((((((A0.setIfInBounds 14 x14).setIfInBounds 15 x15).setIfInBounds 16 x16).setIfInBounds 17 x17).setIfInBounds 18 x18).setIfInBounds 19 x19).setIfInBounds 20 x20).setIfInBounds 21 x21).setIfInBounds 22 x22).setIfInBounds 23 x23).setIfInBounds 24 x24), []⟩ ∧ (Ls listed 0 → x14 = .string T) ∧ (Ls listed 1 → x15 = .agg #[.slice Aq nq cq, .slice Ab nb cb]) ∧ (Ls listed 2 → x16 = .string T) ∧ (Ls listed 3 → x17 = .bool false) ∧ (Ls listed 4 → x18 = .bool false) ∧ (Ls listed 5 → x19 = .agg #[.slice Aq nq cq, .slice Ab nb cb]) ∧ (Ls listed 6 → x20 = .bool true) ∧ (Ls listed 7 → x21 = .agg #[.slice Aq nq cq, .slice Ab nb cb]) ∧ (Ls listed 8 → x22 = .bool true) ∧ (Ls listed 9 → x23 = .bool false) ∧ (Ls listed 10 → x24 = .bool false ∧ Below w3.heap.size w3 W) ∧ (¬ Ls listed 10 → Below w3.heap.size w3 W) ∧ (Ls listed 10 → ¬ Ls listed 10 → True)) := ⟨_, rfl⟩
    have HJ0 := Lib.hid hJ0
    clear hJ0
    refine wp_region_inv2 (by kernel_rfl) J0 ?_ ?_ ?_
    · intro A0
      rw [HJ0.out]
      exact ⟨0, A0.getD 14 undef, A0.getD 15 undef, A0.getD 16 undef, A0.getD 17 undef, A0.getD 18 undef, A0.getD 19 undef, A0.getD 20 undef, A0.getD 21 undef, A0.getD 22 undef, A0.getD 23 undef, A0.getD 24 undef, by simp only [set_self], fun h => h.none, fun h => h.none, fun h => h.none, fun h => h.none, fun h => h.none, fun h => h.none, fun h => h.none, fun h => h.none, fun h => h.none, fun h => h.none, fun h => h.none, fun _ => below_drewP (Below.refl _ _), fun h => h.none⟩
    · intro listed a W hsize hcl hJ i hi
      have hil := ready_lt hi
      have hnl := ready_not hi
      have hnow := ready_now hi hsize
      have HCL := Lib.hid hcl
      rw [HJ0.out] at hJ
      obtain ⟨z0, x14, x15, x16, x17, x18, x19, x20, x21, x22, x23, x24, rfl, HF⟩ := hJ
      have HH := Lib.hid HF
      have hi2 : i = 0 ∨ i = 1 ∨ i = 2 ∨ i = 3 ∨ i = 4 ∨ i = 5 ∨ i = 6 ∨ i = 7 ∨ i = 8 ∨ i = 9 ∨ i = 10 := by simp at hil; omega
      clear hil hcl HF
      rcases hi2 with rfl | rfl | rfl | rfl | rfl | rfl | rfl | rfl | rfl | rfl | rfl
      · clear hi HCL
        simp only [List.setIfInBounds_toArray, List.set_cons_succ, List.set_cons_zero]
        refine wpOp_one rfl rfl ?_
        intro K hK
        go_wp2_with fail
        rw [HJ0.out]
        exact ⟨z0, .string T, x15, x16, x17, x18, x19, x20, x21, x22, x23, x24, (by simp only [List.setIfInBounds_toArray, List.set_cons_succ, List.set_cons_zero]), fun _ => rfl, Bk (pj1 HH.out), Bk (pj2 HH.out), Bk (pj3 HH.out), Bk (pj4 HH.out), Bk (pj5 HH.out), Bk (pj6 HH.out), Bk (pj7 HH.out), Bk (pj8 HH.out), Bk (pj9 HH.out), Bk (pj10 HH.out), Bi (pj11 HH.out), Bw (pe12 HH.out)⟩
      · have hns : ¬ Ls listed 10 := fun h => hnl (dq HCL (dq HCL (dq HCL (dq HCL h 4) 3) 2) 1)
        have V0 := (pj11 HH.out) hns
        clear hi HCL
        simp only [List.setIfInBounds_toArray, List.set_cons_succ, List.set_cons_zero]
        obtain ⟨k0, k1⟩ := cells2G (lay := V0) HX3.out
        refine wpOp_one rfl rfl ?_
        intro K hK
        go_wp2_with fail
        rw [HJ0.out]
        exact ⟨z0, x14, .agg #[.slice Aq nq cq, .slice Ab nb cb], x16, x17, x18, x19, x20, x21, x22, x23, x24, (by simp only [List.setIfInBounds_toArray, List.set_cons_succ, List.set_cons_zero]), Bk (pj0 HH.out), fun _ => rfl, Bk (pj2 HH.out), Bk (pj3 HH.out), Bk (pj4 HH.out), Bk (pj5 HH.out), Bk (pj6 HH.out), Bk (pj7 HH.out), Bk (pj8 HH.out), Bk (pj9 HH.out), Bk (pj10 HH.out), Bi (pj11 HH.out), Bw (pe12 HH.out)⟩
      · have hns : ¬ Ls listed 10 := fun h => hnl (dq HCL (dq HCL (dq HCL h 4) 3) 2)
        have D1 := (pj1 HH.out) (rq hi 1)
        have V0 := (pj11 HH.out) hns
        clear hi HCL
        simp only [List.setIfInBounds_toArray, List.set_cons_succ, List.set_cons_zero, D1]
        refine wpOp_one rfl rfl ?_
        intro K hK
        go_wp2_with fail
        refine (HFS.out W (RA3.out.below V0) (RB3.out.below V0)).mono ?_
        rintro e y ⟨he, hb, hs⟩
        obtain rfl : e = .returned (.string T) := by exact he
        go_wp2_with fail
        rw [HJ0.out]
        exact ⟨z0, x14, x15, .string T, x17, x18, x19, x20, x21, x22, x23, x24, (by simp only [List.setIfInBounds_toArray, List.set_cons_succ, List.set_cons_zero, D1]), Bk (pj0 HH.out), Bk (pj1 HH.out), fun _ => rfl, Bk (pj3 HH.out), Bk (pj4 HH.out), Bk (pj5 HH.out), Bk (pj6 HH.out), Bk (pj7 HH.out), Bk (pj8 HH.out), Bk (pj9 HH.out), Ba hns, fun h => belP ((pj11 HH.out) (fun h2 => h h2.fwd)) hb, fun h1 _ => absurd (h1.back (by decide)) hns⟩
      · have D0 := (pj0 HH.out) (rq hi 0)
        have D2 := (pj2 HH.out) (rq hi 2)
        clear hi HCL
        simp only [List.setIfInBounds_toArray, List.set_cons_succ, List.set_cons_zero, D0, D2]
        refine wpOp_one rfl rfl ?_
        intro K hK
        go_wp2_with fail
        rw [HJ0.out]
        exact ⟨z0, x14, x15, x16, .bool false, x18, x19, x20, x21, x22, x23, x24, (by simp only [List.setIfInBounds_toArray, List.set_cons_succ, List.set_cons_zero, D0, D2]), Bk (pj0 HH.out), Bk (pj1 HH.out), Bk (pj2 HH.out), fun _ => rfl, Bk (pj4 HH.out), Bk (pj5 HH.out), Bk (pj6 HH.out), Bk (pj7 HH.out), Bk (pj8 HH.out), Bk (pj9 HH.out), Bk (pj10 HH.out), Bi (pj11 HH.out), Bw (pe12 HH.out)⟩
      · have D3 := (pj3 HH.out) (rq hi 3)
        clear hi HCL
        simp only [List.setIfInBounds_toArray, List.set_cons_succ, List.set_cons_zero, D3]
        refine wpOp_one rfl rfl ?_
        intro K hK
        go_wp2_with fail
        rw [HJ0.out]
        exact ⟨z0, x14, x15, x16, x17, .bool false, x19, x20, x21, x22, x23, x24, (by simp only [List.setIfInBounds_toArray, List.set_cons_succ, List.set_cons_zero, D3]), Bk (pj0 HH.out), Bk (pj1 HH.out), Bk (pj2 HH.out), Bk (pj3 HH.out), fun _ => rfl, Bk (pj5 HH.out), Bk (pj6 HH.out), Bk (pj7 HH.out), Bk (pj8 HH.out), Bk (pj9 HH.out), Bk (pj10 HH.out), Bi (pj11 HH.out), Bw (pe12 HH.out)⟩
      · have hns : ¬ Ls listed 10 := fun h => hnl (dq HCL (dq HCL (dq HCL h 9) 6) 5)
        have D4 := (pj4 HH.out) (rq hi 4)
        have V0 := (pj11 HH.out) hns
        clear hi HCL
        simp only [List.setIfInBounds_toArray, List.set_cons_succ, List.set_cons_zero, D4]
        obtain ⟨k0, k1⟩ := cells2G (lay := V0) HX3.out
        refine wpOp_yes rfl (by rfl) ?_
        intro K hK
        go_wp2_with fail
        rw [HJ0.out]
        exact ⟨z0, x14, x15, x16, x17, x18, .agg #[.slice Aq nq cq, .slice Ab nb cb], x20, x21, x22, x23, x24, (by simp only [List.setIfInBounds_toArray, List.set_cons_succ, List.set_cons_zero, D4]), Bk (pj0 HH.out), Bk (pj1 HH.out), Bk (pj2 HH.out), Bk (pj3 HH.out), Bk (pj4 HH.out), fun _ => rfl, Bk (pj6 HH.out), Bk (pj7 HH.out), Bk (pj8 HH.out), Bk (pj9 HH.out), Bk (pj10 HH.out), Bi (pj11 HH.out), Bw (pe12 HH.out)⟩
      · have hns : ¬ Ls listed 10 := fun h => hnl (dq HCL (dq HCL h 9) 6)
        have D4 := (pj4 HH.out) (rq hi 4)
        have D5 := (pj5 HH.out) (rq hi 5)
        have V0 := (pj11 HH.out) hns
        clear hi HCL
        simp only [List.setIfInBounds_toArray, List.set_cons_succ, List.set_cons_zero, D4, D5]
        refine wpOp_yes rfl (by rfl) ?_
        intro K hK
        go_wp2_with fail
        refine (HVI.out W (RA3.out.below V0) (RB3.out.below V0) (V3.out.gn'.below V0)).mono ?_
        rintro e y ⟨he, hb, hs⟩
        obtain rfl : e = .returned (.bool true) := by exact he
        go_wp2_with fail
        rw [HJ0.out]
        exact ⟨z0, x14, x15, x16, x17, x18, x19, .bool true, x21, x22, x23, x24, (by simp only [List.setIfInBounds_toArray, List.set_cons_succ, List.set_cons_zero, D4, D5]), Bk (pj0 HH.out), Bk (pj1 HH.out), Bk (pj2 HH.out), Bk (pj3 HH.out), Bk (pj4 HH.out), Bk (pj5 HH.out), fun _ => rfl, Bk (pj7 HH.out), Bk (pj8 HH.out), Bk (pj9 HH.out), Ba hns, fun h => belP ((pj11 HH.out) (fun h2 => h h2.fwd)) hb, fun h1 _ => absurd (h1.back (by decide)) hns⟩
      · have hns : ¬ Ls listed 10 := fun h => hnl (dq HCL (dq HCL (dq HCL h 9) 8) 7)
        have D4 := (pj4 HH.out) (rq hi 4)
        have V0 := (pj11 HH.out) hns
        clear hi HCL
        simp only [List.setIfInBounds_toArray, List.set_cons_succ, List.set_cons_zero, D4]
        obtain ⟨k0, k1⟩ := cells2G (lay := V0) HX3.out
        refine wpOp_yes rfl (by rfl) ?_
        intro K hK
        go_wp2_with fail
        rw [HJ0.out]
        exact ⟨z0, x14, x15, x16, x17, x18, x19, x20, .agg #[.slice Aq nq cq, .slice Ab nb cb], x22, x23, x24, (by simp only [List.setIfInBounds_toArray, List.set_cons_succ, List.set_cons_zero, D4]), Bk (pj0 HH.out), Bk (pj1 HH.out), Bk (pj2 HH.out), Bk (pj3 HH.out), Bk (pj4 HH.out), Bk (pj5 HH.out), Bk (pj6 HH.out), fun _ => rfl, Bk (pj8 HH.out), Bk (pj9 HH.out), Bk (pj10 HH.out), Bi (pj11 HH.out), Bw (pe12 HH.out)⟩
      · have hns : ¬ Ls listed 10 := fun h => hnl (dq HCL (dq HCL h 9) 8)
        have D4 := (pj4 HH.out) (rq hi 4)
        have D7 := (pj7 HH.out) (rq hi 7)
        have V0 := (pj11 HH.out) hns
        clear hi HCL
        simp only [List.setIfInBounds_toArray, List.set_cons_succ, List.set_cons_zero, D4, D7]
        refine wpOp_yes rfl (by rfl) ?_
        intro K hK
        go_wp2_with fail
        refine (HVS.out W (RA3.out.below V0) (RB3.out.below V0)).mono ?_
        rintro e y ⟨he, hb, hs⟩
        obtain rfl : e = .returned (.bool true) := by exact he
        go_wp2_with fail
        rw [HJ0.out]
        exact ⟨z0, x14, x15, x16, x17, x18, x19, x20, x21, .bool true, x23, x24, (by simp only [List.setIfInBounds_toArray, List.set_cons_succ, List.set_cons_zero, D4, D7]), Bk (pj0 HH.out), Bk (pj1 HH.out), Bk (pj2 HH.out), Bk (pj3 HH.out), Bk (pj4 HH.out), Bk (pj5 HH.out), Bk (pj6 HH.out), Bk (pj7 HH.out), fun _ => rfl, Bk (pj9 HH.out), Ba hns, fun h => belP ((pj11 HH.out) (fun h2 => h h2.fwd)) hb, fun h1 _ => absurd (h1.back (by decide)) hns⟩
      · have D4 := (pj4 HH.out) (rq hi 4)
        have D6 := (pj6 HH.out) (rq hi 6)
        have D8 := (pj8 HH.out) (rq hi 8)
        clear hi HCL
        simp only [List.setIfInBounds_toArray, List.set_cons_succ, List.set_cons_zero, D4, D6, D8]
        refine wpOp_yes rfl (by rfl) ?_
        intro K hK
        go_wp2_with fail
        rw [HJ0.out]
        exact ⟨z0, x14, x15, x16, x17, x18, x19, x20, x21, x22, .bool false, x24, (by simp only [List.setIfInBounds_toArray, List.set_cons_succ, List.set_cons_zero, D4, D6, D8]), Bk (pj0 HH.out), Bk (pj1 HH.out), Bk (pj2 HH.out), Bk (pj3 HH.out), Bk (pj4 HH.out), Bk (pj5 HH.out), Bk (pj6 HH.out), Bk (pj7 HH.out), Bk (pj8 HH.out), fun _ => rfl, Bk (pj10 HH.out), Bi (pj11 HH.out), Bw (pe12 HH.out)⟩
      · have hns : ¬ Ls listed 10 := hnl
        have D4 := (pj4 HH.out) (rq hi 4)
        have D9 := (pj9 HH.out) (rq hi 9)
        have V0 := (pj11 HH.out) hns
        clear hi HCL
        simp only [List.setIfInBounds_toArray, List.set_cons_succ, List.set_cons_zero, D4, D9]
        refine wpOp_one rfl rfl ?_
        intro K hK
        go_wp2_with fail
        rw [HJ0.out]
        exact ⟨z0, x14, x15, x16, x17, x18, x19, x20, x21, x22, x23, .bool false, (by first | (simp only [List.setIfInBounds_toArray, List.set_cons_succ, List.set_cons_zero, D4, D9] <;> fail) | simp only [Act.put, List.setIfInBounds_toArray, List.set_cons_succ, List.set_cons_zero, D4, D9]), Bk (pj0 HH.out), Bk (pj1 HH.out), Bk (pj2 HH.out), Bk (pj3 HH.out), Bk (pj4 HH.out), Bk (pj5 HH.out), Bk (pj6 HH.out), Bk (pj7 HH.out), Bk (pj8 HH.out), Bk (pj9 HH.out), fun _ => ⟨rfl, V0⟩, fun h => absurd hnow h, fun _ h => absurd hnow h⟩
    · intro listed a W hsize hJ hr
      rw [HJ0.out] at hJ
      have hall := all_listed hsize (by kernel_rfl) hr
      obtain ⟨z0, x14, x15, x16, x17, x18, x19, x20, x21, x22, x23, x24, rfl, HF⟩ := hJ
      have HH := Lib.hid HF
      have HEND := (pj10 HH.out) (hall 10 (by decide))
      clear HF HH hall hr hsize
      simp only [List.setIfInBounds_toArray, List.set_cons_succ, List.set_cons_zero]
      obtain ⟨rfl, hbF⟩ := HEND
      have BW4 := Lib.hid (belP BW3.out hbF)
      have RA4 := Lib.hid (RA3.out.below hbF)
      have RB4 := Lib.hid (RB3.out.below hbF)
      have V4 := Lib.hid (HV.out.below BW4.out).up
      have X4 := Lib.hid ((hbF.block X (lt_of_block HX3.out)).trans HX3.out)
      clear hbF
      obtain ⟨w4, rfl⟩ : ∃ w4 : World, w4 = W := ⟨_, rfl⟩
      have lX4 := lt_of_block X4.out
      go_upto_region 7 with (fail)
      go_wp2_with fail
      refine (HP4.out w4 V4.out).mono ?_
      rintro e w5 ⟨A5, n5, c5, B5, m5, d5, mm5, rfl, hsl5, htr5, _, _, b5⟩
      obtain rfl : n5 = Q.length := by have := hsl5.1; rw [strs_length] at this; omega
      rw [← HNQ.out] at hsl5 ⊢
      have SL5 := Lib.hid hsl5.rdq.rd
      have TR5 := Lib.hid (RdT.lower (Nat.zero_le _) htr5.rdt.up)
      rw [hl2] at TR5
      have RA5 := Lib.hid (RA4.out.below b5)
      have RB5 := Lib.hid (RB4.out.below b5)
      have BW5 := Lib.hid (belP BW4.out b5)
      have X5 := Lib.hid ((b5.block X lX4).trans X4.out)
      have lX5 := lt_of_block X5.out
      clear hsl5 htr5 b5
      go_upto_region 8 with (fail)
      refine wp_name (fun w6 hw6 => ?_)
      have b6 : Below w5.heap.size w5 w6 := by rw [hw6]; exact below_alloc1
      obtain ⟨Y, hY⟩ : ∃ Y, Y = w5.heap.size := ⟨_, rfl⟩
      have Y6 := Lib.hid (show w6.heap[Y]? = some (.cells #[.slice A5 nq c5, .slice B5 m5 d5] 27 (0, 0)) by rw [hw6, hY]; exact heap_topG rfl)
      have SL6 := Lib.hid (SL5.out.below b6)
      have TR6 := Lib.hid (TR5.out.below b6)
      rw [← hY]
      clear hw6
      have hw6 := hY
      clear hY
      have RA6 := Lib.hid (RA5.out.below b6)
      have RB6 := Lib.hid (RB5.out.below b6)
      have BW6 := Lib.hid (belP BW5.out b6)
      have X6 := Lib.hid ((b6.block X lX5).trans X5.out)
      clear hw6 b6
      obtain ⟨k0, k1⟩ := cells2G (lay := Below.refl _ _) X6.out
      go_upto_region 10 with (go_at_call 12; refine (HVS.out w6 RA6.out RB6.out).mono ?_; rintro e w7 ⟨rfl, b7, s7⟩)
      have RA7 := Lib.hid (RA6.out.below b7)
      have RB7 := Lib.hid (RB6.out.below b7)
      have SL7 := Lib.hid (SL6.out.below b7)
      have TR7 := Lib.hid (TR6.out.below b7)
      have BW7 := Lib.hid (belP BW6.out b7)
      clear k0 k1
      obtain ⟨k0, k1⟩ := cells2G (lay := b7) X6.out
      obtain ⟨y0, y1⟩ := cells2G (lay := b7) Y6.out
      have X7 := Lib.hid ((b7.block X (lt_of_block X6.out)).trans X6.out)
      have Y7 := Lib.hid ((b7.block Y (lt_of_block Y6.out)).trans Y6.out)
      clear b7
      go_wp2_with (first | (go_at_call 14; refine (HES.out nq _ l A5 c5 B5 d5 w7 RA7.out.rd RB7.out SL7.out TR7.out rfl hz6).mono ?_; rw [HER.out]; rintro e w8 ⟨rfl, b8, s8⟩; obtain ⟨k2, k3⟩ := cells2G (lay := b8) X7.out; obtain ⟨y2, y3⟩ := cells2G (lay := b8) Y7.out) | (go_at_call 15; refine (HEI.out nq _ l A5 c5 B5 d5 w8 (RA7.out.below b8).rd (RB7.out.below b8) (SL7.out.below b8) (TR7.out.below b8) rfl hz6).mono ?_; rw [HER.out]; rintro e w9 ⟨rfl, b9, s9⟩))
      go_ret
      exact ⟨rfl, belP BW7.out (belP b8 b9)⟩
set_option maxRecDepth 100000 in
theorem door_fnProgramText (os : Os) (args : Array Value) : laidMetH Tryz.prog Rows.fnProgramTextRow.laid ((World.doorLaid Tryz.prog 4000 os).forCall (fun _ _ => 0) ⟨#[], args, []⟩).memory :=
  laidMetH_of_parts3 (fuel := 10) (laidMet_of_run' 10 (by kernel_rfl) (by kernel_rfl)) (by kernel_rfl) (by kernel_rfl)
set_option maxRecDepth 100000 in
theorem lifted_fnProgramText (os : Os) (started : os.Started) (H : Type) (enc : TypeId × Value → H) :
    ReturnsInHanded {} Tryz.checked os 3 .any (fun w args => (Rows.fnProgramTextSpec.pre enc Tryz.prog Tryz.f3 [] false w args ∧ laidMetH Tryz.prog Rows.fnProgramTextRow.laid w) ∧ sizedMet enc Tryz.prog Tryz.f3 (OpenSpec.ofChange Rows.fnProgramTextSpec) false w args)
      (Rows.fnProgramTextSpec.post enc Tryz.prog Tryz.f3 false true false false) := by
  refine returnsInHanded_of_change_and (C := Tryz.checked) (X := fun w _ => laidMetH Tryz.prog Rows.fnProgramTextRow.laid w) (fun _ _ _ hh h => h.of_heap hh) own started (by kernel_rfl) Tryz.func3
    (ChangeSpec.witness_shaped (enc := enc) (C := Tryz.checked) (os := os) (X := fun w _ => laidMetH Tryz.prog Rows.fnProgramTextRow.laid w) false (World.doorLaid Tryz.prog 4000 os) #[.slice none 0 0] 10 rfl (World.shaped_of_RefB (by kernel_rfl) (by kernel_rfl)) (by kernel_rfl) (by kernel_rfl) (by kernel_rfl) (door_fnProgramText os _)) ?_
  intro W base args ds gs before hval0 hW _ _ hL _
  have hval : ∀ (j : Nat) t v, Tryz.f3.params[j]? = some t → args[j]? = some v → Value.okWide Tryz.prog W .any base t v := hval0
  have hW' := hW
  obtain ⟨p, q, hA0, hV, rfl, hfz, hnd⟩ := hW
  have hA : DataW.TrodAll enc Tryz.prog W 0 (fun _ => true) true Tryz.f3.params.toList args.toList ds p := hA0
  have hGN : GN W := gn_of_laid6 hL
  have hltp : ∀ x ∈ p, x.block < W.heap.size := fun x hx => hW'.lt x (by simp [hx])
  have hltq : ∀ x ∈ q, x.block < W.heap.size := fun x hx => hW'.lt x (by simp [hx])
  have key : Calls Tryz.prog 3 args W fun e W' => e = .returned (.bool true) ∧ Below W.heap.size W W' := by
    rw [Tryz.params3] at hA hval
    obtain ⟨v0, vs0, d0, ds0, p0, q0, hargs, rfl, rfl, h0, r0⟩ := trodAll_cons hA
    obtain ⟨rfl, rfl, rfl⟩ := trodAll_nil r0
    obtain rfl : args = #[v0] := by cases args; simp_all
    clear hA0 hval0 hW' hA hV hltp hltq
    obtain ⟨fuel0, hf0⟩ := h0
    obtain ⟨A, n, c, l, hv0, hnc, hcm, hl, hrd⟩ := rd_of_slice (cellsf := bcell) Tryz.underlying22 cells_byte (by decide) trod_byte bcell_len (slice_one (hval 0 22 v0 rfl rfl) Tryz.underlying22 hf0)
    subst hv0
    exact law_ProgramText A n c l W hrd hl hnc hcm (lv_of_laid6 hL)
  refine key.mono fun e W' ⟨he, hb⟩ => ?_
  subst he
  obtain ⟨g1, hgs, hvs⟩ := vars_stay laidOut strRec hV hltq hb (by obtain ⟨_, _, _, h, _⟩ := hGN; exact h)
  subst hgs
  have hrd : (Tryz.f3.params.toList.all fun t => Tryz.prog.readableRec t && decide (t < Tryz.prog.types.size)) = true := by kernel_rfl
  have hst : ∀ sp : Nat → Bool, (∀ x ∈ p ++ q, sp x.block = true) → DataW.TrodAll enc Tryz.prog W' 0 sp true Tryz.f3.params.toList args.toList ds p := fun sp hsp => trodAll_stays (sp := sp) (W' := W') laidOut (fun t ht => by simpa using List.all_eq_true.1 hrd t ht) hA (fun x hx => hb.same (hltp x hx)) (fun x hx => hsp x (by simp [hx]))
  have hds : ds.length = 1 := by
    rw [Tryz.params3] at hA
    obtain ⟨v0, vs0, d0, ds0, p0, q0, _, rfl, rfl, h0, r0⟩ := trodAll_cons hA
    obtain ⟨_, rfl, _⟩ := trodAll_nil r0
    rfl
  clear hA hA0 hval hval0
  obtain ⟨e0, rfl⟩ : ∃ e0, ds = [e0] := by match ds, hds with | [e0], _ => exact ⟨e0, rfl⟩
  exact ⟨_, rfl, post_of_below (pa := p) (pv := q) hW' (fun _ _ _ => (trodAll_cons_mk (shut_bool Tryz.underlying4 _) trodAll_mk0)) hst (fun sp hsp => hvs sp (fun x hx => hsp x (by simp [hx]))) rfl hb (ok_one (by kernel_rfl) rfl (okWide_bool_mk Tryz.underlying4 _))⟩
theorem over_fnProgramText : Rows.fnProgramTextRow.holds Tryz.pinned (OpenSpec.ofChange Rows.fnProgramTextSpec) :=
  OpenClaim.holds_of_wide 3 Tryz.f3 rfl rfl rfl rfl rfl rfl rfl ⟨rfl, rfl, rfl, rfl, rfl⟩ rfl rfl rfl rfl rfl (by kernel_rfl) Tryz.func3 (by kernel_rfl)
    (of_decide_eq_true (by kernel_rfl)) (by unfold Func.isWrapper; first | (rw [if_pos (by decide +kernel)]; kernel_rfl) | (rw [if_neg (by decide +kernel)]; exact ⟨rfl, rfl⟩))
    (fun os started H enc _ => lifted_fnProgramText os started H enc)
/-- The statement: the tied card. -/
theorem fnProgramText_holds : Rows.FnProgramTextCardSaid :=
  Claim7.holds_tied_plain_at .later [] [.data, .data, .data, .sentinel, .sentinel, .data] true (true, "64224490679f6881f559166ffb3ad8f164bbc1af6078a3191faee35b94f5eb6a") true
    over_fnProgramText (fun _ h => by cases h) (by kernel_rfl) (fun _ h => by cases h) fnProgramText_row_tie rfl ⟨rfl, rfl⟩ (by kernel_rfl) rfl
    (fun f fn hf hfn => by
      obtain rfl : f = 3 := Option.some.inj ((show Tryz.prog.funcNamed "loop.example/g00506/laws.FnProgramText" = some 3 by kernel_rfl).symm.trans hf) |>.symm
      obtain rfl : fn = Tryz.f3 := (Option.some.inj (Tryz.func3.symm.trans hfn)).symm
      exact ⟨by kernel_rfl, fun j t ht => by
        have hall : (Tryz.f3.params.toList.all fun u => !Tryz.prog.wantsStandIn u) = true := by kernel_rfl
        have hm : t ∈ Tryz.f3.params.toList := by simpa using Array.mem_of_getElem? ht
        exact (show Tryz.prog.wantsStandIn t = false by simpa using List.all_eq_true.1 hall t hm)⟩)
    (by kernel_rfl)
end Go.Proofs.YthkbckkghnbonaaGreatDoor
