/- What the calls that this law reaches answer, part 4 of 30. -/
import Derived.Test.YtbamjfbfipkioaaDoorJFCheck3
import Derived.Test.YtbamjfbfipkioaaDoorJFCheck1
namespace Go.Proofs.YtbamjfbfipkioaaDoor
open Go.RowKit
set_option linter.unusedVariables false
theorem boxcells3 {w w' : World} {b : Nat} {x0 x1 x2 : Value} {t : TypeId} (lay : Below w'.heap.size w' w) (h : w'.heap[b]? = some (.cells #[x0, x1, x2] t (0, 0))) :
    w.cell? ⟨b, 0, none⟩ = some x0 ∧ w.cell? ⟨b, 1, none⟩ = some x1 ∧ w.cell? ⟨b, 2, none⟩ = some x2 := by
  have h' : w.heap[b]? = some (.cells #[x0, x1, x2] t (0, 0)) := (lay.block b (lt_of_block h)).trans h
  exact ⟨by simp [World.cell?, h'], by simp [World.cell?, h'], by simp [World.cell?, h']⟩
/-- A call that returns a code and a name. -/
def RetBad2 (c : Bad) (w : World) (e : Ending) (w' : World) : Prop := e = .returned (.tuple #[.int .i64 c.1, .string c.2]) ∧ Below w.heap.size w w' ∧ w.heap.size ≤ w'.heap.size
set_option maxRecDepth 100000 in
set_option maxHeartbeats 8000000 in
theorem gate_impl (C : Value) (word : ByteArray) (args names held : List ByteArray) (count : Int) (Aa : Option Addr) (m ca : Nat) (vb : Value) (An Ah : Option Addr) (nn cn nh ch : Nat) (nested : Bool) (w : World)
    (hm : args.length = m) (hra : Rd w 1 Aa m (strs args)) (hca : m ≤ ca) (hnn : names.length = nn) (hrn : Rd w 1 An nn (strs names)) (hnh : held.length = nh) (hrh : Rd w 1 Ah nh (strs held)) (h1 : m ≤ 1048576) (h2 : nn ≤ 1048576) (h3 : nh ≤ 1048576) (hvb : ∃ A n c, vb = .slice A n c) :
    Calls Tryd.prog 65 #[C, .agg #[.int .i64 1, .string word, .slice Aa m ca, .int .i64 count, vb], .agg #[.slice An nn cn, .slice Ah nh ch, .bool nested]] w (RetBad2 (gateBad names held args word) w) := by
  obtain ⟨Ab, nb, cb, rfl⟩ := hvb
  obtain ⟨w0, hw0⟩ : ∃ w0, w0 = (w.alloc (.cells #[.int .i64 1, .string word, .slice Aa m ca, .int .i64 count, .slice Ab nb cb] 27)).alloc (.cells #[.slice An nn cn, .slice Ah nh ch, .bool nested] 65) := ⟨_, rfl⟩
  have X0 := Lib.hid (show w0.heap[w.heap.size]? = some (.cells #[.int .i64 1, .string word, .slice Aa m ca, .int .i64 count, .slice Ab nb cb] 27 (0, 0)) by rw [hw0]; exact boxed2_0 _ _ _)
  have X1 := Lib.hid (show w0.heap[w.heap.size + 1]? = some (.cells #[.slice An nn cn, .slice Ah nh ch, .bool nested] 65 (0, 0)) by rw [hw0]; exact boxed2_1 _ _ _)
  have b0 : Below w.heap.size w w0 := by rw [hw0]; exact (by repeat (first | exact Below.refl _ _ | assumption | (refine Below.trans ?_ (Below.mono (by assumption) (by first | omega | (simp; done) | (simp; omega)))) | (with_reducible refine Below.drew ?_) | (with_reducible refine Below.alloc ?_ (by first | omega | (simp; done) | (simp; omega)) _) | (with_reducible refine Below.setCell ?_ (by first | omega | (simp; done) | (simp; omega)) _)))
  have hz : w.heap.size + 1 < w0.heap.size := by rw [hw0]; simp
  have HW := Lib.hid hw0
  have HA := Lib.hid (hra.below b0)
  have HN := Lib.hid (hrn.below b0)
  have HH := Lib.hid (hrh.below b0)
  have HM := Lib.hid hm
  have HNN := Lib.hid hnn
  have HNH := Lib.hid hnh
  have B0 := Lib.hid b0
  clear hw0 b0 hra hrn hrh hm hnn hnh
  obtain ⟨p0, p1, p2, p3, p4⟩ := boxcells5 (lay := Below.refl _ _) X0.out
  obtain ⟨q0, q1, q2⟩ := boxcells3 (lay := Below.refl _ _) X1.out
  have hz0 : w.heap.size < w0.heap.size := by omega
  go_enter Tryd.func65, Tryd.ntmps65
  go_wp2_with fail
  rw [← HW.out]
  go_loop [15] (fun i => ∃ t : Nat, t ≤ m ∧ i = .int .i64 t ∧ Hid (chkA names held args 0 args = chkA names held args t (args.drop t))) (fun i => m - (intOf i).toNat)
  case atStart => exact ⟨0, Nat.zero_le _, rfl, rfl⟩
  case round =>
    obtain ⟨t, ht, rfl, hc⟩ := hrel
    by_cases hlt : t < m
    · obtain ⟨a, ha⟩ : ∃ a, args[t]? = some a := ⟨_, List.getElem?_eq_getElem (by rw [HM.out]; exact hlt)⟩
      obtain ⟨b, off, rfl, hbl, hcl⟩ := HA.out.2 (by omega)
      have r0 := hcl t _ (strs_at ha)
      have HAT := Lib.hid ha
      have RT : Hid (Rd w0 1 (some ⟨b, off, none⟩) t (strs (args.take t))) := by
        have := HA.out.take (t := t) (by omega)
        rw [show (strs args).take t = strs (args.take t) by simp [strs]] at this
        exact this
      clear hcl ha
      cases e1 : hasS names a
      · have HF := Lib.hid (gateBad_n (word := word) (hc.out.trans (chkA_2 HAT.out e1)) (show (2 : Int) ≠ 0 by decide))
        go_wp2_with (first | (go_at_call 38; (with_reducible refine (hasWord_any An nn cn names a w0 HN.out HNN.out (by omega)).mono ?_); rintro e w' ⟨rfl, rfl⟩) | (go_at_call 38; (with_reducible refine (hasWord_any Ah nh ch held a w0 HH.out HNH.out (by omega)).mono ?_); rintro e w' ⟨rfl, rfl⟩) | (go_at_call 38; (with_reducible refine (hasWord_any (some ⟨b, off, none⟩) t _ (args.take t) a w0 RT.out (by rw [List.length_take, HM.out]; omega) (by omega)).mono ?_); rintro e w' ⟨rfl, rfl⟩))
        go_ret2
        exact ⟨by rw [HF.out]; rfl, B0.out, B0.out.size⟩
      · cases e2 : hasS held a
        · cases e3 : hasS (args.take t) a
          · have HN1 := Lib.hid (hc.out.trans (chkA_0 HAT.out e1 e2 e3))
            go_wp2_with (first | (go_at_call 38; (with_reducible refine (hasWord_any An nn cn names a w0 HN.out HNN.out (by omega)).mono ?_); rintro e w' ⟨rfl, rfl⟩) | (go_at_call 38; (with_reducible refine (hasWord_any Ah nh ch held a w0 HH.out HNH.out (by omega)).mono ?_); rintro e w' ⟨rfl, rfl⟩) | (go_at_call 38; (with_reducible refine (hasWord_any (some ⟨b, off, none⟩) t _ (args.take t) a w0 RT.out (by rw [List.length_take, HM.out]; omega) (by omega)).mono ?_); rintro e w' ⟨rfl, rfl⟩))
            go_round
            case rel => exact ⟨t + 1, by omega, by go_num, HN1⟩
            case measure => simp [intOf]; omega
          · have HF := Lib.hid (gateBad_n (word := word) (hc.out.trans (chkA_3 HAT.out e1 e2 e3)) (show (3 : Int) ≠ 0 by decide))
            go_wp2_with (first | (go_at_call 38; (with_reducible refine (hasWord_any An nn cn names a w0 HN.out HNN.out (by omega)).mono ?_); rintro e w' ⟨rfl, rfl⟩) | (go_at_call 38; (with_reducible refine (hasWord_any Ah nh ch held a w0 HH.out HNH.out (by omega)).mono ?_); rintro e w' ⟨rfl, rfl⟩) | (go_at_call 38; (with_reducible refine (hasWord_any (some ⟨b, off, none⟩) t _ (args.take t) a w0 RT.out (by rw [List.length_take, HM.out]; omega) (by omega)).mono ?_); rintro e w' ⟨rfl, rfl⟩))
            go_ret2
            exact ⟨by rw [HF.out]; rfl, B0.out, B0.out.size⟩
        · have HF := Lib.hid (gateBad_n (word := word) (hc.out.trans (chkA_4 HAT.out e1 e2)) (show (4 : Int) ≠ 0 by decide))
          go_wp2_with (first | (go_at_call 38; (with_reducible refine (hasWord_any An nn cn names a w0 HN.out HNN.out (by omega)).mono ?_); rintro e w' ⟨rfl, rfl⟩) | (go_at_call 38; (with_reducible refine (hasWord_any Ah nh ch held a w0 HH.out HNH.out (by omega)).mono ?_); rintro e w' ⟨rfl, rfl⟩) | (go_at_call 38; (with_reducible refine (hasWord_any (some ⟨b, off, none⟩) t _ (args.take t) a w0 RT.out (by rw [List.length_take, HM.out]; omega) (by omega)).mono ?_); rintro e w' ⟨rfl, rfl⟩))
          go_ret2
          exact ⟨by rw [HF.out]; rfl, B0.out, B0.out.size⟩
    · obtain rfl : t = m := by omega
      have hc' : Hid (chkA names held args 0 args = bad0) := by
        have := hc.out
        rw [List.drop_of_length_le (by rw [HM.out]; exact Nat.le_refl _)] at this
        exact this.trans rfl
      have hctl := badI_ctl word held.length
      rw [HNH.out] at hctl
      have HCT := Lib.hid hctl
      clear hctl
      cases e16 : word.toList == [116]
      · cases e17 : word.toList == [116, 100]
        · cases e18 : word.toList == [99, 99, 120]
          · have hnn4 : nh = 0 ∨ nh = 1 ∨ nh = 2 ∨ 2 < nh := by omega
            rcases hnn4 with hn0 | hn1 | hn2 | hn3
            · have hb : badI word nh = false := by simp [badI, hardW, e16, e17, e18, hn0]
              have hcc : ctlS (gkind word) nh = true := by have := HCT.out; rw [hb] at this; simpa using this.symm
              have HF := Lib.hid (gateBad_t hc'.out (by rw [HNH.out]; exact hcc))
              have d1 : ((nh : Int) == 1) = false := by rw [beq_eq_false_iff_ne]; omega
              have d2 : ((nh : Int) == 2) = false := by rw [beq_eq_false_iff_ne]; omega
              have d3 : decide (2 < (nh : Int)) = false := by simp; omega
              have d4 : decide (2 < nh) = false := by simp; omega
              have ne16 : (!(word.toList == [116])) = true := by rw [e16]; rfl
              have ne17 : (!(word.toList == [116, 100])) = true := by rw [e17]; rfl
              have ne18 : (!(word.toList == [99, 99, 120])) = true := by rw [e18]; rfl
              clear hb hcc hn0 hc'
              go_wp2_with fail
              go_ret2
              exact ⟨by rw [HF.out]; rfl, B0.out, B0.out.size⟩
            · have hb : badI word nh = false := by simp [badI, hardW, e16, e17, e18, hn1]
              have hcc : ctlS (gkind word) nh = true := by have := HCT.out; rw [hb] at this; simpa using this.symm
              have HF := Lib.hid (gateBad_t hc'.out (by rw [HNH.out]; exact hcc))
              have d1 : ((nh : Int) == 1) = true := by simp; omega
              have d2 : ((nh : Int) == 2) = false := by rw [beq_eq_false_iff_ne]; omega
              have d3 : decide (2 < (nh : Int)) = false := by simp; omega
              have d4 : decide (2 < nh) = false := by simp; omega
              have ne16 : (!(word.toList == [116])) = true := by rw [e16]; rfl
              have ne17 : (!(word.toList == [116, 100])) = true := by rw [e17]; rfl
              have ne18 : (!(word.toList == [99, 99, 120])) = true := by rw [e18]; rfl
              clear hb hcc hn1 hc'
              go_wp2_with fail
              go_ret2
              exact ⟨by rw [HF.out]; rfl, B0.out, B0.out.size⟩
            · cases e19 : word.toList == [120]
              · cases e20 : word.toList == [122]
                · have hb : badI word nh = true := by simp [badI, hardW, e16, e17, e18, e19, e20, hn2]
                  have hcc : ctlS (gkind word) nh = false := by have := HCT.out; rw [hb] at this; simpa using this.symm
                  have HF := Lib.hid (gateBad_f hc'.out (by rw [HNH.out]; exact hcc))
                  have d1 : ((nh : Int) == 1) = false := by rw [beq_eq_false_iff_ne]; omega
                  have d2 : ((nh : Int) == 2) = true := by simp; omega
                  have d3 : decide (2 < (nh : Int)) = false := by simp; omega
                  have d4 : decide (2 < nh) = false := by simp; omega
                  have ne16 : (!(word.toList == [116])) = true := by rw [e16]; rfl
                  have ne17 : (!(word.toList == [116, 100])) = true := by rw [e17]; rfl
                  have ne18 : (!(word.toList == [99, 99, 120])) = true := by rw [e18]; rfl
                  have ne19 : (!(word.toList == [120])) = true := by rw [e19]; rfl
                  have ne20 : (!(word.toList == [122])) = true := by rw [e20]; rfl
                  clear hb hcc hn2 hc'
                  go_wp2_with fail
                  go_quiet (fail)
                  go_wp2_with fail
                  go_ret2
                  exact ⟨by rw [HF.out]; rfl, below_drewN B0.out _, (below_drewN B0.out _).size⟩
                · have hb : badI word nh = false := by simp [badI, hardW, e16, e17, e18, e19, e20, hn2]
                  have hcc : ctlS (gkind word) nh = true := by have := HCT.out; rw [hb] at this; simpa using this.symm
                  have HF := Lib.hid (gateBad_t hc'.out (by rw [HNH.out]; exact hcc))
                  have d1 : ((nh : Int) == 1) = false := by rw [beq_eq_false_iff_ne]; omega
                  have d2 : ((nh : Int) == 2) = true := by simp; omega
                  have d3 : decide (2 < (nh : Int)) = false := by simp; omega
                  have d4 : decide (2 < nh) = false := by simp; omega
                  have ne16 : (!(word.toList == [116])) = true := by rw [e16]; rfl
                  have ne17 : (!(word.toList == [116, 100])) = true := by rw [e17]; rfl
                  have ne18 : (!(word.toList == [99, 99, 120])) = true := by rw [e18]; rfl
                  have ne19 : (!(word.toList == [120])) = true := by rw [e19]; rfl
                  have ne20 : (!(word.toList == [122])) = false := by rw [e20]; rfl
                  clear hb hcc hn2 hc'
                  go_wp2_with fail
                  go_ret2
                  exact ⟨by rw [HF.out]; rfl, B0.out, B0.out.size⟩
              · have hb : badI word nh = false := by simp [badI, hardW, e16, e17, e18, e19, hn2]
                have hcc : ctlS (gkind word) nh = true := by have := HCT.out; rw [hb] at this; simpa using this.symm
                have HF := Lib.hid (gateBad_t hc'.out (by rw [HNH.out]; exact hcc))
                have d1 : ((nh : Int) == 1) = false := by rw [beq_eq_false_iff_ne]; omega
                have d2 : ((nh : Int) == 2) = true := by simp; omega
                have d3 : decide (2 < (nh : Int)) = false := by simp; omega
                have d4 : decide (2 < nh) = false := by simp; omega
                have ne16 : (!(word.toList == [116])) = true := by rw [e16]; rfl
                have ne17 : (!(word.toList == [116, 100])) = true := by rw [e17]; rfl
                have ne18 : (!(word.toList == [99, 99, 120])) = true := by rw [e18]; rfl
                have ne19 : (!(word.toList == [120])) = false := by rw [e19]; rfl
                clear hb hcc hn2 hc'
                go_wp2_with fail
                go_ret2
                exact ⟨by rw [HF.out]; rfl, B0.out, B0.out.size⟩
            · have hx : nh ≠ 1 ∧ nh ≠ 2 := by omega
              have hb : badI word nh = true := by simp [badI, hardW, e16, e17, e18, hn3, hx.1, hx.2]
              have hcc : ctlS (gkind word) nh = false := by have := HCT.out; rw [hb] at this; simpa using this.symm
              have HF := Lib.hid (gateBad_f hc'.out (by rw [HNH.out]; exact hcc))
              have d1 : ((nh : Int) == 1) = false := by rw [beq_eq_false_iff_ne]; omega
              have d2 : ((nh : Int) == 2) = false := by rw [beq_eq_false_iff_ne]; omega
              have d3 : decide (2 < (nh : Int)) = true := by simp; omega
              have d4 : decide (2 < nh) = true := by simp; omega
              have ne16 : (!(word.toList == [116])) = true := by rw [e16]; rfl
              have ne17 : (!(word.toList == [116, 100])) = true := by rw [e17]; rfl
              have ne18 : (!(word.toList == [99, 99, 120])) = true := by rw [e18]; rfl
              clear hb hcc hn3 hc'
              go_wp2_with fail
              go_quiet (fail)
              go_wp2_with fail
              go_ret2
              exact ⟨by rw [HF.out]; rfl, below_drewN B0.out _, (below_drewN B0.out _).size⟩
          · have hnn4 : nh = 0 ∨ nh = 1 ∨ nh = 2 ∨ 2 < nh := by omega
            rcases hnn4 with hn0 | hn1 | hn2 | hn3
            · have hb : badI word nh = false := by simp [badI, hardW, e16, e17, e18, hn0]
              have hcc : ctlS (gkind word) nh = true := by have := HCT.out; rw [hb] at this; simpa using this.symm
              have HF := Lib.hid (gateBad_t hc'.out (by rw [HNH.out]; exact hcc))
              have d1 : ((nh : Int) == 1) = false := by rw [beq_eq_false_iff_ne]; omega
              have d2 : ((nh : Int) == 2) = false := by rw [beq_eq_false_iff_ne]; omega
              have d3 : decide (2 < (nh : Int)) = false := by simp; omega
              have d4 : decide (2 < nh) = false := by simp; omega
              have ne16 : (!(word.toList == [116])) = true := by rw [e16]; rfl
              have ne17 : (!(word.toList == [116, 100])) = true := by rw [e17]; rfl
              have ne18 : (!(word.toList == [99, 99, 120])) = false := by rw [e18]; rfl
              clear hb hcc hn0 hc'
              go_wp2_with fail
              go_ret2
              exact ⟨by rw [HF.out]; rfl, B0.out, B0.out.size⟩
            · have hb : badI word nh = true := by simp [badI, hardW, e16, e17, e18, hn1]
              have hcc : ctlS (gkind word) nh = false := by have := HCT.out; rw [hb] at this; simpa using this.symm
              have HF := Lib.hid (gateBad_f hc'.out (by rw [HNH.out]; exact hcc))
              have d1 : ((nh : Int) == 1) = true := by simp; omega
              have d2 : ((nh : Int) == 2) = false := by rw [beq_eq_false_iff_ne]; omega
              have d3 : decide (2 < (nh : Int)) = false := by simp; omega
              have d4 : decide (2 < nh) = false := by simp; omega
              have ne16 : (!(word.toList == [116])) = true := by rw [e16]; rfl
              have ne17 : (!(word.toList == [116, 100])) = true := by rw [e17]; rfl
              have ne18 : (!(word.toList == [99, 99, 120])) = false := by rw [e18]; rfl
              clear hb hcc hn1 hc'
              go_wp2_with fail
              go_quiet (fail)
              go_wp2_with fail
              go_ret2
              exact ⟨by rw [HF.out]; rfl, below_drewN B0.out _, (below_drewN B0.out _).size⟩
            · cases e19 : word.toList == [120]
              · cases e20 : word.toList == [122]
                · have hb : badI word nh = true := by simp [badI, hardW, e16, e17, e18, e19, e20, hn2]
                  have hcc : ctlS (gkind word) nh = false := by have := HCT.out; rw [hb] at this; simpa using this.symm
                  have HF := Lib.hid (gateBad_f hc'.out (by rw [HNH.out]; exact hcc))
                  have d1 : ((nh : Int) == 1) = false := by rw [beq_eq_false_iff_ne]; omega
                  have d2 : ((nh : Int) == 2) = true := by simp; omega
                  have d3 : decide (2 < (nh : Int)) = false := by simp; omega
                  have d4 : decide (2 < nh) = false := by simp; omega
                  have ne16 : (!(word.toList == [116])) = true := by rw [e16]; rfl
                  have ne17 : (!(word.toList == [116, 100])) = true := by rw [e17]; rfl
                  have ne18 : (!(word.toList == [99, 99, 120])) = false := by rw [e18]; rfl
                  have ne19 : (!(word.toList == [120])) = true := by rw [e19]; rfl
                  have ne20 : (!(word.toList == [122])) = true := by rw [e20]; rfl
                  clear hb hcc hn2 hc'
                  go_wp2_with fail
                  go_quiet (fail)
                  go_wp2_with fail
                  go_ret2
                  exact ⟨by rw [HF.out]; rfl, below_drewN B0.out _, (below_drewN B0.out _).size⟩
                · have hb : badI word nh = false := by simp [badI, hardW, e16, e17, e18, e19, e20, hn2]
                  have hcc : ctlS (gkind word) nh = true := by have := HCT.out; rw [hb] at this; simpa using this.symm
                  have HF := Lib.hid (gateBad_t hc'.out (by rw [HNH.out]; exact hcc))
                  have d1 : ((nh : Int) == 1) = false := by rw [beq_eq_false_iff_ne]; omega
                  have d2 : ((nh : Int) == 2) = true := by simp; omega
                  have d3 : decide (2 < (nh : Int)) = false := by simp; omega
                  have d4 : decide (2 < nh) = false := by simp; omega
                  have ne16 : (!(word.toList == [116])) = true := by rw [e16]; rfl
                  have ne17 : (!(word.toList == [116, 100])) = true := by rw [e17]; rfl
                  have ne18 : (!(word.toList == [99, 99, 120])) = false := by rw [e18]; rfl
                  have ne19 : (!(word.toList == [120])) = true := by rw [e19]; rfl
                  have ne20 : (!(word.toList == [122])) = false := by rw [e20]; rfl
                  clear hb hcc hn2 hc'
                  go_wp2_with fail
                  go_ret2
                  exact ⟨by rw [HF.out]; rfl, B0.out, B0.out.size⟩
              · have hb : badI word nh = false := by simp [badI, hardW, e16, e17, e18, e19, hn2]
                have hcc : ctlS (gkind word) nh = true := by have := HCT.out; rw [hb] at this; simpa using this.symm
                have HF := Lib.hid (gateBad_t hc'.out (by rw [HNH.out]; exact hcc))
                have d1 : ((nh : Int) == 1) = false := by rw [beq_eq_false_iff_ne]; omega
                have d2 : ((nh : Int) == 2) = true := by simp; omega
                have d3 : decide (2 < (nh : Int)) = false := by simp; omega
                have d4 : decide (2 < nh) = false := by simp; omega
                have ne16 : (!(word.toList == [116])) = true := by rw [e16]; rfl
                have ne17 : (!(word.toList == [116, 100])) = true := by rw [e17]; rfl
                have ne18 : (!(word.toList == [99, 99, 120])) = false := by rw [e18]; rfl
                have ne19 : (!(word.toList == [120])) = false := by rw [e19]; rfl
                clear hb hcc hn2 hc'
                go_wp2_with fail
                go_ret2
                exact ⟨by rw [HF.out]; rfl, B0.out, B0.out.size⟩
            · have hx : nh ≠ 1 ∧ nh ≠ 2 := by omega
              have hb : badI word nh = true := by simp [badI, hardW, e16, e17, e18, hn3, hx.1, hx.2]
              have hcc : ctlS (gkind word) nh = false := by have := HCT.out; rw [hb] at this; simpa using this.symm
              have HF := Lib.hid (gateBad_f hc'.out (by rw [HNH.out]; exact hcc))
              have d1 : ((nh : Int) == 1) = false := by rw [beq_eq_false_iff_ne]; omega
              have d2 : ((nh : Int) == 2) = false := by rw [beq_eq_false_iff_ne]; omega
              have d3 : decide (2 < (nh : Int)) = true := by simp; omega
              have d4 : decide (2 < nh) = true := by simp; omega
              have ne16 : (!(word.toList == [116])) = true := by rw [e16]; rfl
              have ne17 : (!(word.toList == [116, 100])) = true := by rw [e17]; rfl
              have ne18 : (!(word.toList == [99, 99, 120])) = false := by rw [e18]; rfl
              clear hb hcc hn3 hc'
              go_wp2_with fail
              go_quiet (fail)
              go_wp2_with fail
              go_ret2
              exact ⟨by rw [HF.out]; rfl, below_drewN B0.out _, (below_drewN B0.out _).size⟩
        · have hnn4 : nh = 0 ∨ nh = 1 ∨ nh = 2 ∨ 2 < nh := by omega
          rcases hnn4 with hn0 | hn1 | hn2 | hn3
          · have hb : badI word nh = false := by simp [badI, hardW, e16, e17, hn0]
            have hcc : ctlS (gkind word) nh = true := by have := HCT.out; rw [hb] at this; simpa using this.symm
            have HF := Lib.hid (gateBad_t hc'.out (by rw [HNH.out]; exact hcc))
            have d1 : ((nh : Int) == 1) = false := by rw [beq_eq_false_iff_ne]; omega
            have d2 : ((nh : Int) == 2) = false := by rw [beq_eq_false_iff_ne]; omega
            have d3 : decide (2 < (nh : Int)) = false := by simp; omega
            have d4 : decide (2 < nh) = false := by simp; omega
            have ne16 : (!(word.toList == [116])) = true := by rw [e16]; rfl
            have ne17 : (!(word.toList == [116, 100])) = false := by rw [e17]; rfl
            clear hb hcc hn0 hc'
            go_wp2_with fail
            go_ret2
            exact ⟨by rw [HF.out]; rfl, B0.out, B0.out.size⟩
          · have hb : badI word nh = true := by simp [badI, hardW, e16, e17, hn1]
            have hcc : ctlS (gkind word) nh = false := by have := HCT.out; rw [hb] at this; simpa using this.symm
            have HF := Lib.hid (gateBad_f hc'.out (by rw [HNH.out]; exact hcc))
            have d1 : ((nh : Int) == 1) = true := by simp; omega
            have d2 : ((nh : Int) == 2) = false := by rw [beq_eq_false_iff_ne]; omega
            have d3 : decide (2 < (nh : Int)) = false := by simp; omega
            have d4 : decide (2 < nh) = false := by simp; omega
            have ne16 : (!(word.toList == [116])) = true := by rw [e16]; rfl
            have ne17 : (!(word.toList == [116, 100])) = false := by rw [e17]; rfl
            clear hb hcc hn1 hc'
            go_wp2_with fail
            go_quiet (fail)
            go_wp2_with fail
            go_ret2
            exact ⟨by rw [HF.out]; rfl, below_drewN B0.out _, (below_drewN B0.out _).size⟩
          · cases e19 : word.toList == [120]
            · cases e20 : word.toList == [122]
              · have hb : badI word nh = true := by simp [badI, hardW, e16, e17, e19, e20, hn2]
                have hcc : ctlS (gkind word) nh = false := by have := HCT.out; rw [hb] at this; simpa using this.symm
                have HF := Lib.hid (gateBad_f hc'.out (by rw [HNH.out]; exact hcc))
                have d1 : ((nh : Int) == 1) = false := by rw [beq_eq_false_iff_ne]; omega
                have d2 : ((nh : Int) == 2) = true := by simp; omega
                have d3 : decide (2 < (nh : Int)) = false := by simp; omega
                have d4 : decide (2 < nh) = false := by simp; omega
                have ne16 : (!(word.toList == [116])) = true := by rw [e16]; rfl
                have ne17 : (!(word.toList == [116, 100])) = false := by rw [e17]; rfl
                have ne19 : (!(word.toList == [120])) = true := by rw [e19]; rfl
                have ne20 : (!(word.toList == [122])) = true := by rw [e20]; rfl
                clear hb hcc hn2 hc'
                go_wp2_with fail
                go_quiet (fail)
                go_wp2_with fail
                go_ret2
                exact ⟨by rw [HF.out]; rfl, below_drewN B0.out _, (below_drewN B0.out _).size⟩
              · have hb : badI word nh = false := by simp [badI, hardW, e16, e17, e19, e20, hn2]
                have hcc : ctlS (gkind word) nh = true := by have := HCT.out; rw [hb] at this; simpa using this.symm
                have HF := Lib.hid (gateBad_t hc'.out (by rw [HNH.out]; exact hcc))
                have d1 : ((nh : Int) == 1) = false := by rw [beq_eq_false_iff_ne]; omega
                have d2 : ((nh : Int) == 2) = true := by simp; omega
                have d3 : decide (2 < (nh : Int)) = false := by simp; omega
                have d4 : decide (2 < nh) = false := by simp; omega
                have ne16 : (!(word.toList == [116])) = true := by rw [e16]; rfl
                have ne17 : (!(word.toList == [116, 100])) = false := by rw [e17]; rfl
                have ne19 : (!(word.toList == [120])) = true := by rw [e19]; rfl
                have ne20 : (!(word.toList == [122])) = false := by rw [e20]; rfl
                clear hb hcc hn2 hc'
                go_wp2_with fail
                go_ret2
                exact ⟨by rw [HF.out]; rfl, B0.out, B0.out.size⟩
            · have hb : badI word nh = false := by simp [badI, hardW, e16, e17, e19, hn2]
              have hcc : ctlS (gkind word) nh = true := by have := HCT.out; rw [hb] at this; simpa using this.symm
              have HF := Lib.hid (gateBad_t hc'.out (by rw [HNH.out]; exact hcc))
              have d1 : ((nh : Int) == 1) = false := by rw [beq_eq_false_iff_ne]; omega
              have d2 : ((nh : Int) == 2) = true := by simp; omega
              have d3 : decide (2 < (nh : Int)) = false := by simp; omega
              have d4 : decide (2 < nh) = false := by simp; omega
              have ne16 : (!(word.toList == [116])) = true := by rw [e16]; rfl
              have ne17 : (!(word.toList == [116, 100])) = false := by rw [e17]; rfl
              have ne19 : (!(word.toList == [120])) = false := by rw [e19]; rfl
              clear hb hcc hn2 hc'
              go_wp2_with fail
              go_ret2
              exact ⟨by rw [HF.out]; rfl, B0.out, B0.out.size⟩
          · have hx : nh ≠ 1 ∧ nh ≠ 2 := by omega
            have hb : badI word nh = true := by simp [badI, hardW, e16, e17, hn3, hx.1, hx.2]
            have hcc : ctlS (gkind word) nh = false := by have := HCT.out; rw [hb] at this; simpa using this.symm
            have HF := Lib.hid (gateBad_f hc'.out (by rw [HNH.out]; exact hcc))
            have d1 : ((nh : Int) == 1) = false := by rw [beq_eq_false_iff_ne]; omega
            have d2 : ((nh : Int) == 2) = false := by rw [beq_eq_false_iff_ne]; omega
            have d3 : decide (2 < (nh : Int)) = true := by simp; omega
            have d4 : decide (2 < nh) = true := by simp; omega
            have ne16 : (!(word.toList == [116])) = true := by rw [e16]; rfl
            have ne17 : (!(word.toList == [116, 100])) = false := by rw [e17]; rfl
            clear hb hcc hn3 hc'
            go_wp2_with fail
            go_quiet (fail)
            go_wp2_with fail
            go_ret2
            exact ⟨by rw [HF.out]; rfl, below_drewN B0.out _, (below_drewN B0.out _).size⟩
      · have hnn4 : nh = 0 ∨ nh = 1 ∨ nh = 2 ∨ 2 < nh := by omega
        rcases hnn4 with hn0 | hn1 | hn2 | hn3
        · have hb : badI word nh = false := by simp [badI, hardW, e16, hn0]
          have hcc : ctlS (gkind word) nh = true := by have := HCT.out; rw [hb] at this; simpa using this.symm
          have HF := Lib.hid (gateBad_t hc'.out (by rw [HNH.out]; exact hcc))
          have d1 : ((nh : Int) == 1) = false := by rw [beq_eq_false_iff_ne]; omega
          have d2 : ((nh : Int) == 2) = false := by rw [beq_eq_false_iff_ne]; omega
          have d3 : decide (2 < (nh : Int)) = false := by simp; omega
          have d4 : decide (2 < nh) = false := by simp; omega
          have ne16 : (!(word.toList == [116])) = false := by rw [e16]; rfl
          clear hb hcc hn0 hc'
          go_wp2_with fail
          go_ret2
          exact ⟨by rw [HF.out]; rfl, B0.out, B0.out.size⟩
        · have hb : badI word nh = true := by simp [badI, hardW, e16, hn1]
          have hcc : ctlS (gkind word) nh = false := by have := HCT.out; rw [hb] at this; simpa using this.symm
          have HF := Lib.hid (gateBad_f hc'.out (by rw [HNH.out]; exact hcc))
          have d1 : ((nh : Int) == 1) = true := by simp; omega
          have d2 : ((nh : Int) == 2) = false := by rw [beq_eq_false_iff_ne]; omega
          have d3 : decide (2 < (nh : Int)) = false := by simp; omega
          have d4 : decide (2 < nh) = false := by simp; omega
          have ne16 : (!(word.toList == [116])) = false := by rw [e16]; rfl
          clear hb hcc hn1 hc'
          go_wp2_with fail
          go_quiet (fail)
          go_wp2_with fail
          go_ret2
          exact ⟨by rw [HF.out]; rfl, below_drewN B0.out _, (below_drewN B0.out _).size⟩
        · cases e19 : word.toList == [120]
          · cases e20 : word.toList == [122]
            · have hb : badI word nh = true := by simp [badI, hardW, e16, e19, e20, hn2]
              have hcc : ctlS (gkind word) nh = false := by have := HCT.out; rw [hb] at this; simpa using this.symm
              have HF := Lib.hid (gateBad_f hc'.out (by rw [HNH.out]; exact hcc))
              have d1 : ((nh : Int) == 1) = false := by rw [beq_eq_false_iff_ne]; omega
              have d2 : ((nh : Int) == 2) = true := by simp; omega
              have d3 : decide (2 < (nh : Int)) = false := by simp; omega
              have d4 : decide (2 < nh) = false := by simp; omega
              have ne16 : (!(word.toList == [116])) = false := by rw [e16]; rfl
              have ne19 : (!(word.toList == [120])) = true := by rw [e19]; rfl
              have ne20 : (!(word.toList == [122])) = true := by rw [e20]; rfl
              clear hb hcc hn2 hc'
              go_wp2_with fail
              go_quiet (fail)
              go_wp2_with fail
              go_ret2
              exact ⟨by rw [HF.out]; rfl, below_drewN B0.out _, (below_drewN B0.out _).size⟩
            · have hb : badI word nh = false := by simp [badI, hardW, e16, e19, e20, hn2]
              have hcc : ctlS (gkind word) nh = true := by have := HCT.out; rw [hb] at this; simpa using this.symm
              have HF := Lib.hid (gateBad_t hc'.out (by rw [HNH.out]; exact hcc))
              have d1 : ((nh : Int) == 1) = false := by rw [beq_eq_false_iff_ne]; omega
              have d2 : ((nh : Int) == 2) = true := by simp; omega
              have d3 : decide (2 < (nh : Int)) = false := by simp; omega
              have d4 : decide (2 < nh) = false := by simp; omega
              have ne16 : (!(word.toList == [116])) = false := by rw [e16]; rfl
              have ne19 : (!(word.toList == [120])) = true := by rw [e19]; rfl
              have ne20 : (!(word.toList == [122])) = false := by rw [e20]; rfl
              clear hb hcc hn2 hc'
              go_wp2_with fail
              go_ret2
              exact ⟨by rw [HF.out]; rfl, B0.out, B0.out.size⟩
          · have hb : badI word nh = false := by simp [badI, hardW, e16, e19, hn2]
            have hcc : ctlS (gkind word) nh = true := by have := HCT.out; rw [hb] at this; simpa using this.symm
            have HF := Lib.hid (gateBad_t hc'.out (by rw [HNH.out]; exact hcc))
            have d1 : ((nh : Int) == 1) = false := by rw [beq_eq_false_iff_ne]; omega
            have d2 : ((nh : Int) == 2) = true := by simp; omega
            have d3 : decide (2 < (nh : Int)) = false := by simp; omega
            have d4 : decide (2 < nh) = false := by simp; omega
            have ne16 : (!(word.toList == [116])) = false := by rw [e16]; rfl
            have ne19 : (!(word.toList == [120])) = false := by rw [e19]; rfl
            clear hb hcc hn2 hc'
            go_wp2_with fail
            go_ret2
            exact ⟨by rw [HF.out]; rfl, B0.out, B0.out.size⟩
        · have hx : nh ≠ 1 ∧ nh ≠ 2 := by omega
          have hb : badI word nh = true := by simp [badI, hardW, e16, hn3, hx.1, hx.2]
          have hcc : ctlS (gkind word) nh = false := by have := HCT.out; rw [hb] at this; simpa using this.symm
          have HF := Lib.hid (gateBad_f hc'.out (by rw [HNH.out]; exact hcc))
          have d1 : ((nh : Int) == 1) = false := by rw [beq_eq_false_iff_ne]; omega
          have d2 : ((nh : Int) == 2) = false := by rw [beq_eq_false_iff_ne]; omega
          have d3 : decide (2 < (nh : Int)) = true := by simp; omega
          have d4 : decide (2 < nh) = true := by simp; omega
          have ne16 : (!(word.toList == [116])) = false := by rw [e16]; rfl
          clear hb hcc hn3 hc'
          go_wp2_with fail
          go_quiet (fail)
          go_wp2_with fail
          go_ret2
          exact ⟨by rw [HF.out]; rfl, below_drewN B0.out _, (below_drewN B0.out _).size⟩
end Go.Proofs.YtbamjfbfipkioaaDoor
