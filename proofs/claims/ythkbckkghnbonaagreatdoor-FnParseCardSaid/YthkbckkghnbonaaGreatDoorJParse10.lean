/- What the calls that this law reaches answer, part 10 of 16. -/
import Derived.Test.YthkbckkghnbonaaGreatDoorJParse9
import Derived.Test.YthkbckkghnbonaaGreatDoorJParse8
import Derived.Test.YthkbckkghnbonaaGreatDoorJParse1
namespace Go.Proofs.YthkbckkghnbonaaGreatDoor
open Go.RowKit
set_option linter.unusedVariables false
def allW (l : List ByteArray) : Bool := l.all wordOk
def vR3 (k : Int) (word : ByteArray) (args : List ByteArray) (count : Int) (nb : Nat) (V : Bool) : Bool := headV k word args.length count nb && (args.all wordOk && V)
section
variable {k : Int} {word : ByteArray} {args : List ByteArray} {count : Int} {nb : Nat} {V : Bool}
theorem vR3_h (h : headV k word args.length count nb = false) : vR3 k word args count nb V = false := by simp [vR3, h]
theorem vR3_w (h : args.all wordOk = false) : vR3 k word args count nb V = false := by simp [vR3, h]
theorem vR3_t (h1 : headV k word args.length count nb = true) (h2 : args.all wordOk = true) : vR3 k word args count nb V = V := by rw [vR3, h1, h2]; simp
end
set_option maxRecDepth 100000 in
set_option maxHeartbeats 1000000 in
theorem l17Words_any (A : Option Addr) (n c : Nat) (l : List ByteArray) (w : World) (h : Rd w 1 A n (strs l)) (hl : l.length = n) (hn : n ≤ 1099511627776) (hz : szS l ≤ 1048576) :
    Calls Tryz.prog 48 #[.slice A n c] w fun e w' => e = .returned (.bool (allW l)) ∧ w = w' := by
  have H := Lib.hid h
  have HL := Lib.hid hl
  clear h hl
  go_enter Tryz.func48, Tryz.ntmps48
  go_wp2
  go_loop [3] (fun i => ∃ t : Nat, t ≤ n ∧ i = .int .i64 t ∧ allW (l.take t) = true) (fun i => n - (intOf i).toNat)
  case atStart => exact ⟨0, Nat.zero_le _, rfl, rfl⟩
  case round =>
    obtain ⟨t, ht, rfl, hok⟩ := hrel
    have HOK := Lib.hid hok
    clear hok
    by_cases hlt : t < n
    · have htl : t < l.length := by rw [HL.out]; exact hlt
      obtain ⟨s, hs⟩ : ∃ s, l[t]? = some s := ⟨_, List.getElem?_eq_getElem htl⟩
      obtain ⟨b, off, rfl, _, hc⟩ := H.out.2 (by omega)
      have q0 := hc t _ (strs_at hs)
      have hsz := szS_mem hs
      have HS := Lib.hid hs
      have hs63 : s.size ≤ 9223372036854775807 := by omega
      clear hc hs htl hsz
      cases hw : wordOk s
      · have HF := Lib.hid (show allW l = false by rw [allW, List.all_eq_false]; exact ⟨s, List.mem_of_getElem? HS.out, by simp [hw]⟩)
        go_wp2_with (go_at_call 104; refine (IsValidWord_spec _ _ hs63).mono ?_; rintro e w' ⟨rfl, rfl⟩)
        go_ret
        exact ⟨by rw [HF.out]; rfl, rfl⟩
      · have HN := Lib.hid (show allW (l.take (t + 1)) = true by
          have h := HOK.out
          rw [allW] at h ⊢
          rw [all_take _ HS.out, h, hw]
          rfl)
        go_wp2_with (go_at_call 104; refine (IsValidWord_spec _ _ hs63).mono ?_; rintro e w' ⟨rfl, rfl⟩)
        go_round
        case rel => exact ⟨t + 1, by omega, by go_num, HN.out⟩
        case measure => simp [intOf]; omega
    · obtain rfl : t = n := by omega
      have HF : Hid (allW l = true) := by
        have h := HOK.out
        rw [List.take_of_length_le (by rw [HL.out]; exact Nat.le_refl _)] at h
        exact h
      go_wp2_with fail
      go_ret
      exact ⟨by rw [HF.out]; rfl, rfl⟩
set_option maxRecDepth 100000 in
set_option maxHeartbeats 8000000 in
theorem vst_spec_1 (word : ByteArray) (args : List ByteArray) (count : Int) (Aa : Option Addr) (ca : Nat) (Ab : Option Addr) (nb cb : Nat) (w : World) (V : Bool) (hra : Rd w 1 Aa args.length (strs args)) (hz : szS args ≤ 1048576) (hl : args.length ≤ 1048576) (hn : nb ≤ 1048576)
    (hall : ∀ w', Below w.heap.size w w' → Calls Tryz.prog 49 #[.slice Ab nb cb] w' fun e w'' => e = .returned (.bool V) ∧ Below w'.heap.size w' w'' ∧ w'.heap.size ≤ w''.heap.size) :
    Calls Tryz.prog 105 #[.agg #[.int .i64 1, .string word, .slice Aa args.length ca, .int .i64 count, .slice Ab nb cb]] w fun e w' => e = .returned (.bool (vR3 1 word args count nb V)) ∧ Below w.heap.size w w' ∧ w.heap.size ≤ w'.heap.size := by
  obtain ⟨m, hm0⟩ : ∃ m, m = args.length := ⟨_, rfl⟩
  rw [← hm0] at hl hra ⊢
  have HM := Lib.hid hm0
  have HRA := Lib.hid hra
  have HALL := Lib.hid hall
  clear hra hall hm0
  have hB : hasB 1 = false := rfl
  have hIN : inB 1 1 7 = true := rfl
  have HAW : Hid (allW args = args.all wordOk) := Lib.hid rfl
  obtain ⟨w0, hw0⟩ : ∃ w0, w0 = w.alloc (.cells #[.int .i64 1, .string word, .slice Aa m ca, .int .i64 count, .slice Ab nb cb] 66) := ⟨_, rfl⟩
  have X0 := Lib.hid (show w0.heap[w.heap.size]? = some (.cells #[.int .i64 1, .string word, .slice Aa m ca, .int .i64 count, .slice Ab nb cb] 66 (0, 0)) by rw [hw0]; exact boxed1_0 _ _)
  have b0 : Below w.heap.size w w0 := by rw [hw0]; exact (by repeat (first | exact Below.refl _ _ | assumption | (refine Below.trans ?_ (Below.mono (by assumption) (by first | omega | (simp; done) | (simp; omega)))) | (with_reducible refine Below.drew ?_) | (with_reducible refine Below.alloc ?_ (by first | omega | (simp; done) | (simp; omega)) _) | (with_reducible refine Below.setCell ?_ (by first | omega | (simp; done) | (simp; omega)) _)))
  have hs0 : w.heap.size ≤ w0.heap.size := b0.size
  have B0 := Lib.hid b0
  have HW := Lib.hid hw0
  clear b0 hw0
  by_cases hm : (m : Int) = (nargs 1 word : Int)
  · have e1 : ((m : Int) != (nargs 1 word : Int)) = false := by simpa using hm
    have hmn : m = ar (gkind word) := by have : nargs 1 word = ar (gkind word) := rfl; omega
    have HMN := Lib.hid hmn
    clear hm hmn
    cases hwo : args.all wordOk
    · have HWO := Lib.hid hwo
      have hAW := HAW.out.trans hwo
      clear hwo
      have HF := Lib.hid (vR3_w (k := 1) (word := word) (args := args) (count := count) (nb := nb) (V := V) HWO.out)
      go_enter Tryz.func105, Tryz.ntmps105
      go_wp2_with fail
      rw [← HW.out]
      refine (l17Args_any _ _ _ _ _ _ ⟨_, _, _, rfl⟩ ⟨_, _, _, rfl⟩).mono ?_
      rintro e w1 ⟨rfl, b1, s1⟩
      obtain ⟨p0, p1, p2, p3, p4⟩ := boxcells5 (lay := b1) X0.out
      have hB1 : Below w.heap.size w w1 := B0.out.trans (b1.mono hs0)
      have hS1 : w.heap.size ≤ w1.heap.size := hB1.size
      have HR1 := Lib.hid (HRA.out.below hB1)
      have HBB := Lib.hid hB1
      clear hB1
      go_wp2_with (first | (go_at_call 47; refine (l1In_any _ _ _ _).mono ?_; rintro e w' ⟨rfl, rfl⟩) | (go_at_call 48; refine (l17Words_any _ _ _ args _ (by exact HR1.out) HM.out.symm (by omega) hz).mono ?_; rintro e w' ⟨rfl, rfl⟩))
      go_ret
      exact ⟨by rw [HF.out]; rfl, HBB.out, hS1⟩
    · have HWO := Lib.hid hwo
      have hAW := HAW.out.trans hwo
      clear hwo
      by_cases hb : nb = 0
      · have e3 : decide (0 < (nb : Int)) = false := by simp; omega
        have e3n : decide (0 < nb) = false := by simp; omega
        have HNB := Lib.hid hb
        clear hb
        by_cases hw : word.toList = []
        · have e2 : word.toList.isEmpty = true := by simp [hw]
          have HWE := Lib.hid hw
          have HGE := Lib.hid (show ar (gkind word) = 0 by rw [gkind_empty hw]; rfl)
          clear hw
          have HF := Lib.hid (vR3_h (k := 1) (word := word) (args := args) (count := count) (nb := nb) (V := V) (by rw [← HM.out]; simp [headV, nargs, okCount, hasB, inB, HMN.out, HNB.out, HWE.out, HGE.out]))
          go_enter Tryz.func105, Tryz.ntmps105
          go_wp2_with fail
          rw [← HW.out]
          refine (l17Args_any _ _ _ _ _ _ ⟨_, _, _, rfl⟩ ⟨_, _, _, rfl⟩).mono ?_
          rintro e w1 ⟨rfl, b1, s1⟩
          obtain ⟨p0, p1, p2, p3, p4⟩ := boxcells5 (lay := b1) X0.out
          have hB1 : Below w.heap.size w w1 := B0.out.trans (b1.mono hs0)
          have hS1 : w.heap.size ≤ w1.heap.size := hB1.size
          have HR1 := Lib.hid (HRA.out.below hB1)
          have HBB := Lib.hid hB1
          clear hB1
          go_wp2_with (first | (go_at_call 47; refine (l1In_any _ _ _ _).mono ?_; rintro e w' ⟨rfl, rfl⟩) | (go_at_call 48; refine (l17Words_any _ _ _ args _ (by exact HR1.out) HM.out.symm (by omega) hz).mono ?_; rintro e w' ⟨rfl, rfl⟩))
          go_ret
          exact ⟨by rw [HF.out]; rfl, HBB.out, hS1⟩
        · have e2 : word.toList.isEmpty = false := by rw [List.isEmpty_eq_false_iff]; exact hw
          have HWE := Lib.hid hw
          clear hw
          by_cases g0 : nargs 1 word = 0
          · have e0 : ((nargs 1 word : Int) == 0) = true := by rw [g0]; rfl
            have HG0 := Lib.hid (show ar (gkind word) = 0 from g0)
            clear g0
            have HF := Lib.hid (vR3_h (k := 1) (word := word) (args := args) (count := count) (nb := nb) (V := V) (by rw [← HM.out]; simp [headV, nargs, okCount, hasB, inB, HG0.out]))
            go_enter Tryz.func105, Tryz.ntmps105
            go_wp2_with fail
            rw [← HW.out]
            refine (l17Args_any _ _ _ _ _ _ ⟨_, _, _, rfl⟩ ⟨_, _, _, rfl⟩).mono ?_
            rintro e w1 ⟨rfl, b1, s1⟩
            obtain ⟨p0, p1, p2, p3, p4⟩ := boxcells5 (lay := b1) X0.out
            have hB1 : Below w.heap.size w w1 := B0.out.trans (b1.mono hs0)
            have hS1 : w.heap.size ≤ w1.heap.size := hB1.size
            have HR1 := Lib.hid (HRA.out.below hB1)
            have HBB := Lib.hid hB1
            clear hB1
            go_wp2_with (first | (go_at_call 47; refine (l1In_any _ _ _ _).mono ?_; rintro e w' ⟨rfl, rfl⟩) | (go_at_call 48; refine (l17Words_any _ _ _ args _ (by exact HR1.out) HM.out.symm (by omega) hz).mono ?_; rintro e w' ⟨rfl, rfl⟩))
            go_ret
            exact ⟨by rw [HF.out]; rfl, HBB.out, hS1⟩
          · have e0 : ((nargs 1 word : Int) == 0) = false := by rw [beq_eq_false_iff_ne]; omega
            have HGW := Lib.hid (show ar (gkind word) ≠ 0 from g0)
            clear g0
            by_cases hc : count = 0
            · subst hc
              have HH := Lib.hid (show headV 1 word args.length 0 nb = true by rw [← HM.out]; simp [headV, nargs, okCount, hasB, inB, HMN.out, HNB.out, HWE.out, HGW.out])
              have HF := Lib.hid (vR3_t (V := V) HH.out HWO.out)
              go_enter Tryz.func105, Tryz.ntmps105
              go_wp2_with fail
              rw [← HW.out]
              refine (l17Args_any _ _ _ _ _ _ ⟨_, _, _, rfl⟩ ⟨_, _, _, rfl⟩).mono ?_
              rintro e w1 ⟨rfl, b1, s1⟩
              obtain ⟨p0, p1, p2, p3, p4⟩ := boxcells5 (lay := b1) X0.out
              have hB1 : Below w.heap.size w w1 := B0.out.trans (b1.mono hs0)
              have hS1 : w.heap.size ≤ w1.heap.size := hB1.size
              have HR1 := Lib.hid (HRA.out.below hB1)
              have HBB := Lib.hid hB1
              clear hB1
              go_wp2_with (first | (go_at_call 47; refine (l1In_any _ _ _ _).mono ?_; rintro e w' ⟨rfl, rfl⟩) | (go_at_call 48; refine (l17Words_any _ _ _ args _ (by exact HR1.out) HM.out.symm (by omega) hz).mono ?_; rintro e w' ⟨rfl, rfl⟩))
              refine (HALL.out _ HBB.out).mono ?_
              rintro e w2 ⟨rfl, b2, s2⟩
              go_wp2_with fail
              go_ret
              exact ⟨by rw [HF.out]; rfl, HBB.out.trans (b2.mono hS1), by omega⟩
            · have e4 : (count != 0) = true := by rw [bne_iff_ne]; exact hc
              have HF := Lib.hid (vR3_h (k := 1) (word := word) (args := args) (count := count) (nb := nb) (V := V) (by rw [← HM.out]; simp [headV, nargs, okCount, hasB, inB, HMN.out, HNB.out, HWE.out, HGW.out, hc]))
              go_enter Tryz.func105, Tryz.ntmps105
              go_wp2_with fail
              rw [← HW.out]
              refine (l17Args_any _ _ _ _ _ _ ⟨_, _, _, rfl⟩ ⟨_, _, _, rfl⟩).mono ?_
              rintro e w1 ⟨rfl, b1, s1⟩
              obtain ⟨p0, p1, p2, p3, p4⟩ := boxcells5 (lay := b1) X0.out
              have hB1 : Below w.heap.size w w1 := B0.out.trans (b1.mono hs0)
              have hS1 : w.heap.size ≤ w1.heap.size := hB1.size
              have HR1 := Lib.hid (HRA.out.below hB1)
              have HBB := Lib.hid hB1
              clear hB1
              go_wp2_with (first | (go_at_call 47; refine (l1In_any _ _ _ _).mono ?_; rintro e w' ⟨rfl, rfl⟩) | (go_at_call 48; refine (l17Words_any _ _ _ args _ (by exact HR1.out) HM.out.symm (by omega) hz).mono ?_; rintro e w' ⟨rfl, rfl⟩))
              go_ret
              exact ⟨by rw [HF.out]; rfl, HBB.out, hS1⟩
      · have e3 : decide (0 < (nb : Int)) = true := by simp; omega
        have e3n : decide (0 < nb) = true := by simp; omega
        have HNB := Lib.hid hb
        clear hb
        have HF := Lib.hid (vR3_h (k := 1) (word := word) (args := args) (count := count) (nb := nb) (V := V) (by rw [← HM.out]; simp [headV, nargs, okCount, hasB, inB, HNB.out]))
        go_enter Tryz.func105, Tryz.ntmps105
        go_wp2_with fail
        rw [← HW.out]
        refine (l17Args_any _ _ _ _ _ _ ⟨_, _, _, rfl⟩ ⟨_, _, _, rfl⟩).mono ?_
        rintro e w1 ⟨rfl, b1, s1⟩
        obtain ⟨p0, p1, p2, p3, p4⟩ := boxcells5 (lay := b1) X0.out
        have hB1 : Below w.heap.size w w1 := B0.out.trans (b1.mono hs0)
        have hS1 : w.heap.size ≤ w1.heap.size := hB1.size
        have HR1 := Lib.hid (HRA.out.below hB1)
        have HBB := Lib.hid hB1
        clear hB1
        go_wp2_with (first | (go_at_call 47; refine (l1In_any _ _ _ _).mono ?_; rintro e w' ⟨rfl, rfl⟩) | (go_at_call 48; refine (l17Words_any _ _ _ args _ (by exact HR1.out) HM.out.symm (by omega) hz).mono ?_; rintro e w' ⟨rfl, rfl⟩))
        go_ret
        exact ⟨by rw [HF.out]; rfl, HBB.out, hS1⟩
  · have e1 : ((m : Int) != (nargs 1 word : Int)) = true := by rw [bne_iff_ne]; exact hm
    have hmn : m ≠ ar (gkind word) := by have : nargs 1 word = ar (gkind word) := rfl; omega
    have HMN := Lib.hid hmn
    clear hm hmn
    have HF := Lib.hid (vR3_h (k := 1) (word := word) (args := args) (count := count) (nb := nb) (V := V) (by rw [← HM.out]; simp [headV, nargs, okCount, hasB, inB, HMN.out]))
    go_enter Tryz.func105, Tryz.ntmps105
    go_wp2_with fail
    rw [← HW.out]
    refine (l17Args_any _ _ _ _ _ _ ⟨_, _, _, rfl⟩ ⟨_, _, _, rfl⟩).mono ?_
    rintro e w1 ⟨rfl, b1, s1⟩
    obtain ⟨p0, p1, p2, p3, p4⟩ := boxcells5 (lay := b1) X0.out
    have hB1 : Below w.heap.size w w1 := B0.out.trans (b1.mono hs0)
    have hS1 : w.heap.size ≤ w1.heap.size := hB1.size
    have HR1 := Lib.hid (HRA.out.below hB1)
    have HBB := Lib.hid hB1
    clear hB1
    go_wp2_with (first | (go_at_call 47; refine (l1In_any _ _ _ _).mono ?_; rintro e w' ⟨rfl, rfl⟩) | (go_at_call 48; refine (l17Words_any _ _ _ args _ (by exact HR1.out) HM.out.symm (by omega) hz).mono ?_; rintro e w' ⟨rfl, rfl⟩))
    go_ret
    exact ⟨by rw [HF.out]; rfl, HBB.out, hS1⟩
set_option maxRecDepth 100000 in
set_option maxHeartbeats 8000000 in
theorem vst_spec_2 (word : ByteArray) (args : List ByteArray) (count : Int) (Aa : Option Addr) (ca : Nat) (Ab : Option Addr) (nb cb : Nat) (w : World) (V : Bool) (hra : Rd w 1 Aa args.length (strs args)) (hz : szS args ≤ 1048576) (hl : args.length ≤ 1048576) (hn : nb ≤ 1048576)
    (hall : ∀ w', Below w.heap.size w w' → Calls Tryz.prog 49 #[.slice Ab nb cb] w' fun e w'' => e = .returned (.bool V) ∧ Below w'.heap.size w' w'' ∧ w'.heap.size ≤ w''.heap.size) :
    Calls Tryz.prog 105 #[.agg #[.int .i64 2, .string word, .slice Aa args.length ca, .int .i64 count, .slice Ab nb cb]] w fun e w' => e = .returned (.bool (vR3 2 word args count nb V)) ∧ Below w.heap.size w w' ∧ w.heap.size ≤ w'.heap.size := by
  obtain ⟨m, hm0⟩ : ∃ m, m = args.length := ⟨_, rfl⟩
  rw [← hm0] at hl hra ⊢
  have HM := Lib.hid hm0
  have HRA := Lib.hid hra
  have HALL := Lib.hid hall
  clear hra hall hm0
  have hB : hasB 2 = true := rfl
  have hIN : inB 2 1 7 = true := rfl
  have HAW : Hid (allW args = args.all wordOk) := Lib.hid rfl
  obtain ⟨w0, hw0⟩ : ∃ w0, w0 = w.alloc (.cells #[.int .i64 2, .string word, .slice Aa m ca, .int .i64 count, .slice Ab nb cb] 66) := ⟨_, rfl⟩
  have X0 := Lib.hid (show w0.heap[w.heap.size]? = some (.cells #[.int .i64 2, .string word, .slice Aa m ca, .int .i64 count, .slice Ab nb cb] 66 (0, 0)) by rw [hw0]; exact boxed1_0 _ _)
  have b0 : Below w.heap.size w w0 := by rw [hw0]; exact (by repeat (first | exact Below.refl _ _ | assumption | (refine Below.trans ?_ (Below.mono (by assumption) (by first | omega | (simp; done) | (simp; omega)))) | (with_reducible refine Below.drew ?_) | (with_reducible refine Below.alloc ?_ (by first | omega | (simp; done) | (simp; omega)) _) | (with_reducible refine Below.setCell ?_ (by first | omega | (simp; done) | (simp; omega)) _)))
  have hs0 : w.heap.size ≤ w0.heap.size := b0.size
  have B0 := Lib.hid b0
  have HW := Lib.hid hw0
  clear b0 hw0
  by_cases hm : m = 0
  · subst hm
    have e1 : ((0 : Int) != (nargs 2 word : Int)) = false := rfl
    cases hwo : args.all wordOk
    · have HWO := Lib.hid hwo
      have hAW := HAW.out.trans hwo
      clear hwo
      have HF := Lib.hid (vR3_w (k := 2) (word := word) (args := args) (count := count) (nb := nb) (V := V) HWO.out)
      go_enter Tryz.func105, Tryz.ntmps105
      go_wp2_with fail
      rw [← HW.out]
      refine (l17Args_any _ _ _ _ _ _ ⟨_, _, _, rfl⟩ ⟨_, _, _, rfl⟩).mono ?_
      rintro e w1 ⟨rfl, b1, s1⟩
      obtain ⟨p0, p1, p2, p3, p4⟩ := boxcells5 (lay := b1) X0.out
      have hB1 : Below w.heap.size w w1 := B0.out.trans (b1.mono hs0)
      have hS1 : w.heap.size ≤ w1.heap.size := hB1.size
      have HR1 := Lib.hid (HRA.out.below hB1)
      have HBB := Lib.hid hB1
      clear hB1
      go_wp2_with (first | (go_at_call 47; refine (l1In_any _ _ _ _).mono ?_; rintro e w' ⟨rfl, rfl⟩) | (go_at_call 48; refine (l17Words_any _ _ _ args _ (by exact HR1.out) HM.out.symm (by omega) hz).mono ?_; rintro e w' ⟨rfl, rfl⟩))
      go_ret
      exact ⟨by rw [HF.out]; rfl, HBB.out, hS1⟩
    · have HWO := Lib.hid hwo
      have hAW := HAW.out.trans hwo
      clear hwo
      by_cases hw : word.toList = []
      · have e2 : word.toList.isEmpty = true := by simp [hw]
        have HWE := Lib.hid hw
        clear hw
        cases hc : inB count 1 9
        · have HC9 := Lib.hid (show ¬ (1 ≤ count ∧ count ≤ 9) from by simpa [inB] using hc)
          have HF := Lib.hid (vR3_h (k := 2) (word := word) (args := args) (count := count) (nb := nb) (V := V) (by rw [← HM.out]; simp [headV, nargs, okCount, hasB, inB, HWE.out, HC9.out]))
          go_enter Tryz.func105, Tryz.ntmps105
          go_wp2_with fail
          rw [← HW.out]
          refine (l17Args_any _ _ _ _ _ _ ⟨_, _, _, rfl⟩ ⟨_, _, _, rfl⟩).mono ?_
          rintro e w1 ⟨rfl, b1, s1⟩
          obtain ⟨p0, p1, p2, p3, p4⟩ := boxcells5 (lay := b1) X0.out
          have hB1 : Below w.heap.size w w1 := B0.out.trans (b1.mono hs0)
          have hS1 : w.heap.size ≤ w1.heap.size := hB1.size
          have HR1 := Lib.hid (HRA.out.below hB1)
          have HBB := Lib.hid hB1
          clear hB1
          go_wp2_with (first | (go_at_call 47; refine (l1In_any _ _ _ _).mono ?_; rintro e w' ⟨rfl, rfl⟩) | (go_at_call 48; refine (l17Words_any _ _ _ args _ (by exact HR1.out) HM.out.symm (by omega) hz).mono ?_; rintro e w' ⟨rfl, rfl⟩))
          go_ret
          exact ⟨by rw [HF.out]; rfl, HBB.out, hS1⟩
        · have HC9 := Lib.hid (show 1 ≤ count ∧ count ≤ 9 from by simpa [inB] using hc)
          have HH := Lib.hid (show headV 2 word args.length count nb = true by rw [← HM.out]; simp [headV, nargs, okCount, hasB, inB, HWE.out, HC9.out])
          have HF := Lib.hid (vR3_t (V := V) HH.out HWO.out)
          go_enter Tryz.func105, Tryz.ntmps105
          go_wp2_with fail
          rw [← HW.out]
          refine (l17Args_any _ _ _ _ _ _ ⟨_, _, _, rfl⟩ ⟨_, _, _, rfl⟩).mono ?_
          rintro e w1 ⟨rfl, b1, s1⟩
          obtain ⟨p0, p1, p2, p3, p4⟩ := boxcells5 (lay := b1) X0.out
          have hB1 : Below w.heap.size w w1 := B0.out.trans (b1.mono hs0)
          have hS1 : w.heap.size ≤ w1.heap.size := hB1.size
          have HR1 := Lib.hid (HRA.out.below hB1)
          have HBB := Lib.hid hB1
          clear hB1
          go_wp2_with (first | (go_at_call 47; refine (l1In_any _ _ _ _).mono ?_; rintro e w' ⟨rfl, rfl⟩) | (go_at_call 48; refine (l17Words_any _ _ _ args _ (by exact HR1.out) HM.out.symm (by omega) hz).mono ?_; rintro e w' ⟨rfl, rfl⟩))
          refine (HALL.out _ HBB.out).mono ?_
          rintro e w2 ⟨rfl, b2, s2⟩
          go_wp2_with fail
          go_ret
          exact ⟨by rw [HF.out]; rfl, HBB.out.trans (b2.mono hS1), by omega⟩
      · have e2 : word.toList.isEmpty = false := by rw [List.isEmpty_eq_false_iff]; exact hw
        have HWE := Lib.hid hw
        clear hw
        have HF := Lib.hid (vR3_h (k := 2) (word := word) (args := args) (count := count) (nb := nb) (V := V) (by rw [← HM.out]; simp [headV, nargs, okCount, hasB, inB, HWE.out]))
        go_enter Tryz.func105, Tryz.ntmps105
        go_wp2_with fail
        rw [← HW.out]
        refine (l17Args_any _ _ _ _ _ _ ⟨_, _, _, rfl⟩ ⟨_, _, _, rfl⟩).mono ?_
        rintro e w1 ⟨rfl, b1, s1⟩
        obtain ⟨p0, p1, p2, p3, p4⟩ := boxcells5 (lay := b1) X0.out
        have hB1 : Below w.heap.size w w1 := B0.out.trans (b1.mono hs0)
        have hS1 : w.heap.size ≤ w1.heap.size := hB1.size
        have HR1 := Lib.hid (HRA.out.below hB1)
        have HBB := Lib.hid hB1
        clear hB1
        go_wp2_with (first | (go_at_call 47; refine (l1In_any _ _ _ _).mono ?_; rintro e w' ⟨rfl, rfl⟩) | (go_at_call 48; refine (l17Words_any _ _ _ args _ (by exact HR1.out) HM.out.symm (by omega) hz).mono ?_; rintro e w' ⟨rfl, rfl⟩))
        go_ret
        exact ⟨by rw [HF.out]; rfl, HBB.out, hS1⟩
  · have e1 : ((m : Int) != (nargs 2 word : Int)) = true := by rw [bne_iff_ne]; have : nargs 2 word = 0 := rfl; omega
    have HF := Lib.hid (vR3_h (k := 2) (word := word) (args := args) (count := count) (nb := nb) (V := V) (by rw [← HM.out]; simp [headV, nargs, okCount, hasB, inB, hm]))
    go_enter Tryz.func105, Tryz.ntmps105
    go_wp2_with fail
    rw [← HW.out]
    refine (l17Args_any _ _ _ _ _ _ ⟨_, _, _, rfl⟩ ⟨_, _, _, rfl⟩).mono ?_
    rintro e w1 ⟨rfl, b1, s1⟩
    obtain ⟨p0, p1, p2, p3, p4⟩ := boxcells5 (lay := b1) X0.out
    have hB1 : Below w.heap.size w w1 := B0.out.trans (b1.mono hs0)
    have hS1 : w.heap.size ≤ w1.heap.size := hB1.size
    have HR1 := Lib.hid (HRA.out.below hB1)
    have HBB := Lib.hid hB1
    clear hB1
    go_wp2_with (first | (go_at_call 47; refine (l1In_any _ _ _ _).mono ?_; rintro e w' ⟨rfl, rfl⟩) | (go_at_call 48; refine (l17Words_any _ _ _ args _ (by exact HR1.out) HM.out.symm (by omega) hz).mono ?_; rintro e w' ⟨rfl, rfl⟩))
    go_ret
    exact ⟨by rw [HF.out]; rfl, HBB.out, hS1⟩
set_option maxRecDepth 100000 in
set_option maxHeartbeats 8000000 in
theorem vst_spec_3 (word : ByteArray) (args : List ByteArray) (count : Int) (Aa : Option Addr) (ca : Nat) (Ab : Option Addr) (nb cb : Nat) (w : World) (V : Bool) (hra : Rd w 1 Aa args.length (strs args)) (hz : szS args ≤ 1048576) (hl : args.length ≤ 1048576) (hn : nb ≤ 1048576)
    (hall : ∀ w', Below w.heap.size w w' → Calls Tryz.prog 49 #[.slice Ab nb cb] w' fun e w'' => e = .returned (.bool V) ∧ Below w'.heap.size w' w'' ∧ w'.heap.size ≤ w''.heap.size) :
    Calls Tryz.prog 105 #[.agg #[.int .i64 3, .string word, .slice Aa args.length ca, .int .i64 count, .slice Ab nb cb]] w fun e w' => e = .returned (.bool (vR3 3 word args count nb V)) ∧ Below w.heap.size w w' ∧ w.heap.size ≤ w'.heap.size := by
  obtain ⟨m, hm0⟩ : ∃ m, m = args.length := ⟨_, rfl⟩
  rw [← hm0] at hl hra ⊢
  have HM := Lib.hid hm0
  have HRA := Lib.hid hra
  have HALL := Lib.hid hall
  clear hra hall hm0
  have hB : hasB 3 = true := rfl
  have hIN : inB 3 1 7 = true := rfl
  have HAW : Hid (allW args = args.all wordOk) := Lib.hid rfl
  obtain ⟨w0, hw0⟩ : ∃ w0, w0 = w.alloc (.cells #[.int .i64 3, .string word, .slice Aa m ca, .int .i64 count, .slice Ab nb cb] 66) := ⟨_, rfl⟩
  have X0 := Lib.hid (show w0.heap[w.heap.size]? = some (.cells #[.int .i64 3, .string word, .slice Aa m ca, .int .i64 count, .slice Ab nb cb] 66 (0, 0)) by rw [hw0]; exact boxed1_0 _ _)
  have b0 : Below w.heap.size w w0 := by rw [hw0]; exact (by repeat (first | exact Below.refl _ _ | assumption | (refine Below.trans ?_ (Below.mono (by assumption) (by first | omega | (simp; done) | (simp; omega)))) | (with_reducible refine Below.drew ?_) | (with_reducible refine Below.alloc ?_ (by first | omega | (simp; done) | (simp; omega)) _) | (with_reducible refine Below.setCell ?_ (by first | omega | (simp; done) | (simp; omega)) _)))
  have hs0 : w.heap.size ≤ w0.heap.size := b0.size
  have B0 := Lib.hid b0
  have HW := Lib.hid hw0
  clear b0 hw0
  by_cases hm : m = 0
  · subst hm
    have e1 : ((0 : Int) != (nargs 3 word : Int)) = false := rfl
    cases hwo : args.all wordOk
    · have HWO := Lib.hid hwo
      have hAW := HAW.out.trans hwo
      clear hwo
      have HF := Lib.hid (vR3_w (k := 3) (word := word) (args := args) (count := count) (nb := nb) (V := V) HWO.out)
      go_enter Tryz.func105, Tryz.ntmps105
      go_wp2_with fail
      rw [← HW.out]
      refine (l17Args_any _ _ _ _ _ _ ⟨_, _, _, rfl⟩ ⟨_, _, _, rfl⟩).mono ?_
      rintro e w1 ⟨rfl, b1, s1⟩
      obtain ⟨p0, p1, p2, p3, p4⟩ := boxcells5 (lay := b1) X0.out
      have hB1 : Below w.heap.size w w1 := B0.out.trans (b1.mono hs0)
      have hS1 : w.heap.size ≤ w1.heap.size := hB1.size
      have HR1 := Lib.hid (HRA.out.below hB1)
      have HBB := Lib.hid hB1
      clear hB1
      go_wp2_with (first | (go_at_call 47; refine (l1In_any _ _ _ _).mono ?_; rintro e w' ⟨rfl, rfl⟩) | (go_at_call 48; refine (l17Words_any _ _ _ args _ (by exact HR1.out) HM.out.symm (by omega) hz).mono ?_; rintro e w' ⟨rfl, rfl⟩))
      go_ret
      exact ⟨by rw [HF.out]; rfl, HBB.out, hS1⟩
    · have HWO := Lib.hid hwo
      have hAW := HAW.out.trans hwo
      clear hwo
      by_cases hw : word.toList = []
      · have e2 : word.toList.isEmpty = true := by simp [hw]
        have HWE := Lib.hid hw
        clear hw
        by_cases hc : count = 0
        · subst hc
          have HH := Lib.hid (show headV 3 word args.length 0 nb = true by rw [← HM.out]; simp [headV, nargs, okCount, hasB, inB, HWE.out])
          have HF := Lib.hid (vR3_t (V := V) HH.out HWO.out)
          go_enter Tryz.func105, Tryz.ntmps105
          go_wp2_with fail
          rw [← HW.out]
          refine (l17Args_any _ _ _ _ _ _ ⟨_, _, _, rfl⟩ ⟨_, _, _, rfl⟩).mono ?_
          rintro e w1 ⟨rfl, b1, s1⟩
          obtain ⟨p0, p1, p2, p3, p4⟩ := boxcells5 (lay := b1) X0.out
          have hB1 : Below w.heap.size w w1 := B0.out.trans (b1.mono hs0)
          have hS1 : w.heap.size ≤ w1.heap.size := hB1.size
          have HR1 := Lib.hid (HRA.out.below hB1)
          have HBB := Lib.hid hB1
          clear hB1
          go_wp2_with (first | (go_at_call 47; refine (l1In_any _ _ _ _).mono ?_; rintro e w' ⟨rfl, rfl⟩) | (go_at_call 48; refine (l17Words_any _ _ _ args _ (by exact HR1.out) HM.out.symm (by omega) hz).mono ?_; rintro e w' ⟨rfl, rfl⟩))
          refine (HALL.out _ HBB.out).mono ?_
          rintro e w2 ⟨rfl, b2, s2⟩
          go_wp2_with fail
          go_ret
          exact ⟨by rw [HF.out]; rfl, HBB.out.trans (b2.mono hS1), by omega⟩
        · have e4 : (count != 0) = true := by rw [bne_iff_ne]; exact hc
          have HF := Lib.hid (vR3_h (k := 3) (word := word) (args := args) (count := count) (nb := nb) (V := V) (by rw [← HM.out]; simp [headV, nargs, okCount, hasB, inB, HWE.out, hc]))
          go_enter Tryz.func105, Tryz.ntmps105
          go_wp2_with fail
          rw [← HW.out]
          refine (l17Args_any _ _ _ _ _ _ ⟨_, _, _, rfl⟩ ⟨_, _, _, rfl⟩).mono ?_
          rintro e w1 ⟨rfl, b1, s1⟩
          obtain ⟨p0, p1, p2, p3, p4⟩ := boxcells5 (lay := b1) X0.out
          have hB1 : Below w.heap.size w w1 := B0.out.trans (b1.mono hs0)
          have hS1 : w.heap.size ≤ w1.heap.size := hB1.size
          have HR1 := Lib.hid (HRA.out.below hB1)
          have HBB := Lib.hid hB1
          clear hB1
          go_wp2_with (first | (go_at_call 47; refine (l1In_any _ _ _ _).mono ?_; rintro e w' ⟨rfl, rfl⟩) | (go_at_call 48; refine (l17Words_any _ _ _ args _ (by exact HR1.out) HM.out.symm (by omega) hz).mono ?_; rintro e w' ⟨rfl, rfl⟩))
          go_ret
          exact ⟨by rw [HF.out]; rfl, HBB.out, hS1⟩
      · have e2 : word.toList.isEmpty = false := by rw [List.isEmpty_eq_false_iff]; exact hw
        have HWE := Lib.hid hw
        clear hw
        have HF := Lib.hid (vR3_h (k := 3) (word := word) (args := args) (count := count) (nb := nb) (V := V) (by rw [← HM.out]; simp [headV, nargs, okCount, hasB, inB, HWE.out]))
        go_enter Tryz.func105, Tryz.ntmps105
        go_wp2_with fail
        rw [← HW.out]
        refine (l17Args_any _ _ _ _ _ _ ⟨_, _, _, rfl⟩ ⟨_, _, _, rfl⟩).mono ?_
        rintro e w1 ⟨rfl, b1, s1⟩
        obtain ⟨p0, p1, p2, p3, p4⟩ := boxcells5 (lay := b1) X0.out
        have hB1 : Below w.heap.size w w1 := B0.out.trans (b1.mono hs0)
        have hS1 : w.heap.size ≤ w1.heap.size := hB1.size
        have HR1 := Lib.hid (HRA.out.below hB1)
        have HBB := Lib.hid hB1
        clear hB1
        go_wp2_with (first | (go_at_call 47; refine (l1In_any _ _ _ _).mono ?_; rintro e w' ⟨rfl, rfl⟩) | (go_at_call 48; refine (l17Words_any _ _ _ args _ (by exact HR1.out) HM.out.symm (by omega) hz).mono ?_; rintro e w' ⟨rfl, rfl⟩))
        go_ret
        exact ⟨by rw [HF.out]; rfl, HBB.out, hS1⟩
  · have e1 : ((m : Int) != (nargs 3 word : Int)) = true := by rw [bne_iff_ne]; have : nargs 3 word = 0 := rfl; omega
    have HF := Lib.hid (vR3_h (k := 3) (word := word) (args := args) (count := count) (nb := nb) (V := V) (by rw [← HM.out]; simp [headV, nargs, okCount, hasB, inB, hm]))
    go_enter Tryz.func105, Tryz.ntmps105
    go_wp2_with fail
    rw [← HW.out]
    refine (l17Args_any _ _ _ _ _ _ ⟨_, _, _, rfl⟩ ⟨_, _, _, rfl⟩).mono ?_
    rintro e w1 ⟨rfl, b1, s1⟩
    obtain ⟨p0, p1, p2, p3, p4⟩ := boxcells5 (lay := b1) X0.out
    have hB1 : Below w.heap.size w w1 := B0.out.trans (b1.mono hs0)
    have hS1 : w.heap.size ≤ w1.heap.size := hB1.size
    have HR1 := Lib.hid (HRA.out.below hB1)
    have HBB := Lib.hid hB1
    clear hB1
    go_wp2_with (first | (go_at_call 47; refine (l1In_any _ _ _ _).mono ?_; rintro e w' ⟨rfl, rfl⟩) | (go_at_call 48; refine (l17Words_any _ _ _ args _ (by exact HR1.out) HM.out.symm (by omega) hz).mono ?_; rintro e w' ⟨rfl, rfl⟩))
    go_ret
    exact ⟨by rw [HF.out]; rfl, HBB.out, hS1⟩
set_option maxRecDepth 100000 in
set_option maxHeartbeats 8000000 in
theorem vst_spec_4 (word : ByteArray) (args : List ByteArray) (count : Int) (Aa : Option Addr) (ca : Nat) (Ab : Option Addr) (nb cb : Nat) (w : World) (V : Bool) (hra : Rd w 1 Aa args.length (strs args)) (hz : szS args ≤ 1048576) (hl : args.length ≤ 1048576) (hn : nb ≤ 1048576)
    (hall : ∀ w', Below w.heap.size w w' → Calls Tryz.prog 49 #[.slice Ab nb cb] w' fun e w'' => e = .returned (.bool V) ∧ Below w'.heap.size w' w'' ∧ w'.heap.size ≤ w''.heap.size) :
    Calls Tryz.prog 105 #[.agg #[.int .i64 4, .string word, .slice Aa args.length ca, .int .i64 count, .slice Ab nb cb]] w fun e w' => e = .returned (.bool (vR3 4 word args count nb V)) ∧ Below w.heap.size w w' ∧ w.heap.size ≤ w'.heap.size := by
  obtain ⟨m, hm0⟩ : ∃ m, m = args.length := ⟨_, rfl⟩
  rw [← hm0] at hl hra ⊢
  have HM := Lib.hid hm0
  have HRA := Lib.hid hra
  have HALL := Lib.hid hall
  clear hra hall hm0
  have hB : hasB 4 = true := rfl
  have hIN : inB 4 1 7 = true := rfl
  have HAW : Hid (allW args = args.all wordOk) := Lib.hid rfl
  obtain ⟨w0, hw0⟩ : ∃ w0, w0 = w.alloc (.cells #[.int .i64 4, .string word, .slice Aa m ca, .int .i64 count, .slice Ab nb cb] 66) := ⟨_, rfl⟩
  have X0 := Lib.hid (show w0.heap[w.heap.size]? = some (.cells #[.int .i64 4, .string word, .slice Aa m ca, .int .i64 count, .slice Ab nb cb] 66 (0, 0)) by rw [hw0]; exact boxed1_0 _ _)
  have b0 : Below w.heap.size w w0 := by rw [hw0]; exact (by repeat (first | exact Below.refl _ _ | assumption | (refine Below.trans ?_ (Below.mono (by assumption) (by first | omega | (simp; done) | (simp; omega)))) | (with_reducible refine Below.drew ?_) | (with_reducible refine Below.alloc ?_ (by first | omega | (simp; done) | (simp; omega)) _) | (with_reducible refine Below.setCell ?_ (by first | omega | (simp; done) | (simp; omega)) _)))
  have hs0 : w.heap.size ≤ w0.heap.size := b0.size
  have B0 := Lib.hid b0
  have HW := Lib.hid hw0
  clear b0 hw0
  by_cases hm : m = 1
  · subst hm
    have e1 : ((1 : Int) != (nargs 4 word : Int)) = false := rfl
    cases hwo : args.all wordOk
    · have HWO := Lib.hid hwo
      have hAW := HAW.out.trans hwo
      clear hwo
      have HF := Lib.hid (vR3_w (k := 4) (word := word) (args := args) (count := count) (nb := nb) (V := V) HWO.out)
      go_enter Tryz.func105, Tryz.ntmps105
      go_wp2_with fail
      rw [← HW.out]
      refine (l17Args_any _ _ _ _ _ _ ⟨_, _, _, rfl⟩ ⟨_, _, _, rfl⟩).mono ?_
      rintro e w1 ⟨rfl, b1, s1⟩
      obtain ⟨p0, p1, p2, p3, p4⟩ := boxcells5 (lay := b1) X0.out
      have hB1 : Below w.heap.size w w1 := B0.out.trans (b1.mono hs0)
      have hS1 : w.heap.size ≤ w1.heap.size := hB1.size
      have HR1 := Lib.hid (HRA.out.below hB1)
      have HBB := Lib.hid hB1
      clear hB1
      go_wp2_with (first | (go_at_call 47; refine (l1In_any _ _ _ _).mono ?_; rintro e w' ⟨rfl, rfl⟩) | (go_at_call 48; refine (l17Words_any _ _ _ args _ (by exact HR1.out) HM.out.symm (by omega) hz).mono ?_; rintro e w' ⟨rfl, rfl⟩))
      go_ret
      exact ⟨by rw [HF.out]; rfl, HBB.out, hS1⟩
    · have HWO := Lib.hid hwo
      have hAW := HAW.out.trans hwo
      clear hwo
      by_cases hw : word.toList = []
      · have e2 : word.toList.isEmpty = true := by simp [hw]
        have HWE := Lib.hid hw
        clear hw
        by_cases hc : count = 0
        · subst hc
          have HH := Lib.hid (show headV 4 word args.length 0 nb = true by rw [← HM.out]; simp [headV, nargs, okCount, hasB, inB, HWE.out])
          have HF := Lib.hid (vR3_t (V := V) HH.out HWO.out)
          go_enter Tryz.func105, Tryz.ntmps105
          go_wp2_with fail
          rw [← HW.out]
          refine (l17Args_any _ _ _ _ _ _ ⟨_, _, _, rfl⟩ ⟨_, _, _, rfl⟩).mono ?_
          rintro e w1 ⟨rfl, b1, s1⟩
          obtain ⟨p0, p1, p2, p3, p4⟩ := boxcells5 (lay := b1) X0.out
          have hB1 : Below w.heap.size w w1 := B0.out.trans (b1.mono hs0)
          have hS1 : w.heap.size ≤ w1.heap.size := hB1.size
          have HR1 := Lib.hid (HRA.out.below hB1)
          have HBB := Lib.hid hB1
          clear hB1
          go_wp2_with (first | (go_at_call 47; refine (l1In_any _ _ _ _).mono ?_; rintro e w' ⟨rfl, rfl⟩) | (go_at_call 48; refine (l17Words_any _ _ _ args _ (by exact HR1.out) HM.out.symm (by omega) hz).mono ?_; rintro e w' ⟨rfl, rfl⟩))
          refine (HALL.out _ HBB.out).mono ?_
          rintro e w2 ⟨rfl, b2, s2⟩
          go_wp2_with fail
          go_ret
          exact ⟨by rw [HF.out]; rfl, HBB.out.trans (b2.mono hS1), by omega⟩
        · have e4 : (count != 0) = true := by rw [bne_iff_ne]; exact hc
          have HF := Lib.hid (vR3_h (k := 4) (word := word) (args := args) (count := count) (nb := nb) (V := V) (by rw [← HM.out]; simp [headV, nargs, okCount, hasB, inB, HWE.out, hc]))
          go_enter Tryz.func105, Tryz.ntmps105
          go_wp2_with fail
          rw [← HW.out]
          refine (l17Args_any _ _ _ _ _ _ ⟨_, _, _, rfl⟩ ⟨_, _, _, rfl⟩).mono ?_
          rintro e w1 ⟨rfl, b1, s1⟩
          obtain ⟨p0, p1, p2, p3, p4⟩ := boxcells5 (lay := b1) X0.out
          have hB1 : Below w.heap.size w w1 := B0.out.trans (b1.mono hs0)
          have hS1 : w.heap.size ≤ w1.heap.size := hB1.size
          have HR1 := Lib.hid (HRA.out.below hB1)
          have HBB := Lib.hid hB1
          clear hB1
          go_wp2_with (first | (go_at_call 47; refine (l1In_any _ _ _ _).mono ?_; rintro e w' ⟨rfl, rfl⟩) | (go_at_call 48; refine (l17Words_any _ _ _ args _ (by exact HR1.out) HM.out.symm (by omega) hz).mono ?_; rintro e w' ⟨rfl, rfl⟩))
          go_ret
          exact ⟨by rw [HF.out]; rfl, HBB.out, hS1⟩
      · have e2 : word.toList.isEmpty = false := by rw [List.isEmpty_eq_false_iff]; exact hw
        have HWE := Lib.hid hw
        clear hw
        have HF := Lib.hid (vR3_h (k := 4) (word := word) (args := args) (count := count) (nb := nb) (V := V) (by rw [← HM.out]; simp [headV, nargs, okCount, hasB, inB, HWE.out]))
        go_enter Tryz.func105, Tryz.ntmps105
        go_wp2_with fail
        rw [← HW.out]
        refine (l17Args_any _ _ _ _ _ _ ⟨_, _, _, rfl⟩ ⟨_, _, _, rfl⟩).mono ?_
        rintro e w1 ⟨rfl, b1, s1⟩
        obtain ⟨p0, p1, p2, p3, p4⟩ := boxcells5 (lay := b1) X0.out
        have hB1 : Below w.heap.size w w1 := B0.out.trans (b1.mono hs0)
        have hS1 : w.heap.size ≤ w1.heap.size := hB1.size
        have HR1 := Lib.hid (HRA.out.below hB1)
        have HBB := Lib.hid hB1
        clear hB1
        go_wp2_with (first | (go_at_call 47; refine (l1In_any _ _ _ _).mono ?_; rintro e w' ⟨rfl, rfl⟩) | (go_at_call 48; refine (l17Words_any _ _ _ args _ (by exact HR1.out) HM.out.symm (by omega) hz).mono ?_; rintro e w' ⟨rfl, rfl⟩))
        go_ret
        exact ⟨by rw [HF.out]; rfl, HBB.out, hS1⟩
  · have e1 : ((m : Int) != (nargs 4 word : Int)) = true := by rw [bne_iff_ne]; have : nargs 4 word = 1 := rfl; omega
    have HF := Lib.hid (vR3_h (k := 4) (word := word) (args := args) (count := count) (nb := nb) (V := V) (by rw [← HM.out]; simp [headV, nargs, okCount, hasB, inB, hm]))
    go_enter Tryz.func105, Tryz.ntmps105
    go_wp2_with fail
    rw [← HW.out]
    refine (l17Args_any _ _ _ _ _ _ ⟨_, _, _, rfl⟩ ⟨_, _, _, rfl⟩).mono ?_
    rintro e w1 ⟨rfl, b1, s1⟩
    obtain ⟨p0, p1, p2, p3, p4⟩ := boxcells5 (lay := b1) X0.out
    have hB1 : Below w.heap.size w w1 := B0.out.trans (b1.mono hs0)
    have hS1 : w.heap.size ≤ w1.heap.size := hB1.size
    have HR1 := Lib.hid (HRA.out.below hB1)
    have HBB := Lib.hid hB1
    clear hB1
    go_wp2_with (first | (go_at_call 47; refine (l1In_any _ _ _ _).mono ?_; rintro e w' ⟨rfl, rfl⟩) | (go_at_call 48; refine (l17Words_any _ _ _ args _ (by exact HR1.out) HM.out.symm (by omega) hz).mono ?_; rintro e w' ⟨rfl, rfl⟩))
    go_ret
    exact ⟨by rw [HF.out]; rfl, HBB.out, hS1⟩
set_option maxRecDepth 100000 in
set_option maxHeartbeats 8000000 in
theorem vst_spec_5 (word : ByteArray) (args : List ByteArray) (count : Int) (Aa : Option Addr) (ca : Nat) (Ab : Option Addr) (nb cb : Nat) (w : World) (V : Bool) (hra : Rd w 1 Aa args.length (strs args)) (hz : szS args ≤ 1048576) (hl : args.length ≤ 1048576) (hn : nb ≤ 1048576)
    (hall : ∀ w', Below w.heap.size w w' → Calls Tryz.prog 49 #[.slice Ab nb cb] w' fun e w'' => e = .returned (.bool V) ∧ Below w'.heap.size w' w'' ∧ w'.heap.size ≤ w''.heap.size) :
    Calls Tryz.prog 105 #[.agg #[.int .i64 5, .string word, .slice Aa args.length ca, .int .i64 count, .slice Ab nb cb]] w fun e w' => e = .returned (.bool (vR3 5 word args count nb V)) ∧ Below w.heap.size w w' ∧ w.heap.size ≤ w'.heap.size := by
  obtain ⟨m, hm0⟩ : ∃ m, m = args.length := ⟨_, rfl⟩
  rw [← hm0] at hl hra ⊢
  have HM := Lib.hid hm0
  have HRA := Lib.hid hra
  have HALL := Lib.hid hall
  clear hra hall hm0
  have hB : hasB 5 = true := rfl
  have hIN : inB 5 1 7 = true := rfl
  have HAW : Hid (allW args = args.all wordOk) := Lib.hid rfl
  obtain ⟨w0, hw0⟩ : ∃ w0, w0 = w.alloc (.cells #[.int .i64 5, .string word, .slice Aa m ca, .int .i64 count, .slice Ab nb cb] 66) := ⟨_, rfl⟩
  have X0 := Lib.hid (show w0.heap[w.heap.size]? = some (.cells #[.int .i64 5, .string word, .slice Aa m ca, .int .i64 count, .slice Ab nb cb] 66 (0, 0)) by rw [hw0]; exact boxed1_0 _ _)
  have b0 : Below w.heap.size w w0 := by rw [hw0]; exact (by repeat (first | exact Below.refl _ _ | assumption | (refine Below.trans ?_ (Below.mono (by assumption) (by first | omega | (simp; done) | (simp; omega)))) | (with_reducible refine Below.drew ?_) | (with_reducible refine Below.alloc ?_ (by first | omega | (simp; done) | (simp; omega)) _) | (with_reducible refine Below.setCell ?_ (by first | omega | (simp; done) | (simp; omega)) _)))
  have hs0 : w.heap.size ≤ w0.heap.size := b0.size
  have B0 := Lib.hid b0
  have HW := Lib.hid hw0
  clear b0 hw0
  by_cases hm : m = 1
  · subst hm
    have e1 : ((1 : Int) != (nargs 5 word : Int)) = false := rfl
    cases hwo : args.all wordOk
    · have HWO := Lib.hid hwo
      have hAW := HAW.out.trans hwo
      clear hwo
      have HF := Lib.hid (vR3_w (k := 5) (word := word) (args := args) (count := count) (nb := nb) (V := V) HWO.out)
      go_enter Tryz.func105, Tryz.ntmps105
      go_wp2_with fail
      rw [← HW.out]
      refine (l17Args_any _ _ _ _ _ _ ⟨_, _, _, rfl⟩ ⟨_, _, _, rfl⟩).mono ?_
      rintro e w1 ⟨rfl, b1, s1⟩
      obtain ⟨p0, p1, p2, p3, p4⟩ := boxcells5 (lay := b1) X0.out
      have hB1 : Below w.heap.size w w1 := B0.out.trans (b1.mono hs0)
      have hS1 : w.heap.size ≤ w1.heap.size := hB1.size
      have HR1 := Lib.hid (HRA.out.below hB1)
      have HBB := Lib.hid hB1
      clear hB1
      go_wp2_with (first | (go_at_call 47; refine (l1In_any _ _ _ _).mono ?_; rintro e w' ⟨rfl, rfl⟩) | (go_at_call 48; refine (l17Words_any _ _ _ args _ (by exact HR1.out) HM.out.symm (by omega) hz).mono ?_; rintro e w' ⟨rfl, rfl⟩))
      go_ret
      exact ⟨by rw [HF.out]; rfl, HBB.out, hS1⟩
    · have HWO := Lib.hid hwo
      have hAW := HAW.out.trans hwo
      clear hwo
      by_cases hw : word.toList = []
      · have e2 : word.toList.isEmpty = true := by simp [hw]
        have HWE := Lib.hid hw
        clear hw
        by_cases hc : count = 0
        · subst hc
          have HH := Lib.hid (show headV 5 word args.length 0 nb = true by rw [← HM.out]; simp [headV, nargs, okCount, hasB, inB, HWE.out])
          have HF := Lib.hid (vR3_t (V := V) HH.out HWO.out)
          go_enter Tryz.func105, Tryz.ntmps105
          go_wp2_with fail
          rw [← HW.out]
          refine (l17Args_any _ _ _ _ _ _ ⟨_, _, _, rfl⟩ ⟨_, _, _, rfl⟩).mono ?_
          rintro e w1 ⟨rfl, b1, s1⟩
          obtain ⟨p0, p1, p2, p3, p4⟩ := boxcells5 (lay := b1) X0.out
          have hB1 : Below w.heap.size w w1 := B0.out.trans (b1.mono hs0)
          have hS1 : w.heap.size ≤ w1.heap.size := hB1.size
          have HR1 := Lib.hid (HRA.out.below hB1)
          have HBB := Lib.hid hB1
          clear hB1
          go_wp2_with (first | (go_at_call 47; refine (l1In_any _ _ _ _).mono ?_; rintro e w' ⟨rfl, rfl⟩) | (go_at_call 48; refine (l17Words_any _ _ _ args _ (by exact HR1.out) HM.out.symm (by omega) hz).mono ?_; rintro e w' ⟨rfl, rfl⟩))
          refine (HALL.out _ HBB.out).mono ?_
          rintro e w2 ⟨rfl, b2, s2⟩
          go_wp2_with fail
          go_ret
          exact ⟨by rw [HF.out]; rfl, HBB.out.trans (b2.mono hS1), by omega⟩
        · have e4 : (count != 0) = true := by rw [bne_iff_ne]; exact hc
          have HF := Lib.hid (vR3_h (k := 5) (word := word) (args := args) (count := count) (nb := nb) (V := V) (by rw [← HM.out]; simp [headV, nargs, okCount, hasB, inB, HWE.out, hc]))
          go_enter Tryz.func105, Tryz.ntmps105
          go_wp2_with fail
          rw [← HW.out]
          refine (l17Args_any _ _ _ _ _ _ ⟨_, _, _, rfl⟩ ⟨_, _, _, rfl⟩).mono ?_
          rintro e w1 ⟨rfl, b1, s1⟩
          obtain ⟨p0, p1, p2, p3, p4⟩ := boxcells5 (lay := b1) X0.out
          have hB1 : Below w.heap.size w w1 := B0.out.trans (b1.mono hs0)
          have hS1 : w.heap.size ≤ w1.heap.size := hB1.size
          have HR1 := Lib.hid (HRA.out.below hB1)
          have HBB := Lib.hid hB1
          clear hB1
          go_wp2_with (first | (go_at_call 47; refine (l1In_any _ _ _ _).mono ?_; rintro e w' ⟨rfl, rfl⟩) | (go_at_call 48; refine (l17Words_any _ _ _ args _ (by exact HR1.out) HM.out.symm (by omega) hz).mono ?_; rintro e w' ⟨rfl, rfl⟩))
          go_ret
          exact ⟨by rw [HF.out]; rfl, HBB.out, hS1⟩
      · have e2 : word.toList.isEmpty = false := by rw [List.isEmpty_eq_false_iff]; exact hw
        have HWE := Lib.hid hw
        clear hw
        have HF := Lib.hid (vR3_h (k := 5) (word := word) (args := args) (count := count) (nb := nb) (V := V) (by rw [← HM.out]; simp [headV, nargs, okCount, hasB, inB, HWE.out]))
        go_enter Tryz.func105, Tryz.ntmps105
        go_wp2_with fail
        rw [← HW.out]
        refine (l17Args_any _ _ _ _ _ _ ⟨_, _, _, rfl⟩ ⟨_, _, _, rfl⟩).mono ?_
        rintro e w1 ⟨rfl, b1, s1⟩
        obtain ⟨p0, p1, p2, p3, p4⟩ := boxcells5 (lay := b1) X0.out
        have hB1 : Below w.heap.size w w1 := B0.out.trans (b1.mono hs0)
        have hS1 : w.heap.size ≤ w1.heap.size := hB1.size
        have HR1 := Lib.hid (HRA.out.below hB1)
        have HBB := Lib.hid hB1
        clear hB1
        go_wp2_with (first | (go_at_call 47; refine (l1In_any _ _ _ _).mono ?_; rintro e w' ⟨rfl, rfl⟩) | (go_at_call 48; refine (l17Words_any _ _ _ args _ (by exact HR1.out) HM.out.symm (by omega) hz).mono ?_; rintro e w' ⟨rfl, rfl⟩))
        go_ret
        exact ⟨by rw [HF.out]; rfl, HBB.out, hS1⟩
  · have e1 : ((m : Int) != (nargs 5 word : Int)) = true := by rw [bne_iff_ne]; have : nargs 5 word = 1 := rfl; omega
    have HF := Lib.hid (vR3_h (k := 5) (word := word) (args := args) (count := count) (nb := nb) (V := V) (by rw [← HM.out]; simp [headV, nargs, okCount, hasB, inB, hm]))
    go_enter Tryz.func105, Tryz.ntmps105
    go_wp2_with fail
    rw [← HW.out]
    refine (l17Args_any _ _ _ _ _ _ ⟨_, _, _, rfl⟩ ⟨_, _, _, rfl⟩).mono ?_
    rintro e w1 ⟨rfl, b1, s1⟩
    obtain ⟨p0, p1, p2, p3, p4⟩ := boxcells5 (lay := b1) X0.out
    have hB1 : Below w.heap.size w w1 := B0.out.trans (b1.mono hs0)
    have hS1 : w.heap.size ≤ w1.heap.size := hB1.size
    have HR1 := Lib.hid (HRA.out.below hB1)
    have HBB := Lib.hid hB1
    clear hB1
    go_wp2_with (first | (go_at_call 47; refine (l1In_any _ _ _ _).mono ?_; rintro e w' ⟨rfl, rfl⟩) | (go_at_call 48; refine (l17Words_any _ _ _ args _ (by exact HR1.out) HM.out.symm (by omega) hz).mono ?_; rintro e w' ⟨rfl, rfl⟩))
    go_ret
    exact ⟨by rw [HF.out]; rfl, HBB.out, hS1⟩
set_option maxRecDepth 100000 in
set_option maxHeartbeats 8000000 in
theorem vst_spec_6 (word : ByteArray) (args : List ByteArray) (count : Int) (Aa : Option Addr) (ca : Nat) (Ab : Option Addr) (nb cb : Nat) (w : World) (V : Bool) (hra : Rd w 1 Aa args.length (strs args)) (hz : szS args ≤ 1048576) (hl : args.length ≤ 1048576) (hn : nb ≤ 1048576)
    (hall : ∀ w', Below w.heap.size w w' → Calls Tryz.prog 49 #[.slice Ab nb cb] w' fun e w'' => e = .returned (.bool V) ∧ Below w'.heap.size w' w'' ∧ w'.heap.size ≤ w''.heap.size) :
    Calls Tryz.prog 105 #[.agg #[.int .i64 6, .string word, .slice Aa args.length ca, .int .i64 count, .slice Ab nb cb]] w fun e w' => e = .returned (.bool (vR3 6 word args count nb V)) ∧ Below w.heap.size w w' ∧ w.heap.size ≤ w'.heap.size := by
  obtain ⟨m, hm0⟩ : ∃ m, m = args.length := ⟨_, rfl⟩
  rw [← hm0] at hl hra ⊢
  have HM := Lib.hid hm0
  have HRA := Lib.hid hra
  have HALL := Lib.hid hall
  clear hra hall hm0
  have hB : hasB 6 = false := rfl
  have hIN : inB 6 1 7 = true := rfl
  have HAW : Hid (allW args = args.all wordOk) := Lib.hid rfl
  obtain ⟨w0, hw0⟩ : ∃ w0, w0 = w.alloc (.cells #[.int .i64 6, .string word, .slice Aa m ca, .int .i64 count, .slice Ab nb cb] 66) := ⟨_, rfl⟩
  have X0 := Lib.hid (show w0.heap[w.heap.size]? = some (.cells #[.int .i64 6, .string word, .slice Aa m ca, .int .i64 count, .slice Ab nb cb] 66 (0, 0)) by rw [hw0]; exact boxed1_0 _ _)
  have b0 : Below w.heap.size w w0 := by rw [hw0]; exact (by repeat (first | exact Below.refl _ _ | assumption | (refine Below.trans ?_ (Below.mono (by assumption) (by first | omega | (simp; done) | (simp; omega)))) | (with_reducible refine Below.drew ?_) | (with_reducible refine Below.alloc ?_ (by first | omega | (simp; done) | (simp; omega)) _) | (with_reducible refine Below.setCell ?_ (by first | omega | (simp; done) | (simp; omega)) _)))
  have hs0 : w.heap.size ≤ w0.heap.size := b0.size
  have B0 := Lib.hid b0
  have HW := Lib.hid hw0
  clear b0 hw0
  by_cases hm : m = 2
  · subst hm
    have e1 : ((2 : Int) != (nargs 6 word : Int)) = false := rfl
    cases hwo : args.all wordOk
    · have HWO := Lib.hid hwo
      have hAW := HAW.out.trans hwo
      clear hwo
      have HF := Lib.hid (vR3_w (k := 6) (word := word) (args := args) (count := count) (nb := nb) (V := V) HWO.out)
      go_enter Tryz.func105, Tryz.ntmps105
      go_wp2_with fail
      rw [← HW.out]
      refine (l17Args_any _ _ _ _ _ _ ⟨_, _, _, rfl⟩ ⟨_, _, _, rfl⟩).mono ?_
      rintro e w1 ⟨rfl, b1, s1⟩
      obtain ⟨p0, p1, p2, p3, p4⟩ := boxcells5 (lay := b1) X0.out
      have hB1 : Below w.heap.size w w1 := B0.out.trans (b1.mono hs0)
      have hS1 : w.heap.size ≤ w1.heap.size := hB1.size
      have HR1 := Lib.hid (HRA.out.below hB1)
      have HBB := Lib.hid hB1
      clear hB1
      go_wp2_with (first | (go_at_call 47; refine (l1In_any _ _ _ _).mono ?_; rintro e w' ⟨rfl, rfl⟩) | (go_at_call 48; refine (l17Words_any _ _ _ args _ (by exact HR1.out) HM.out.symm (by omega) hz).mono ?_; rintro e w' ⟨rfl, rfl⟩))
      go_ret
      exact ⟨by rw [HF.out]; rfl, HBB.out, hS1⟩
    · have HWO := Lib.hid hwo
      have hAW := HAW.out.trans hwo
      clear hwo
      by_cases hb : nb = 0
      · have e3 : decide (0 < (nb : Int)) = false := by simp; omega
        have e3n : decide (0 < nb) = false := by simp; omega
        have HNB := Lib.hid hb
        clear hb
        by_cases hw : word.toList = []
        · have e2 : word.toList.isEmpty = true := by simp [hw]
          have HWE := Lib.hid hw
          clear hw
          by_cases hc : count = 0
          · subst hc
            have HH := Lib.hid (show headV 6 word args.length 0 nb = true by rw [← HM.out]; simp [headV, nargs, okCount, hasB, inB, HNB.out, HWE.out])
            have HF := Lib.hid (vR3_t (V := V) HH.out HWO.out)
            go_enter Tryz.func105, Tryz.ntmps105
            go_wp2_with fail
            rw [← HW.out]
            refine (l17Args_any _ _ _ _ _ _ ⟨_, _, _, rfl⟩ ⟨_, _, _, rfl⟩).mono ?_
            rintro e w1 ⟨rfl, b1, s1⟩
            obtain ⟨p0, p1, p2, p3, p4⟩ := boxcells5 (lay := b1) X0.out
            have hB1 : Below w.heap.size w w1 := B0.out.trans (b1.mono hs0)
            have hS1 : w.heap.size ≤ w1.heap.size := hB1.size
            have HR1 := Lib.hid (HRA.out.below hB1)
            have HBB := Lib.hid hB1
            clear hB1
            go_wp2_with (first | (go_at_call 47; refine (l1In_any _ _ _ _).mono ?_; rintro e w' ⟨rfl, rfl⟩) | (go_at_call 48; refine (l17Words_any _ _ _ args _ (by exact HR1.out) HM.out.symm (by omega) hz).mono ?_; rintro e w' ⟨rfl, rfl⟩))
            refine (HALL.out _ HBB.out).mono ?_
            rintro e w2 ⟨rfl, b2, s2⟩
            go_wp2_with fail
            go_ret
            exact ⟨by rw [HF.out]; rfl, HBB.out.trans (b2.mono hS1), by omega⟩
          · have e4 : (count != 0) = true := by rw [bne_iff_ne]; exact hc
            have HF := Lib.hid (vR3_h (k := 6) (word := word) (args := args) (count := count) (nb := nb) (V := V) (by rw [← HM.out]; simp [headV, nargs, okCount, hasB, inB, HNB.out, HWE.out, hc]))
            go_enter Tryz.func105, Tryz.ntmps105
            go_wp2_with fail
            rw [← HW.out]
            refine (l17Args_any _ _ _ _ _ _ ⟨_, _, _, rfl⟩ ⟨_, _, _, rfl⟩).mono ?_
            rintro e w1 ⟨rfl, b1, s1⟩
            obtain ⟨p0, p1, p2, p3, p4⟩ := boxcells5 (lay := b1) X0.out
            have hB1 : Below w.heap.size w w1 := B0.out.trans (b1.mono hs0)
            have hS1 : w.heap.size ≤ w1.heap.size := hB1.size
            have HR1 := Lib.hid (HRA.out.below hB1)
            have HBB := Lib.hid hB1
            clear hB1
            go_wp2_with (first | (go_at_call 47; refine (l1In_any _ _ _ _).mono ?_; rintro e w' ⟨rfl, rfl⟩) | (go_at_call 48; refine (l17Words_any _ _ _ args _ (by exact HR1.out) HM.out.symm (by omega) hz).mono ?_; rintro e w' ⟨rfl, rfl⟩))
            go_ret
            exact ⟨by rw [HF.out]; rfl, HBB.out, hS1⟩
        · have e2 : word.toList.isEmpty = false := by rw [List.isEmpty_eq_false_iff]; exact hw
          have HWE := Lib.hid hw
          clear hw
          have HF := Lib.hid (vR3_h (k := 6) (word := word) (args := args) (count := count) (nb := nb) (V := V) (by rw [← HM.out]; simp [headV, nargs, okCount, hasB, inB, HNB.out, HWE.out]))
          go_enter Tryz.func105, Tryz.ntmps105
          go_wp2_with fail
          rw [← HW.out]
          refine (l17Args_any _ _ _ _ _ _ ⟨_, _, _, rfl⟩ ⟨_, _, _, rfl⟩).mono ?_
          rintro e w1 ⟨rfl, b1, s1⟩
          obtain ⟨p0, p1, p2, p3, p4⟩ := boxcells5 (lay := b1) X0.out
          have hB1 : Below w.heap.size w w1 := B0.out.trans (b1.mono hs0)
          have hS1 : w.heap.size ≤ w1.heap.size := hB1.size
          have HR1 := Lib.hid (HRA.out.below hB1)
          have HBB := Lib.hid hB1
          clear hB1
          go_wp2_with (first | (go_at_call 47; refine (l1In_any _ _ _ _).mono ?_; rintro e w' ⟨rfl, rfl⟩) | (go_at_call 48; refine (l17Words_any _ _ _ args _ (by exact HR1.out) HM.out.symm (by omega) hz).mono ?_; rintro e w' ⟨rfl, rfl⟩))
          go_ret
          exact ⟨by rw [HF.out]; rfl, HBB.out, hS1⟩
      · have e3 : decide (0 < (nb : Int)) = true := by simp; omega
        have e3n : decide (0 < nb) = true := by simp; omega
        have HNB := Lib.hid hb
        clear hb
        have HF := Lib.hid (vR3_h (k := 6) (word := word) (args := args) (count := count) (nb := nb) (V := V) (by rw [← HM.out]; simp [headV, nargs, okCount, hasB, inB, HNB.out]))
        go_enter Tryz.func105, Tryz.ntmps105
        go_wp2_with fail
        rw [← HW.out]
        refine (l17Args_any _ _ _ _ _ _ ⟨_, _, _, rfl⟩ ⟨_, _, _, rfl⟩).mono ?_
        rintro e w1 ⟨rfl, b1, s1⟩
        obtain ⟨p0, p1, p2, p3, p4⟩ := boxcells5 (lay := b1) X0.out
        have hB1 : Below w.heap.size w w1 := B0.out.trans (b1.mono hs0)
        have hS1 : w.heap.size ≤ w1.heap.size := hB1.size
        have HR1 := Lib.hid (HRA.out.below hB1)
        have HBB := Lib.hid hB1
        clear hB1
        go_wp2_with (first | (go_at_call 47; refine (l1In_any _ _ _ _).mono ?_; rintro e w' ⟨rfl, rfl⟩) | (go_at_call 48; refine (l17Words_any _ _ _ args _ (by exact HR1.out) HM.out.symm (by omega) hz).mono ?_; rintro e w' ⟨rfl, rfl⟩))
        go_ret
        exact ⟨by rw [HF.out]; rfl, HBB.out, hS1⟩
  · have e1 : ((m : Int) != (nargs 6 word : Int)) = true := by rw [bne_iff_ne]; have : nargs 6 word = 2 := rfl; omega
    have HF := Lib.hid (vR3_h (k := 6) (word := word) (args := args) (count := count) (nb := nb) (V := V) (by rw [← HM.out]; simp [headV, nargs, okCount, hasB, inB, hm]))
    go_enter Tryz.func105, Tryz.ntmps105
    go_wp2_with fail
    rw [← HW.out]
    refine (l17Args_any _ _ _ _ _ _ ⟨_, _, _, rfl⟩ ⟨_, _, _, rfl⟩).mono ?_
    rintro e w1 ⟨rfl, b1, s1⟩
    obtain ⟨p0, p1, p2, p3, p4⟩ := boxcells5 (lay := b1) X0.out
    have hB1 : Below w.heap.size w w1 := B0.out.trans (b1.mono hs0)
    have hS1 : w.heap.size ≤ w1.heap.size := hB1.size
    have HR1 := Lib.hid (HRA.out.below hB1)
    have HBB := Lib.hid hB1
    clear hB1
    go_wp2_with (first | (go_at_call 47; refine (l1In_any _ _ _ _).mono ?_; rintro e w' ⟨rfl, rfl⟩) | (go_at_call 48; refine (l17Words_any _ _ _ args _ (by exact HR1.out) HM.out.symm (by omega) hz).mono ?_; rintro e w' ⟨rfl, rfl⟩))
    go_ret
    exact ⟨by rw [HF.out]; rfl, HBB.out, hS1⟩
set_option maxRecDepth 100000 in
set_option maxHeartbeats 8000000 in
theorem vst_spec_7 (word : ByteArray) (args : List ByteArray) (count : Int) (Aa : Option Addr) (ca : Nat) (Ab : Option Addr) (nb cb : Nat) (w : World) (V : Bool) (hra : Rd w 1 Aa args.length (strs args)) (hz : szS args ≤ 1048576) (hl : args.length ≤ 1048576) (hn : nb ≤ 1048576)
    (hall : ∀ w', Below w.heap.size w w' → Calls Tryz.prog 49 #[.slice Ab nb cb] w' fun e w'' => e = .returned (.bool V) ∧ Below w'.heap.size w' w'' ∧ w'.heap.size ≤ w''.heap.size) :
    Calls Tryz.prog 105 #[.agg #[.int .i64 7, .string word, .slice Aa args.length ca, .int .i64 count, .slice Ab nb cb]] w fun e w' => e = .returned (.bool (vR3 7 word args count nb V)) ∧ Below w.heap.size w w' ∧ w.heap.size ≤ w'.heap.size := by
  obtain ⟨m, hm0⟩ : ∃ m, m = args.length := ⟨_, rfl⟩
  rw [← hm0] at hl hra ⊢
  have HM := Lib.hid hm0
  have HRA := Lib.hid hra
  have HALL := Lib.hid hall
  clear hra hall hm0
  have hB : hasB 7 = true := rfl
  have hIN : inB 7 1 7 = true := rfl
  have HAW : Hid (allW args = args.all wordOk) := Lib.hid rfl
  obtain ⟨w0, hw0⟩ : ∃ w0, w0 = w.alloc (.cells #[.int .i64 7, .string word, .slice Aa m ca, .int .i64 count, .slice Ab nb cb] 66) := ⟨_, rfl⟩
  have X0 := Lib.hid (show w0.heap[w.heap.size]? = some (.cells #[.int .i64 7, .string word, .slice Aa m ca, .int .i64 count, .slice Ab nb cb] 66 (0, 0)) by rw [hw0]; exact boxed1_0 _ _)
  have b0 : Below w.heap.size w w0 := by rw [hw0]; exact (by repeat (first | exact Below.refl _ _ | assumption | (refine Below.trans ?_ (Below.mono (by assumption) (by first | omega | (simp; done) | (simp; omega)))) | (with_reducible refine Below.drew ?_) | (with_reducible refine Below.alloc ?_ (by first | omega | (simp; done) | (simp; omega)) _) | (with_reducible refine Below.setCell ?_ (by first | omega | (simp; done) | (simp; omega)) _)))
  have hs0 : w.heap.size ≤ w0.heap.size := b0.size
  have B0 := Lib.hid b0
  have HW := Lib.hid hw0
  clear b0 hw0
  by_cases hm : m = 1
  · subst hm
    have e1 : ((1 : Int) != (nargs 7 word : Int)) = false := rfl
    cases hwo : args.all wordOk
    · have HWO := Lib.hid hwo
      have hAW := HAW.out.trans hwo
      clear hwo
      have HF := Lib.hid (vR3_w (k := 7) (word := word) (args := args) (count := count) (nb := nb) (V := V) HWO.out)
      go_enter Tryz.func105, Tryz.ntmps105
      go_wp2_with fail
      rw [← HW.out]
      refine (l17Args_any _ _ _ _ _ _ ⟨_, _, _, rfl⟩ ⟨_, _, _, rfl⟩).mono ?_
      rintro e w1 ⟨rfl, b1, s1⟩
      obtain ⟨p0, p1, p2, p3, p4⟩ := boxcells5 (lay := b1) X0.out
      have hB1 : Below w.heap.size w w1 := B0.out.trans (b1.mono hs0)
      have hS1 : w.heap.size ≤ w1.heap.size := hB1.size
      have HR1 := Lib.hid (HRA.out.below hB1)
      have HBB := Lib.hid hB1
      clear hB1
      go_wp2_with (first | (go_at_call 47; refine (l1In_any _ _ _ _).mono ?_; rintro e w' ⟨rfl, rfl⟩) | (go_at_call 48; refine (l17Words_any _ _ _ args _ (by exact HR1.out) HM.out.symm (by omega) hz).mono ?_; rintro e w' ⟨rfl, rfl⟩))
      go_ret
      exact ⟨by rw [HF.out]; rfl, HBB.out, hS1⟩
    · have HWO := Lib.hid hwo
      have hAW := HAW.out.trans hwo
      clear hwo
      by_cases hw : word.toList = []
      · have e2 : word.toList.isEmpty = true := by simp [hw]
        have HWE := Lib.hid hw
        clear hw
        by_cases hc : count = 0
        · subst hc
          have HH := Lib.hid (show headV 7 word args.length 0 nb = true by rw [← HM.out]; simp [headV, nargs, okCount, hasB, inB, HWE.out])
          have HF := Lib.hid (vR3_t (V := V) HH.out HWO.out)
          go_enter Tryz.func105, Tryz.ntmps105
          go_wp2_with fail
          rw [← HW.out]
          refine (l17Args_any _ _ _ _ _ _ ⟨_, _, _, rfl⟩ ⟨_, _, _, rfl⟩).mono ?_
          rintro e w1 ⟨rfl, b1, s1⟩
          obtain ⟨p0, p1, p2, p3, p4⟩ := boxcells5 (lay := b1) X0.out
          have hB1 : Below w.heap.size w w1 := B0.out.trans (b1.mono hs0)
          have hS1 : w.heap.size ≤ w1.heap.size := hB1.size
          have HR1 := Lib.hid (HRA.out.below hB1)
          have HBB := Lib.hid hB1
          clear hB1
          go_wp2_with (first | (go_at_call 47; refine (l1In_any _ _ _ _).mono ?_; rintro e w' ⟨rfl, rfl⟩) | (go_at_call 48; refine (l17Words_any _ _ _ args _ (by exact HR1.out) HM.out.symm (by omega) hz).mono ?_; rintro e w' ⟨rfl, rfl⟩))
          refine (HALL.out _ HBB.out).mono ?_
          rintro e w2 ⟨rfl, b2, s2⟩
          go_wp2_with fail
          go_ret
          exact ⟨by rw [HF.out]; rfl, HBB.out.trans (b2.mono hS1), by omega⟩
        · have e4 : (count != 0) = true := by rw [bne_iff_ne]; exact hc
          have HF := Lib.hid (vR3_h (k := 7) (word := word) (args := args) (count := count) (nb := nb) (V := V) (by rw [← HM.out]; simp [headV, nargs, okCount, hasB, inB, HWE.out, hc]))
          go_enter Tryz.func105, Tryz.ntmps105
          go_wp2_with fail
          rw [← HW.out]
          refine (l17Args_any _ _ _ _ _ _ ⟨_, _, _, rfl⟩ ⟨_, _, _, rfl⟩).mono ?_
          rintro e w1 ⟨rfl, b1, s1⟩
          obtain ⟨p0, p1, p2, p3, p4⟩ := boxcells5 (lay := b1) X0.out
          have hB1 : Below w.heap.size w w1 := B0.out.trans (b1.mono hs0)
          have hS1 : w.heap.size ≤ w1.heap.size := hB1.size
          have HR1 := Lib.hid (HRA.out.below hB1)
          have HBB := Lib.hid hB1
          clear hB1
          go_wp2_with (first | (go_at_call 47; refine (l1In_any _ _ _ _).mono ?_; rintro e w' ⟨rfl, rfl⟩) | (go_at_call 48; refine (l17Words_any _ _ _ args _ (by exact HR1.out) HM.out.symm (by omega) hz).mono ?_; rintro e w' ⟨rfl, rfl⟩))
          go_ret
          exact ⟨by rw [HF.out]; rfl, HBB.out, hS1⟩
      · have e2 : word.toList.isEmpty = false := by rw [List.isEmpty_eq_false_iff]; exact hw
        have HWE := Lib.hid hw
        clear hw
        have HF := Lib.hid (vR3_h (k := 7) (word := word) (args := args) (count := count) (nb := nb) (V := V) (by rw [← HM.out]; simp [headV, nargs, okCount, hasB, inB, HWE.out]))
        go_enter Tryz.func105, Tryz.ntmps105
        go_wp2_with fail
        rw [← HW.out]
        refine (l17Args_any _ _ _ _ _ _ ⟨_, _, _, rfl⟩ ⟨_, _, _, rfl⟩).mono ?_
        rintro e w1 ⟨rfl, b1, s1⟩
        obtain ⟨p0, p1, p2, p3, p4⟩ := boxcells5 (lay := b1) X0.out
        have hB1 : Below w.heap.size w w1 := B0.out.trans (b1.mono hs0)
        have hS1 : w.heap.size ≤ w1.heap.size := hB1.size
        have HR1 := Lib.hid (HRA.out.below hB1)
        have HBB := Lib.hid hB1
        clear hB1
        go_wp2_with (first | (go_at_call 47; refine (l1In_any _ _ _ _).mono ?_; rintro e w' ⟨rfl, rfl⟩) | (go_at_call 48; refine (l17Words_any _ _ _ args _ (by exact HR1.out) HM.out.symm (by omega) hz).mono ?_; rintro e w' ⟨rfl, rfl⟩))
        go_ret
        exact ⟨by rw [HF.out]; rfl, HBB.out, hS1⟩
  · have e1 : ((m : Int) != (nargs 7 word : Int)) = true := by rw [bne_iff_ne]; have : nargs 7 word = 1 := rfl; omega
    have HF := Lib.hid (vR3_h (k := 7) (word := word) (args := args) (count := count) (nb := nb) (V := V) (by rw [← HM.out]; simp [headV, nargs, okCount, hasB, inB, hm]))
    go_enter Tryz.func105, Tryz.ntmps105
    go_wp2_with fail
    rw [← HW.out]
    refine (l17Args_any _ _ _ _ _ _ ⟨_, _, _, rfl⟩ ⟨_, _, _, rfl⟩).mono ?_
    rintro e w1 ⟨rfl, b1, s1⟩
    obtain ⟨p0, p1, p2, p3, p4⟩ := boxcells5 (lay := b1) X0.out
    have hB1 : Below w.heap.size w w1 := B0.out.trans (b1.mono hs0)
    have hS1 : w.heap.size ≤ w1.heap.size := hB1.size
    have HR1 := Lib.hid (HRA.out.below hB1)
    have HBB := Lib.hid hB1
    clear hB1
    go_wp2_with (first | (go_at_call 47; refine (l1In_any _ _ _ _).mono ?_; rintro e w' ⟨rfl, rfl⟩) | (go_at_call 48; refine (l17Words_any _ _ _ args _ (by exact HR1.out) HM.out.symm (by omega) hz).mono ?_; rintro e w' ⟨rfl, rfl⟩))
    go_ret
    exact ⟨by rw [HF.out]; rfl, HBB.out, hS1⟩
end Go.Proofs.YthkbckkghnbonaaGreatDoor
namespace Go.Proofs.YthkbckkghnbonaaGreatDoor
open Go.RowKit
set_option linter.unusedVariables false
theorem headV_no {k : Int} (h : inB k 1 7 = false) (word : ByteArray) (na : Nat) (count : Int) (nb : Nat) : headV k word na count nb = false := by simp [headV, h]
set_option maxRecDepth 100000 in
set_option maxHeartbeats 2000000 in
theorem vst_impl_no (k : Int) (word : ByteArray) (args : List ByteArray) (count : Int) (Aa : Option Addr) (ca : Nat) (Ab : Option Addr) (nb cb : Nat) (w : World) (rs : List Bool) (hk : inB k 1 7 = false) :
    Calls Tryz.prog 43 #[.agg #[.int .i64 k, .string word, .slice Aa args.length ca, .int .i64 count, .slice Ab nb cb]] w fun e w' => e = .returned (.bool (vRes k word args count nb rs)) ∧ Below w.heap.size w w' ∧ w.heap.size ≤ w'.heap.size := by
  have hk' := inB_not.1 hk
  have HF := Lib.hid (vRes_h (rs := rs) (headV_no hk word args.length count nb))
  have e1 : (k == 1) = false := beq_eq_false_iff_ne.2 (by omega)
  have e2 : (k == 2) = false := beq_eq_false_iff_ne.2 (by omega)
  have e3 : (k == 3) = false := beq_eq_false_iff_ne.2 (by omega)
  have e4 : (k == 4) = false := beq_eq_false_iff_ne.2 (by omega)
  have e5 : (k == 5) = false := beq_eq_false_iff_ne.2 (by omega)
  have e6 : (k == 6) = false := beq_eq_false_iff_ne.2 (by omega)
  have e7 : (k == 7) = false := beq_eq_false_iff_ne.2 (by omega)
  obtain ⟨m, hm⟩ : ∃ m, m = args.length := ⟨_, rfl⟩
  rw [← hm]
  clear hk hk' hm
  go_enter Tryz.func43, Tryz.ntmps43
  go_wp2_with fail
  go_ret
  exact ⟨by rw [HF.out]; rfl, (by repeat (first | exact Below.refl _ _ | assumption | (refine Below.trans ?_ (Below.mono (by assumption) (by first | omega | (simp; done) | (simp; omega)))) | (with_reducible refine Below.drew ?_) | (with_reducible refine Below.alloc ?_ (by first | omega | (simp; done) | (simp; omega)) _) | (with_reducible refine Below.setCell ?_ (by first | omega | (simp; done) | (simp; omega)) _))), (by first | omega | (simp; done) | (simp; omega))⟩
theorem vst_impl_k (k : Int) (word : ByteArray) (args : List ByteArray) (count : Int) (Aa : Option Addr) (ca : Nat) (Ab : Option Addr) (nb cb : Nat) (w : World) (rs : List Bool) (hra : Rd w 1 Aa args.length (strs args)) (hG : GN w) (hz : szS args ≤ 1048576) (hl : args.length ≤ 1048576) (hn : nb ≤ 1048576) (hrs : rs.length = nb) (hel : Elts 43 w Ab nb rs) :
    Calls Tryz.prog 43 #[.agg #[.int .i64 k, .string word, .slice Aa args.length ca, .int .i64 count, .slice Ab nb cb]] w fun e w' => e = .returned (.bool (vRes k word args count nb rs)) ∧ Below w.heap.size w w' ∧ w.heap.size ≤ w'.heap.size := by
  cases hk : inB k 1 7
  · exact vst_impl_no k word args count Aa ca Ab nb cb w rs hk
  · have h := inB_iff.1 hk
    have hc : k = 1 ∨ k = 2 ∨ k = 3 ∨ k = 4 ∨ k = 5 ∨ k = 6 ∨ k = 7 := by omega
    rcases hc with rfl | rfl | rfl | rfl | rfl | rfl | rfl
    · exact vst_impl_1 word args count Aa ca Ab nb cb w rs hra hG hz hl hn hrs hel
    · exact vst_impl_2 word args count Aa ca Ab nb cb w rs hra hG hz hl hn hrs hel
    · exact vst_impl_3 word args count Aa ca Ab nb cb w rs hra hG hz hl hn hrs hel
    · exact vst_impl_4 word args count Aa ca Ab nb cb w rs hra hG hz hl hn hrs hel
    · exact vst_impl_5 word args count Aa ca Ab nb cb w rs hra hG hz hl hn hrs hel
    · exact vst_impl_6 word args count Aa ca Ab nb cb w rs hra hG hz hl hn hrs hel
    · exact vst_impl_7 word args count Aa ca Ab nb cb w rs hra hG hz hl hn hrs hel
def VSaidI (d : Nat) : Prop := ∀ (lo : Nat) (k : Int) (word : ByteArray) (args : List ByteArray) (count : Int) (bd : List (Tr d)) (Aa : Option Addr) (ca : Nat) (Ab : Option Addr) (nb cb : Nat) (w : World), RdL w lo 1 Aa args.length (strs args) → RdT w lo d Ab nb bd → GN w → szS args ≤ 1048576 → args.length ≤ 1048576 → szT d bd ≤ 1048576 →
  Calls Tryz.prog 43 #[.agg #[.int .i64 k, .string word, .slice Aa args.length ca, .int .i64 count, .slice Ab nb cb]] w fun e w' => e = .returned (.bool (vOne d (validT d) ⟨k, word, args, count⟩ bd)) ∧ Below w.heap.size w w' ∧ w.heap.size ≤ w'.heap.size
theorem IsValidStmt_impl : ∀ (d : Nat), VSaidI d := by
  intro d
  induction d with
  | zero =>
    intro lo k word args count bd Aa ca Ab nb cb w hra hrb hG hz hl hsz
    obtain rfl := szT_zero_len hrb
    obtain rfl : bd = [] := List.eq_nil_of_length_eq_zero hrb.len
    exact (vst_impl_k k word args count Aa ca Ab 0 cb w [] hra.rd hG hz hl (by omega) rfl (fun t ht => absurd ht (by omega))).mono fun e w' ⟨h1, h2⟩ => ⟨by rw [h1]; exact congrArg (fun b => Ending.returned (Value.bool b)) (vRes_one (d := 0) (bd := []) rfl), h2⟩
  | succ d ih =>
    intro lo k word args count bd Aa ca Ab nb cb w hra hrb hG hz hl hsz
    have hlen := hrb.len
    subst hlen
    have hn : bd.length ≤ 1048576 := by rw [szT_succ] at hsz; omega
    refine (vst_impl_k k word args count Aa ca Ab bd.length cb w (bd.map fun s => vOne d (validT d) (hdT s) (bdT s)) hra.rd hG hz hl hn (by simp) (fun t ht => ?_)).mono fun e w' ⟨h1, h2⟩ => ⟨by rw [h1]; exact congrArg (fun b => Ending.returned (Value.bool b)) (vRes_one (rs_valid bd)), h2⟩
    obtain ⟨b, off, s, Aa', ca', Ab', nb', cb', rfl, hbl, hs, ⟨c0, c1, c2, c3, c4⟩, h2, h3⟩ := hrb.at_ ht
    refine ⟨b, off, (hdT s).k, (hdT s).word, Aa', (hdT s).args.length, ca', (hdT s).count, Ab', nb', cb', _, rfl, hbl, ⟨c0, c1, c2, c3, c4⟩, by rw [List.getElem?_map, hs]; rfl, fun w' hw' => ?_⟩
    have hme := szT_mem hs
    have hq := hsz
    rw [szT_succ] at hq
    unfold szE at hme
    exact ih lo _ _ _ _ (bdT s) _ _ _ _ _ _ (h2.below hw') (h3.below hw') (hG.below hw') (by omega) (by omega) (by omega)
set_option maxRecDepth 100000 in
set_option maxHeartbeats 2000000 in
theorem vst_spec_no (k : Int) (word : ByteArray) (args : List ByteArray) (count : Int) (Aa : Option Addr) (ca : Nat) (Ab : Option Addr) (nb cb : Nat) (w : World) (V : Bool) (hk : inB k 1 7 = false) :
    Calls Tryz.prog 105 #[.agg #[.int .i64 k, .string word, .slice Aa args.length ca, .int .i64 count, .slice Ab nb cb]] w fun e w' => e = .returned (.bool (vR3 k word args count nb V)) ∧ Below w.heap.size w w' ∧ w.heap.size ≤ w'.heap.size := by
  have HF := Lib.hid (vR3_h (V := V) (args := args) (headV_no hk word args.length count nb))
  obtain ⟨m, hm⟩ : ∃ m, m = args.length := ⟨_, rfl⟩
  rw [← hm]
  clear hm
  obtain ⟨w0, hw0⟩ : ∃ w0, w0 = w.alloc (.cells #[.int .i64 k, .string word, .slice Aa m ca, .int .i64 count, .slice Ab nb cb] 66) := ⟨_, rfl⟩
  have X0 := Lib.hid (show w0.heap[w.heap.size]? = some (.cells #[.int .i64 k, .string word, .slice Aa m ca, .int .i64 count, .slice Ab nb cb] 66 (0, 0)) by rw [hw0]; exact boxed1_0 _ _)
  have b0 : Below w.heap.size w w0 := by rw [hw0]; exact (by repeat (first | exact Below.refl _ _ | assumption | (refine Below.trans ?_ (Below.mono (by assumption) (by first | omega | (simp; done) | (simp; omega)))) | (with_reducible refine Below.drew ?_) | (with_reducible refine Below.alloc ?_ (by first | omega | (simp; done) | (simp; omega)) _) | (with_reducible refine Below.setCell ?_ (by first | omega | (simp; done) | (simp; omega)) _)))
  have hs0 : w.heap.size ≤ w0.heap.size := b0.size
  have B0 := Lib.hid b0
  have HW := Lib.hid hw0
  clear b0 hw0
  go_enter Tryz.func105, Tryz.ntmps105
  go_wp2_with fail
  rw [← HW.out]
  refine (l17Args_any _ _ _ _ _ _ ⟨_, _, _, rfl⟩ ⟨_, _, _, rfl⟩).mono ?_
  rintro e w1 ⟨rfl, b1, s1⟩
  obtain ⟨p0, p1, p2, p3, p4⟩ := boxcells5 (lay := b1) X0.out
  have hB1 : Below w.heap.size w w1 := B0.out.trans (b1.mono hs0)
  have HBB := Lib.hid hB1
  have hS1 : w.heap.size ≤ w1.heap.size := hB1.size
  clear hB1
  go_wp2_with (go_at_call 47; refine (l1In_any _ _ _ _).mono ?_; rintro e w' ⟨rfl, rfl⟩)
  go_ret
  exact ⟨by rw [HF.out]; rfl, HBB.out, hS1⟩
theorem vst_spec_k (k : Int) (word : ByteArray) (args : List ByteArray) (count : Int) (Aa : Option Addr) (ca : Nat) (Ab : Option Addr) (nb cb : Nat) (w : World) (V : Bool) (hra : Rd w 1 Aa args.length (strs args)) (hz : szS args ≤ 1048576) (hl : args.length ≤ 1048576) (hn : nb ≤ 1048576)
    (hall : ∀ w', Below w.heap.size w w' → Calls Tryz.prog 49 #[.slice Ab nb cb] w' fun e w'' => e = .returned (.bool V) ∧ Below w'.heap.size w' w'' ∧ w'.heap.size ≤ w''.heap.size) :
    Calls Tryz.prog 105 #[.agg #[.int .i64 k, .string word, .slice Aa args.length ca, .int .i64 count, .slice Ab nb cb]] w fun e w' => e = .returned (.bool (vR3 k word args count nb V)) ∧ Below w.heap.size w w' ∧ w.heap.size ≤ w'.heap.size := by
  cases hk : inB k 1 7
  · exact vst_spec_no k word args count Aa ca Ab nb cb w V hk
  · have h := inB_iff.1 hk
    have hc : k = 1 ∨ k = 2 ∨ k = 3 ∨ k = 4 ∨ k = 5 ∨ k = 6 ∨ k = 7 := by omega
    rcases hc with rfl | rfl | rfl | rfl | rfl | rfl | rfl
    · exact vst_spec_1 word args count Aa ca Ab nb cb w V hra hz hl hn hall
    · exact vst_spec_2 word args count Aa ca Ab nb cb w V hra hz hl hn hall
    · exact vst_spec_3 word args count Aa ca Ab nb cb w V hra hz hl hn hall
    · exact vst_spec_4 word args count Aa ca Ab nb cb w V hra hz hl hn hall
    · exact vst_spec_5 word args count Aa ca Ab nb cb w V hra hz hl hn hall
    · exact vst_spec_6 word args count Aa ca Ab nb cb w V hra hz hl hn hall
    · exact vst_spec_7 word args count Aa ca Ab nb cb w V hra hz hl hn hall
def AllSaid (d : Nat) : Prop := ∀ (lo : Nat) (A : Option Addr) (n c : Nat) (l : List (Tr d)) (w : World), RdT w lo d A n l → szT d l ≤ 1048576 →
  Calls Tryz.prog 49 #[.slice A n c] w fun e w' => e = .returned (.bool (validT d l)) ∧ Below w.heap.size w w' ∧ w.heap.size ≤ w'.heap.size
def VSaidS (d : Nat) : Prop := ∀ (lo : Nat) (k : Int) (word : ByteArray) (args : List ByteArray) (count : Int) (bd : List (Tr d)) (Aa : Option Addr) (ca : Nat) (Ab : Option Addr) (nb cb : Nat) (w : World), RdL w lo 1 Aa args.length (strs args) → RdT w lo d Ab nb bd → szS args ≤ 1048576 → args.length ≤ 1048576 → szT d bd ≤ 1048576 →
  Calls Tryz.prog 105 #[.agg #[.int .i64 k, .string word, .slice Aa args.length ca, .int .i64 count, .slice Ab nb cb]] w fun e w' => e = .returned (.bool (vOne d (validT d) ⟨k, word, args, count⟩ bd)) ∧ Below w.heap.size w w' ∧ w.heap.size ≤ w'.heap.size
theorem one_of_all {d : Nat} (h : AllSaid d) : VSaidS d := by
  intro lo k word args count bd Aa ca Ab nb cb w hra hrb hz hl hsz
  have hlen := hrb.len
  subst hlen
  have hn : bd.length ≤ 1048576 := by
    cases d with
    | zero => have := szT_zero_len hrb; omega
    | succ d => rw [szT_succ] at hsz; omega
  exact (vst_spec_k k word args count Aa ca Ab bd.length cb w (validT d bd) hra.rd hz hl hn (fun w' hw' => h lo _ _ _ bd w' (hrb.below hw') hsz))
set_option maxRecDepth 100000 in
set_option maxHeartbeats 2000000 in
theorem l17All_any : ∀ (d : Nat), AllSaid d := by
  intro d
  induction d with
  | zero =>
    intro lo A n c l w h _
    obtain rfl := szT_zero_len h
    go_enter Tryz.func49, Tryz.ntmps49
    go_wp2
    refine wp_loop_rounds 1 ?_
    rw [rounds_succ]
    go_wp2
    go_ret
    exact ⟨rfl, Below.refl _ _, Nat.le_refl _⟩
  | succ d ih =>
    intro lo A n c l w h hsz
    have hq := hsz
    rw [szT_succ] at hq
    have hl := h.len
    have hn : n ≤ 1048576 := by omega
    have H := Lib.hid h
    have HL := Lib.hid hl
    have ih' := Lib.hid (one_of_all ih)
    have HQ := Lib.hid hq
    clear h hl hsz hq
    go_enter Tryz.func49, Tryz.ntmps49
    go_wp2
    go_loopw [3] (fun i wr => ∃ t : Nat, t ≤ n ∧ i = .int .i64 t ∧ validT (d + 1) (l.take t) = true ∧ Below w.heap.size w wr) (fun i _ => n - (intOf i).toNat)
    case atStart => exact ⟨0, Nat.zero_le _, rfl, rfl, Below.refl _ _⟩
    case round =>
      obtain ⟨t, ht, rfl, hok, hb⟩ := hrel
      have HOK := Lib.hid hok
      have hbs := hb.size
      clear hok
      by_cases hlt : t < n
      · obtain ⟨b, off, s, Aa', ca', Ab', nb', cb', rfl, hbl, hs, ⟨c0, c1, c2, c3, c4⟩, h2, h3⟩ := (H.out.below hb).at_ hlt
        have hme := szT_mem hs
        unfold szE at hme
        have hq := HQ.out
        have HC := Lib.hid (ih'.out lo (hdT s).k (hdT s).word (hdT s).args (hdT s).count (bdT s) Aa' ca' Ab' nb' cb' wr h2 h3 (by omega) (by omega) (by omega))
        obtain ⟨V, hV⟩ : ∃ V, V = vOne d (validT d) (hdT s) (bdT s) := ⟨_, rfl⟩
        have HV := Lib.hid hV
        have HS := Lib.hid hs
        have HC2 : Hid (Calls Tryz.prog 105 #[.agg #[.int .i64 (hdT s).k, .string (hdT s).word, .slice Aa' (hdT s).args.length ca', .int .i64 (hdT s).count, .slice Ab' nb' cb']] wr fun e w' => e = .returned (.bool V) ∧ Below wr.heap.size wr w' ∧ wr.heap.size ≤ w'.heap.size) := by
          rw [hV]
          exact HC.out
        clear hV hs hme hq HC h2 h3
        cases V
        · have HF := Lib.hid (show validT (d + 1) l = false by
            simp only [validT]
            rw [List.all_eq_false]
            exact ⟨s, List.mem_of_getElem? HS.out, by rw [← HV.out]; simp⟩)
          go_wp2_with fail
          refine HC2.out.mono ?_
          rintro e w2 ⟨rfl, hb2, hs2⟩
          go_wp2_with fail
          go_ret
          exact ⟨by rw [HF.out]; rfl, hb.trans (hb2.mono hbs), by omega⟩
        · have HN := Lib.hid (show validT (d + 1) (l.take (t + 1)) = true by
            have h := HOK.out
            simp only [validT] at h ⊢
            rw [all_take _ HS.out, h, ← HV.out]
            rfl)
          go_wp2_with fail
          refine HC2.out.mono ?_
          rintro e w2 ⟨rfl, hb2, hs2⟩
          go_wp2_with fail
          go_roundw
          case rel => exact ⟨t + 1, by omega, by go_num, HN.out, hb.trans (hb2.mono hbs)⟩
          case measure => simp [intOf]; omega
      · obtain rfl : t = n := by omega
        have HF : Hid (validT (d + 1) l = true) := by
          have h := HOK.out
          rw [List.take_of_length_le (by rw [HL.out]; exact Nat.le_refl _)] at h
          exact h
        go_wp2_with fail
        go_ret
        exact ⟨by rw [HF.out]; rfl, hb, hb.size⟩
theorem IsValidStmt_spec (d : Nat) : VSaidS d := one_of_all (l17All_any d)
end Go.Proofs.YthkbckkghnbonaaGreatDoor
namespace Go.Proofs.YthkbckkghnbonaaGreatDoor
open Go.RowKit
set_option linter.unusedVariables false
/-- The tokens that StmtTokens answers. -/
def stToks (V : Bool) (L : List Tk) : List Tk := if V then L else []
theorem stToks_t (L : List Tk) : stToks true L = L := rfl
theorem stToks_f (L : List Tk) : stToks false L = [] := rfl
theorem stToks_len (V : Bool) (L : List Tk) : (stToks V L).length ≤ L.length := by cases V <;> simp [stToks]
def TkSaidS (d : Nat) : Prop := ∀ (lo : Nat) (k : Int) (word : ByteArray) (args : List ByteArray) (count : Int) (bd : List (Tr d)) (Aa : Option Addr) (ca : Nat) (Ab : Option Addr) (nb cb : Nat) (w : World), RdL w lo 1 Aa args.length (strs args) → RdT w lo d Ab nb bd → szS args ≤ 1048576 → args.length ≤ 1048576 → szT d bd ≤ 1048576 → vOne d (validT d) ⟨k, word, args, count⟩ bd = true →
  Calls Tryz.prog 99 #[.agg #[.int .i64 k, .string word, .slice Aa args.length ca, .int .i64 count, .slice Ab nb cb]] w (RetTk w (toks1 ⟨k, word, args, count⟩ (toksT d bd)))
theorem toks_spec_k (k : Int) (hk : 1 ≤ k ∧ k ≤ 7) (word : ByteArray) (args : List ByteArray) (count : Int) (Aa : Option Addr) (m ca : Nat) (Ab : Option Addr) (nb cb : Nat) (w : World) (rs : List (List Tk)) (hm : args.length = m) (hra : Rd w 1 Aa m (strs args)) (hl : m ≤ 1048576) (hn : nb ≤ 1048576) (hrs : rs.length = nb) (hel : EltsT 99 w Ab nb rs) (hR : rs.flatten.length ≤ 1099511627776) (hc : k = 2 → 1 ≤ count ∧ count ≤ 9)
    (hval : ∀ w', Below w.heap.size w w' → Calls Tryz.prog 105 #[.agg #[.int .i64 k, .string word, .slice Aa m ca, .int .i64 count, .slice Ab nb cb]] w' fun e w'' => e = .returned (.bool true) ∧ Below w'.heap.size w' w'' ∧ w'.heap.size ≤ w''.heap.size) :
    Calls Tryz.prog 99 #[.agg #[.int .i64 k, .string word, .slice Aa m ca, .int .i64 count, .slice Ab nb cb]] w (RetTk w (toks1 ⟨k, word, args, count⟩ rs.flatten)) := by
  have h : k = 1 ∨ k = 2 ∨ k = 3 ∨ k = 4 ∨ k = 5 ∨ k = 6 ∨ k = 7 := by omega
  rcases h with rfl | rfl | rfl | rfl | rfl | rfl | rfl
  · exact toks_spec_1 word args count Aa m ca Ab nb cb w rs hm hra hl hn hrs hel hR hval
  · exact toks_spec_2 word args count Aa m ca Ab nb cb w rs hm hra hl hn hrs hel hR (hc rfl).1 (hc rfl).2 hval
  · exact toks_spec_3 word args count Aa m ca Ab nb cb w rs hm hra hl hn hrs hel hR hval
  · exact toks_spec_4 word args count Aa m ca Ab nb cb w rs hm hra hl hn hrs hel hR hval
  · exact toks_spec_5 word args count Aa m ca Ab nb cb w rs hm hra hl hn hrs hel hR hval
  · exact toks_spec_6 word args count Aa m ca Ab nb cb w rs hm hra hl hn hrs hel hR hval
  · exact toks_spec_7 word args count Aa m ca Ab nb cb w rs hm hra hl hn hrs hel hR hval
theorem StmtTokens_spec_v : ∀ (d : Nat), TkSaidS d := by
  intro d
  induction d with
  | zero =>
    intro lo k word args count bd Aa ca Ab nb cb w hra hrb hz hl hsz hv
    obtain rfl := szT_zero_len hrb
    obtain rfl : bd = [] := List.eq_nil_of_length_eq_zero hrb.len
    obtain ⟨h1, h2, _⟩ := vOne_facts hv
    exact toks_spec_k k h1 word args count Aa _ ca Ab 0 cb w [] rfl hra.rd hl (by omega) rfl (fun t ht => absurd ht (by omega)) (by simp) h2 (fun w' hw' => by
      have := IsValidStmt_spec 0 lo k word args count [] Aa ca Ab 0 cb w' (hra.below hw') (hrb.below hw') hz hl hsz
      rwa [hv] at this)
  | succ d ih =>
    intro lo k word args count bd Aa ca Ab nb cb w hra hrb hz hl hsz hv
    have hlen := hrb.len
    subst hlen
    have hn : bd.length ≤ 1048576 := by rw [szT_succ] at hsz; omega
    obtain ⟨h1, h2, h3⟩ := vOne_facts hv
    have htl := toksT_len (d + 1) bd
    rw [toksT_succ] at htl ⊢
    refine toks_spec_k k h1 word args count Aa _ ca Ab bd.length cb w _ rfl hra.rd hl hn (by simp) (fun t ht => ?_) (by omega) h2 (fun w' hw' => by
      have := IsValidStmt_spec (d + 1) lo k word args count bd Aa ca Ab bd.length cb w' (hra.below hw') (hrb.below hw') hz hl hsz
      rwa [hv] at this)
    obtain ⟨b, off, s, Aa', ca', Ab', nb', cb', rfl, hbl, hs, ⟨c0, c1, c2, c3, c4⟩, g2, g3⟩ := hrb.at_ ht
    refine ⟨b, off, (hdT s).k, (hdT s).word, Aa', (hdT s).args.length, ca', (hdT s).count, Ab', nb', cb', _, rfl, hbl, ⟨c0, c1, c2, c3, c4⟩, by rw [List.getElem?_map, hs]; rfl, fun w' hw' => ?_⟩
    have hme := szT_mem hs
    have hq := hsz
    rw [szT_succ] at hq
    unfold szE at hme
    exact ih lo _ _ _ _ (bdT s) _ _ _ _ _ _ (g2.below hw') (g3.below hw') (by omega) (by omega) (by omega) (validT_mem h3 hs)
end Go.Proofs.YthkbckkghnbonaaGreatDoor
namespace Go.Proofs.YthkbckkghnbonaaGreatDoor
open Go.RowKit
set_option linter.unusedVariables false
theorem boxcells2 {w w' : World} {b : Nat} {x0 x1 : Value} {t : TypeId} (lay : Below w'.heap.size w' w) (h : w'.heap[b]? = some (.cells #[x0, x1] t (0, 0))) :
    w.cell? ⟨b, 0, none⟩ = some x0 ∧ w.cell? ⟨b, 1, none⟩ = some x1 := by
  have h' : w.heap[b]? = some (.cells #[x0, x1] t (0, 0)) := (lay.block b (lt_of_block h)).trans h
  exact ⟨by simp [World.cell?, h'], by simp [World.cell?, h']⟩
end Go.Proofs.YthkbckkghnbonaaGreatDoor
