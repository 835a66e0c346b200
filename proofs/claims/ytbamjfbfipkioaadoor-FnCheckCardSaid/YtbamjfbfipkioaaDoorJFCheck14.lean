/- What the calls that this law reaches answer, part 14 of 30. -/
import Derived.Test.YtbamjfbfipkioaaDoorJFCheck13
namespace Go.Proofs.YtbamjfbfipkioaaDoor
open Go.RowKit
set_option linter.unusedVariables false
def allW (l : List ByteArray) : Bool := l.all wordOk
def vR3 (k : Int) (word : ByteArray) (args : List ByteArray) (count : Int) (nb : Nat) (V : Bool) : Bool := headV k word args.length count nb && (args.all wordOk && V)
section
variable {k : Int} {word : ByteArray} {args : List ByteArray} {count : Int} {nb : Nat} {V : Bool}
theorem vR3_h (h : headV k word args.length count nb = false) : vR3 k word args count nb V = false := by simp [vR3, h]
theorem vR3_w (h : args.all wordOk = false) : vR3 k word args count nb V = false := by simp [vR3, h]
theorem vR3_t (h1 : headV k word args.length count nb = true) (h2 : args.all wordOk = true) : vR3 k word args count nb V = V := by rw [vR3, h1, h2]; simp
end
set_option maxRecDepth 100000 in
set_option maxHeartbeats 1000000 in
theorem l17Words_any (A : Option Addr) (n c : Nat) (l : List ByteArray) (w : World) (h : Rd w 1 A n (strs l)) (hl : l.length = n) (hn : n ≤ 1099511627776) (hz : szS l ≤ 1048576) :
    Calls Tryd.prog 31 #[.slice A n c] w fun e w' => e = .returned (.bool (allW l)) ∧ w = w' := by
  have H := Lib.hid h
  have HL := Lib.hid hl
  clear h hl
  go_enter Tryd.func31, Tryd.ntmps31
  go_wp2
  go_loop [3] (fun i => ∃ t : Nat, t ≤ n ∧ i = .int .i64 t ∧ allW (l.take t) = true) (fun i => n - (intOf i).toNat)
  case atStart => exact ⟨0, Nat.zero_le _, rfl, rfl⟩
  case round =>
    obtain ⟨t, ht, rfl, hok⟩ := hrel
    have HOK := Lib.hid hok
    clear hok
    by_cases hlt : t < n
    · have htl : t < l.length := by rw [HL.out]; exact hlt
      obtain ⟨s, hs⟩ : ∃ s, l[t]? = some s := ⟨_, List.getElem?_eq_getElem htl⟩
      obtain ⟨b, off, rfl, _, hc⟩ := H.out.2 (by omega)
      have q0 := hc t _ (strs_at hs)
      have hsz := szS_mem hs
      have HS := Lib.hid hs
      have hs63 : s.size ≤ 9223372036854775807 := by omega
      clear hc hs htl hsz
      cases hw : wordOk s
      · have HF := Lib.hid (show allW l = false by rw [allW, List.all_eq_false]; exact ⟨s, List.mem_of_getElem? HS.out, by simp [hw]⟩)
        go_wp2_with (go_at_call 49; refine (IsValidWord_spec _ _ hs63).mono ?_; rintro e w' ⟨rfl, rfl⟩)
        go_ret
        exact ⟨by rw [HF.out]; rfl, rfl⟩
      · have HN := Lib.hid (show allW (l.take (t + 1)) = true by
          have h := HOK.out
          rw [allW] at h ⊢
          rw [all_take _ HS.out, h, hw]
          rfl)
        go_wp2_with (go_at_call 49; refine (IsValidWord_spec _ _ hs63).mono ?_; rintro e w' ⟨rfl, rfl⟩)
        go_round
        case rel => exact ⟨t + 1, by omega, by go_num, HN.out⟩
        case measure => simp [intOf]; omega
    · obtain rfl : t = n := by omega
      have HF : Hid (allW l = true) := by
        have h := HOK.out
        rw [List.take_of_length_le (by rw [HL.out]; exact Nat.le_refl _)] at h
        exact h
      go_wp2_with fail
      go_ret
      exact ⟨by rw [HF.out]; rfl, rfl⟩
set_option maxRecDepth 100000 in
set_option maxHeartbeats 8000000 in
theorem vst_spec_1 (word : ByteArray) (args : List ByteArray) (count : Int) (Aa : Option Addr) (ca : Nat) (Ab : Option Addr) (nb cb : Nat) (w : World) (V : Bool) (hra : Rd w 1 Aa args.length (strs args)) (hz : szS args ≤ 1048576) (hl : args.length ≤ 1048576) (hn : nb ≤ 1048576)
    (hall : ∀ w', Below w.heap.size w w' → Calls Tryd.prog 32 #[.slice Ab nb cb] w' fun e w'' => e = .returned (.bool V) ∧ Below w'.heap.size w' w'' ∧ w'.heap.size ≤ w''.heap.size) :
    Calls Tryd.prog 11 #[.agg #[.int .i64 1, .string word, .slice Aa args.length ca, .int .i64 count, .slice Ab nb cb]] w fun e w' => e = .returned (.bool (vR3 1 word args count nb V)) ∧ Below w.heap.size w w' ∧ w.heap.size ≤ w'.heap.size := by
  obtain ⟨m, hm0⟩ : ∃ m, m = args.length := ⟨_, rfl⟩
  rw [← hm0] at hl hra ⊢
  have HM := Lib.hid hm0
  have HRA := Lib.hid hra
  have HALL := Lib.hid hall
  clear hra hall hm0
  have hB : hasB 1 = false := rfl
  have hIN : inB 1 1 7 = true := rfl
  have HAW : Hid (allW args = args.all wordOk) := Lib.hid rfl
  obtain ⟨w0, hw0⟩ : ∃ w0, w0 = w.alloc (.cells #[.int .i64 1, .string word, .slice Aa m ca, .int .i64 count, .slice Ab nb cb] 27) := ⟨_, rfl⟩
  have X0 := Lib.hid (show w0.heap[w.heap.size]? = some (.cells #[.int .i64 1, .string word, .slice Aa m ca, .int .i64 count, .slice Ab nb cb] 27 (0, 0)) by rw [hw0]; exact boxed1_0 _ _)
  have b0 : Below w.heap.size w w0 := by rw [hw0]; exact (by repeat (first | exact Below.refl _ _ | assumption | (refine Below.trans ?_ (Below.mono (by assumption) (by first | omega | (simp; done) | (simp; omega)))) | (with_reducible refine Below.drew ?_) | (with_reducible refine Below.alloc ?_ (by first | omega | (simp; done) | (simp; omega)) _) | (with_reducible refine Below.setCell ?_ (by first | omega | (simp; done) | (simp; omega)) _)))
  have hs0 : w.heap.size ≤ w0.heap.size := b0.size
  have B0 := Lib.hid b0
  have HW := Lib.hid hw0
  clear b0 hw0
  by_cases hm : (m : Int) = (nargs 1 word : Int)
  · have e1 : ((m : Int) != (nargs 1 word : Int)) = false := by simpa using hm
    have hmn : m = ar (gkind word) := by have : nargs 1 word = ar (gkind word) := rfl; omega
    have HMN := Lib.hid hmn
    clear hm hmn
    cases hwo : args.all wordOk
    · have HWO := Lib.hid hwo
      have hAW := HAW.out.trans hwo
      clear hwo
      have HF := Lib.hid (vR3_w (k := 1) (word := word) (args := args) (count := count) (nb := nb) (V := V) HWO.out)
      go_enter Tryd.func11, Tryd.ntmps11
      go_wp2_with fail
      rw [← HW.out]
      refine (l17Args_any _ _ _ _ _ _ ⟨_, _, _, rfl⟩ ⟨_, _, _, rfl⟩).mono ?_
      rintro e w1 ⟨rfl, b1, s1⟩
      obtain ⟨p0, p1, p2, p3, p4⟩ := boxcells5 (lay := b1) X0.out
      have hB1 : Below w.heap.size w w1 := B0.out.trans (b1.mono hs0)
      have hS1 : w.heap.size ≤ w1.heap.size := hB1.size
      have HR1 := Lib.hid (HRA.out.below hB1)
      have HBB := Lib.hid hB1
      clear hB1
      go_wp2_with (first | (go_at_call 30; refine (l1In_any _ _ _ _).mono ?_; rintro e w' ⟨rfl, rfl⟩) | (go_at_call 31; refine (l17Words_any _ _ _ args _ (by exact HR1.out) HM.out.symm (by omega) hz).mono ?_; rintro e w' ⟨rfl, rfl⟩))
      go_ret
      exact ⟨by rw [HF.out]; rfl, HBB.out, hS1⟩
    · have HWO := Lib.hid hwo
      have hAW := HAW.out.trans hwo
      clear hwo
      by_cases hb : nb = 0
      · have e3 : decide (0 < (nb : Int)) = false := by simp; omega
        have e3n : decide (0 < nb) = false := by simp; omega
        have HNB := Lib.hid hb
        clear hb
        by_cases hw : word.toList = []
        · have e2 : word.toList.isEmpty = true := by simp [hw]
          have HWE := Lib.hid hw
          have HGE := Lib.hid (show ar (gkind word) = 0 by rw [gkind_empty hw]; rfl)
          clear hw
          have HF := Lib.hid (vR3_h (k := 1) (word := word) (args := args) (count := count) (nb := nb) (V := V) (by rw [← HM.out]; simp [headV, nargs, okCount, hasB, inB, HMN.out, HNB.out, HWE.out, HGE.out]))
          go_enter Tryd.func11, Tryd.ntmps11
          go_wp2_with fail
          rw [← HW.out]
          refine (l17Args_any _ _ _ _ _ _ ⟨_, _, _, rfl⟩ ⟨_, _, _, rfl⟩).mono ?_
          rintro e w1 ⟨rfl, b1, s1⟩
          obtain ⟨p0, p1, p2, p3, p4⟩ := boxcells5 (lay := b1) X0.out
          have hB1 : Below w.heap.size w w1 := B0.out.trans (b1.mono hs0)
          have hS1 : w.heap.size ≤ w1.heap.size := hB1.size
          have HR1 := Lib.hid (HRA.out.below hB1)
          have HBB := Lib.hid hB1
          clear hB1
          go_wp2_with (first | (go_at_call 30; refine (l1In_any _ _ _ _).mono ?_; rintro e w' ⟨rfl, rfl⟩) | (go_at_call 31; refine (l17Words_any _ _ _ args _ (by exact HR1.out) HM.out.symm (by omega) hz).mono ?_; rintro e w' ⟨rfl, rfl⟩))
          go_ret
          exact ⟨by rw [HF.out]; rfl, HBB.out, hS1⟩
        · have e2 : word.toList.isEmpty = false := by rw [List.isEmpty_eq_false_iff]; exact hw
          have HWE := Lib.hid hw
          clear hw
          by_cases g0 : nargs 1 word = 0
          · have e0 : ((nargs 1 word : Int) == 0) = true := by rw [g0]; rfl
            have HG0 := Lib.hid (show ar (gkind word) = 0 from g0)
            clear g0
            have HF := Lib.hid (vR3_h (k := 1) (word := word) (args := args) (count := count) (nb := nb) (V := V) (by rw [← HM.out]; simp [headV, nargs, okCount, hasB, inB, HG0.out]))
            go_enter Tryd.func11, Tryd.ntmps11
            go_wp2_with fail
            rw [← HW.out]
            refine (l17Args_any _ _ _ _ _ _ ⟨_, _, _, rfl⟩ ⟨_, _, _, rfl⟩).mono ?_
            rintro e w1 ⟨rfl, b1, s1⟩
            obtain ⟨p0, p1, p2, p3, p4⟩ := boxcells5 (lay := b1) X0.out
            have hB1 : Below w.heap.size w w1 := B0.out.trans (b1.mono hs0)
            have hS1 : w.heap.size ≤ w1.heap.size := hB1.size
            have HR1 := Lib.hid (HRA.out.below hB1)
            have HBB := Lib.hid hB1
            clear hB1
            go_wp2_with (first | (go_at_call 30; refine (l1In_any _ _ _ _).mono ?_; rintro e w' ⟨rfl, rfl⟩) | (go_at_call 31; refine (l17Words_any _ _ _ args _ (by exact HR1.out) HM.out.symm (by omega) hz).mono ?_; rintro e w' ⟨rfl, rfl⟩))
            go_ret
            exact ⟨by rw [HF.out]; rfl, HBB.out, hS1⟩
          · have e0 : ((nargs 1 word : Int) == 0) = false := by rw [beq_eq_false_iff_ne]; omega
            have HGW := Lib.hid (show ar (gkind word) ≠ 0 from g0)
            clear g0
            by_cases hc : count = 0
            · subst hc
              have HH := Lib.hid (show headV 1 word args.length 0 nb = true by rw [← HM.out]; simp [headV, nargs, okCount, hasB, inB, HMN.out, HNB.out, HWE.out, HGW.out])
              have HF := Lib.hid (vR3_t (V := V) HH.out HWO.out)
              go_enter Tryd.func11, Tryd.ntmps11
              go_wp2_with fail
              rw [← HW.out]
              refine (l17Args_any _ _ _ _ _ _ ⟨_, _, _, rfl⟩ ⟨_, _, _, rfl⟩).mono ?_
              rintro e w1 ⟨rfl, b1, s1⟩
              obtain ⟨p0, p1, p2, p3, p4⟩ := boxcells5 (lay := b1) X0.out
              have hB1 : Below w.heap.size w w1 := B0.out.trans (b1.mono hs0)
              have hS1 : w.heap.size ≤ w1.heap.size := hB1.size
              have HR1 := Lib.hid (HRA.out.below hB1)
              have HBB := Lib.hid hB1
              clear hB1
              go_wp2_with (first | (go_at_call 30; refine (l1In_any _ _ _ _).mono ?_; rintro e w' ⟨rfl, rfl⟩) | (go_at_call 31; refine (l17Words_any _ _ _ args _ (by exact HR1.out) HM.out.symm (by omega) hz).mono ?_; rintro e w' ⟨rfl, rfl⟩))
              refine (HALL.out _ HBB.out).mono ?_
              rintro e w2 ⟨rfl, b2, s2⟩
              go_wp2_with fail
              go_ret
              exact ⟨by rw [HF.out]; rfl, HBB.out.trans (b2.mono hS1), by omega⟩
            · have e4 : (count != 0) = true := by rw [bne_iff_ne]; exact hc
              have HF := Lib.hid (vR3_h (k := 1) (word := word) (args := args) (count := count) (nb := nb) (V := V) (by rw [← HM.out]; simp [headV, nargs, okCount, hasB, inB, HMN.out, HNB.out, HWE.out, HGW.out, hc]))
              go_enter Tryd.func11, Tryd.ntmps11
              go_wp2_with fail
              rw [← HW.out]
              refine (l17Args_any _ _ _ _ _ _ ⟨_, _, _, rfl⟩ ⟨_, _, _, rfl⟩).mono ?_
              rintro e w1 ⟨rfl, b1, s1⟩
              obtain ⟨p0, p1, p2, p3, p4⟩ := boxcells5 (lay := b1) X0.out
              have hB1 : Below w.heap.size w w1 := B0.out.trans (b1.mono hs0)
              have hS1 : w.heap.size ≤ w1.heap.size := hB1.size
              have HR1 := Lib.hid (HRA.out.below hB1)
              have HBB := Lib.hid hB1
              clear hB1
              go_wp2_with (first | (go_at_call 30; refine (l1In_any _ _ _ _).mono ?_; rintro e w' ⟨rfl, rfl⟩) | (go_at_call 31; refine (l17Words_any _ _ _ args _ (by exact HR1.out) HM.out.symm (by omega) hz).mono ?_; rintro e w' ⟨rfl, rfl⟩))
              go_ret
              exact ⟨by rw [HF.out]; rfl, HBB.out, hS1⟩
      · have e3 : decide (0 < (nb : Int)) = true := by simp; omega
        have e3n : decide (0 < nb) = true := by simp; omega
        have HNB := Lib.hid hb
        clear hb
        have HF := Lib.hid (vR3_h (k := 1) (word := word) (args := args) (count := count) (nb := nb) (V := V) (by rw [← HM.out]; simp [headV, nargs, okCount, hasB, inB, HNB.out]))
        go_enter Tryd.func11, Tryd.ntmps11
        go_wp2_with fail
        rw [← HW.out]
        refine (l17Args_any _ _ _ _ _ _ ⟨_, _, _, rfl⟩ ⟨_, _, _, rfl⟩).mono ?_
        rintro e w1 ⟨rfl, b1, s1⟩
        obtain ⟨p0, p1, p2, p3, p4⟩ := boxcells5 (lay := b1) X0.out
        have hB1 : Below w.heap.size w w1 := B0.out.trans (b1.mono hs0)
        have hS1 : w.heap.size ≤ w1.heap.size := hB1.size
        have HR1 := Lib.hid (HRA.out.below hB1)
        have HBB := Lib.hid hB1
        clear hB1
        go_wp2_with (first | (go_at_call 30; refine (l1In_any _ _ _ _).mono ?_; rintro e w' ⟨rfl, rfl⟩) | (go_at_call 31; refine (l17Words_any _ _ _ args _ (by exact HR1.out) HM.out.symm (by omega) hz).mono ?_; rintro e w' ⟨rfl, rfl⟩))
        go_ret
        exact ⟨by rw [HF.out]; rfl, HBB.out, hS1⟩
  · have e1 : ((m : Int) != (nargs 1 word : Int)) = true := by rw [bne_iff_ne]; exact hm
    have hmn : m ≠ ar (gkind word) := by have : nargs 1 word = ar (gkind word) := rfl; omega
    have HMN := Lib.hid hmn
    clear hm hmn
    have HF := Lib.hid (vR3_h (k := 1) (word := word) (args := args) (count := count) (nb := nb) (V := V) (by rw [← HM.out]; simp [headV, nargs, okCount, hasB, inB, HMN.out]))
    go_enter Tryd.func11, Tryd.ntmps11
    go_wp2_with fail
    rw [← HW.out]
    refine (l17Args_any _ _ _ _ _ _ ⟨_, _, _, rfl⟩ ⟨_, _, _, rfl⟩).mono ?_
    rintro e w1 ⟨rfl, b1, s1⟩
    obtain ⟨p0, p1, p2, p3, p4⟩ := boxcells5 (lay := b1) X0.out
    have hB1 : Below w.heap.size w w1 := B0.out.trans (b1.mono hs0)
    have hS1 : w.heap.size ≤ w1.heap.size := hB1.size
    have HR1 := Lib.hid (HRA.out.below hB1)
    have HBB := Lib.hid hB1
    clear hB1
    go_wp2_with (first | (go_at_call 30; refine (l1In_any _ _ _ _).mono ?_; rintro e w' ⟨rfl, rfl⟩) | (go_at_call 31; refine (l17Words_any _ _ _ args _ (by exact HR1.out) HM.out.symm (by omega) hz).mono ?_; rintro e w' ⟨rfl, rfl⟩))
    go_ret
    exact ⟨by rw [HF.out]; rfl, HBB.out, hS1⟩
set_option maxRecDepth 100000 in
set_option maxHeartbeats 8000000 in
theorem vst_spec_2 (word : ByteArray) (args : List ByteArray) (count : Int) (Aa : Option Addr) (ca : Nat) (Ab : Option Addr) (nb cb : Nat) (w : World) (V : Bool) (hra : Rd w 1 Aa args.length (strs args)) (hz : szS args ≤ 1048576) (hl : args.length ≤ 1048576) (hn : nb ≤ 1048576)
    (hall : ∀ w', Below w.heap.size w w' → Calls Tryd.prog 32 #[.slice Ab nb cb] w' fun e w'' => e = .returned (.bool V) ∧ Below w'.heap.size w' w'' ∧ w'.heap.size ≤ w''.heap.size) :
    Calls Tryd.prog 11 #[.agg #[.int .i64 2, .string word, .slice Aa args.length ca, .int .i64 count, .slice Ab nb cb]] w fun e w' => e = .returned (.bool (vR3 2 word args count nb V)) ∧ Below w.heap.size w w' ∧ w.heap.size ≤ w'.heap.size := by
  obtain ⟨m, hm0⟩ : ∃ m, m = args.length := ⟨_, rfl⟩
  rw [← hm0] at hl hra ⊢
  have HM := Lib.hid hm0
  have HRA := Lib.hid hra
  have HALL := Lib.hid hall
  clear hra hall hm0
  have hB : hasB 2 = true := rfl
  have hIN : inB 2 1 7 = true := rfl
  have HAW : Hid (allW args = args.all wordOk) := Lib.hid rfl
  obtain ⟨w0, hw0⟩ : ∃ w0, w0 = w.alloc (.cells #[.int .i64 2, .string word, .slice Aa m ca, .int .i64 count, .slice Ab nb cb] 27) := ⟨_, rfl⟩
  have X0 := Lib.hid (show w0.heap[w.heap.size]? = some (.cells #[.int .i64 2, .string word, .slice Aa m ca, .int .i64 count, .slice Ab nb cb] 27 (0, 0)) by rw [hw0]; exact boxed1_0 _ _)
  have b0 : Below w.heap.size w w0 := by rw [hw0]; exact (by repeat (first | exact Below.refl _ _ | assumption | (refine Below.trans ?_ (Below.mono (by assumption) (by first | omega | (simp; done) | (simp; omega)))) | (with_reducible refine Below.drew ?_) | (with_reducible refine Below.alloc ?_ (by first | omega | (simp; done) | (simp; omega)) _) | (with_reducible refine Below.setCell ?_ (by first | omega | (simp; done) | (simp; omega)) _)))
  have hs0 : w.heap.size ≤ w0.heap.size := b0.size
  have B0 := Lib.hid b0
  have HW := Lib.hid hw0
  clear b0 hw0
  by_cases hm : m = 0
  · subst hm
    have e1 : ((0 : Int) != (nargs 2 word : Int)) = false := rfl
    cases hwo : args.all wordOk
    · have HWO := Lib.hid hwo
      have hAW := HAW.out.trans hwo
      clear hwo
      have HF := Lib.hid (vR3_w (k := 2) (word := word) (args := args) (count := count) (nb := nb) (V := V) HWO.out)
      go_enter Tryd.func11, Tryd.ntmps11
      go_wp2_with fail
      rw [← HW.out]
      refine (l17Args_any _ _ _ _ _ _ ⟨_, _, _, rfl⟩ ⟨_, _, _, rfl⟩).mono ?_
      rintro e w1 ⟨rfl, b1, s1⟩
      obtain ⟨p0, p1, p2, p3, p4⟩ := boxcells5 (lay := b1) X0.out
      have hB1 : Below w.heap.size w w1 := B0.out.trans (b1.mono hs0)
      have hS1 : w.heap.size ≤ w1.heap.size := hB1.size
      have HR1 := Lib.hid (HRA.out.below hB1)
      have HBB := Lib.hid hB1
      clear hB1
      go_wp2_with (first | (go_at_call 30; refine (l1In_any _ _ _ _).mono ?_; rintro e w' ⟨rfl, rfl⟩) | (go_at_call 31; refine (l17Words_any _ _ _ args _ (by exact HR1.out) HM.out.symm (by omega) hz).mono ?_; rintro e w' ⟨rfl, rfl⟩))
      go_ret
      exact ⟨by rw [HF.out]; rfl, HBB.out, hS1⟩
    · have HWO := Lib.hid hwo
      have hAW := HAW.out.trans hwo
      clear hwo
      by_cases hw : word.toList = []
      · have e2 : word.toList.isEmpty = true := by simp [hw]
        have HWE := Lib.hid hw
        clear hw
        cases hc : inB count 1 9
        · have HC9 := Lib.hid (show ¬ (1 ≤ count ∧ count ≤ 9) from by simpa [inB] using hc)
          have HF := Lib.hid (vR3_h (k := 2) (word := word) (args := args) (count := count) (nb := nb) (V := V) (by rw [← HM.out]; simp [headV, nargs, okCount, hasB, inB, HWE.out, HC9.out]))
          go_enter Tryd.func11, Tryd.ntmps11
          go_wp2_with fail
          rw [← HW.out]
          refine (l17Args_any _ _ _ _ _ _ ⟨_, _, _, rfl⟩ ⟨_, _, _, rfl⟩).mono ?_
          rintro e w1 ⟨rfl, b1, s1⟩
          obtain ⟨p0, p1, p2, p3, p4⟩ := boxcells5 (lay := b1) X0.out
          have hB1 : Below w.heap.size w w1 := B0.out.trans (b1.mono hs0)
          have hS1 : w.heap.size ≤ w1.heap.size := hB1.size
          have HR1 := Lib.hid (HRA.out.below hB1)
          have HBB := Lib.hid hB1
          clear hB1
          go_wp2_with (first | (go_at_call 30; refine (l1In_any _ _ _ _).mono ?_; rintro e w' ⟨rfl, rfl⟩) | (go_at_call 31; refine (l17Words_any _ _ _ args _ (by exact HR1.out) HM.out.symm (by omega) hz).mono ?_; rintro e w' ⟨rfl, rfl⟩))
          go_ret
          exact ⟨by rw [HF.out]; rfl, HBB.out, hS1⟩
        · have HC9 := Lib.hid (show 1 ≤ count ∧ count ≤ 9 from by simpa [inB] using hc)
          have HH := Lib.hid (show headV 2 word args.length count nb = true by rw [← HM.out]; simp [headV, nargs, okCount, hasB, inB, HWE.out, HC9.out])
          have HF := Lib.hid (vR3_t (V := V) HH.out HWO.out)
          go_enter Tryd.func11, Tryd.ntmps11
          go_wp2_with fail
          rw [← HW.out]
          refine (l17Args_any _ _ _ _ _ _ ⟨_, _, _, rfl⟩ ⟨_, _, _, rfl⟩).mono ?_
          rintro e w1 ⟨rfl, b1, s1⟩
          obtain ⟨p0, p1, p2, p3, p4⟩ := boxcells5 (lay := b1) X0.out
          have hB1 : Below w.heap.size w w1 := B0.out.trans (b1.mono hs0)
          have hS1 : w.heap.size ≤ w1.heap.size := hB1.size
          have HR1 := Lib.hid (HRA.out.below hB1)
          have HBB := Lib.hid hB1
          clear hB1
          go_wp2_with (first | (go_at_call 30; refine (l1In_any _ _ _ _).mono ?_; rintro e w' ⟨rfl, rfl⟩) | (go_at_call 31; refine (l17Words_any _ _ _ args _ (by exact HR1.out) HM.out.symm (by omega) hz).mono ?_; rintro e w' ⟨rfl, rfl⟩))
          refine (HALL.out _ HBB.out).mono ?_
          rintro e w2 ⟨rfl, b2, s2⟩
          go_wp2_with fail
          go_ret
          exact ⟨by rw [HF.out]; rfl, HBB.out.trans (b2.mono hS1), by omega⟩
      · have e2 : word.toList.isEmpty = false := by rw [List.isEmpty_eq_false_iff]; exact hw
        have HWE := Lib.hid hw
        clear hw
        have HF := Lib.hid (vR3_h (k := 2) (word := word) (args := args) (count := count) (nb := nb) (V := V) (by rw [← HM.out]; simp [headV, nargs, okCount, hasB, inB, HWE.out]))
        go_enter Tryd.func11, Tryd.ntmps11
        go_wp2_with fail
        rw [← HW.out]
        refine (l17Args_any _ _ _ _ _ _ ⟨_, _, _, rfl⟩ ⟨_, _, _, rfl⟩).mono ?_
        rintro e w1 ⟨rfl, b1, s1⟩
        obtain ⟨p0, p1, p2, p3, p4⟩ := boxcells5 (lay := b1) X0.out
        have hB1 : Below w.heap.size w w1 := B0.out.trans (b1.mono hs0)
        have hS1 : w.heap.size ≤ w1.heap.size := hB1.size
        have HR1 := Lib.hid (HRA.out.below hB1)
        have HBB := Lib.hid hB1
        clear hB1
        go_wp2_with (first | (go_at_call 30; refine (l1In_any _ _ _ _).mono ?_; rintro e w' ⟨rfl, rfl⟩) | (go_at_call 31; refine (l17Words_any _ _ _ args _ (by exact HR1.out) HM.out.symm (by omega) hz).mono ?_; rintro e w' ⟨rfl, rfl⟩))
        go_ret
        exact ⟨by rw [HF.out]; rfl, HBB.out, hS1⟩
  · have e1 : ((m : Int) != (nargs 2 word : Int)) = true := by rw [bne_iff_ne]; have : nargs 2 word = 0 := rfl; omega
    have HF := Lib.hid (vR3_h (k := 2) (word := word) (args := args) (count := count) (nb := nb) (V := V) (by rw [← HM.out]; simp [headV, nargs, okCount, hasB, inB, hm]))
    go_enter Tryd.func11, Tryd.ntmps11
    go_wp2_with fail
    rw [← HW.out]
    refine (l17Args_any _ _ _ _ _ _ ⟨_, _, _, rfl⟩ ⟨_, _, _, rfl⟩).mono ?_
    rintro e w1 ⟨rfl, b1, s1⟩
    obtain ⟨p0, p1, p2, p3, p4⟩ := boxcells5 (lay := b1) X0.out
    have hB1 : Below w.heap.size w w1 := B0.out.trans (b1.mono hs0)
    have hS1 : w.heap.size ≤ w1.heap.size := hB1.size
    have HR1 := Lib.hid (HRA.out.below hB1)
    have HBB := Lib.hid hB1
    clear hB1
    go_wp2_with (first | (go_at_call 30; refine (l1In_any _ _ _ _).mono ?_; rintro e w' ⟨rfl, rfl⟩) | (go_at_call 31; refine (l17Words_any _ _ _ args _ (by exact HR1.out) HM.out.symm (by omega) hz).mono ?_; rintro e w' ⟨rfl, rfl⟩))
    go_ret
    exact ⟨by rw [HF.out]; rfl, HBB.out, hS1⟩
set_option maxRecDepth 100000 in
set_option maxHeartbeats 8000000 in
theorem vst_spec_3 (word : ByteArray) (args : List ByteArray) (count : Int) (Aa : Option Addr) (ca : Nat) (Ab : Option Addr) (nb cb : Nat) (w : World) (V : Bool) (hra : Rd w 1 Aa args.length (strs args)) (hz : szS args ≤ 1048576) (hl : args.length ≤ 1048576) (hn : nb ≤ 1048576)
    (hall : ∀ w', Below w.heap.size w w' → Calls Tryd.prog 32 #[.slice Ab nb cb] w' fun e w'' => e = .returned (.bool V) ∧ Below w'.heap.size w' w'' ∧ w'.heap.size ≤ w''.heap.size) :
    Calls Tryd.prog 11 #[.agg #[.int .i64 3, .string word, .slice Aa args.length ca, .int .i64 count, .slice Ab nb cb]] w fun e w' => e = .returned (.bool (vR3 3 word args count nb V)) ∧ Below w.heap.size w w' ∧ w.heap.size ≤ w'.heap.size := by
  obtain ⟨m, hm0⟩ : ∃ m, m = args.length := ⟨_, rfl⟩
  rw [← hm0] at hl hra ⊢
  have HM := Lib.hid hm0
  have HRA := Lib.hid hra
  have HALL := Lib.hid hall
  clear hra hall hm0
  have hB : hasB 3 = true := rfl
  have hIN : inB 3 1 7 = true := rfl
  have HAW : Hid (allW args = args.all wordOk) := Lib.hid rfl
  obtain ⟨w0, hw0⟩ : ∃ w0, w0 = w.alloc (.cells #[.int .i64 3, .string word, .slice Aa m ca, .int .i64 count, .slice Ab nb cb] 27) := ⟨_, rfl⟩
  have X0 := Lib.hid (show w0.heap[w.heap.size]? = some (.cells #[.int .i64 3, .string word, .slice Aa m ca, .int .i64 count, .slice Ab nb cb] 27 (0, 0)) by rw [hw0]; exact boxed1_0 _ _)
  have b0 : Below w.heap.size w w0 := by rw [hw0]; exact (by repeat (first | exact Below.refl _ _ | assumption | (refine Below.trans ?_ (Below.mono (by assumption) (by first | omega | (simp; done) | (simp; omega)))) | (with_reducible refine Below.drew ?_) | (with_reducible refine Below.alloc ?_ (by first | omega | (simp; done) | (simp; omega)) _) | (with_reducible refine Below.setCell ?_ (by first | omega | (simp; done) | (simp; omega)) _)))
  have hs0 : w.heap.size ≤ w0.heap.size := b0.size
  have B0 := Lib.hid b0
  have HW := Lib.hid hw0
  clear b0 hw0
  by_cases hm : m = 0
  · subst hm
    have e1 : ((0 : Int) != (nargs 3 word : Int)) = false := rfl
    cases hwo : args.all wordOk
    · have HWO := Lib.hid hwo
      have hAW := HAW.out.trans hwo
      clear hwo
      have HF := Lib.hid (vR3_w (k := 3) (word := word) (args := args) (count := count) (nb := nb) (V := V) HWO.out)
      go_enter Tryd.func11, Tryd.ntmps11
      go_wp2_with fail
      rw [← HW.out]
      refine (l17Args_any _ _ _ _ _ _ ⟨_, _, _, rfl⟩ ⟨_, _, _, rfl⟩).mono ?_
      rintro e w1 ⟨rfl, b1, s1⟩
      obtain ⟨p0, p1, p2, p3, p4⟩ := boxcells5 (lay := b1) X0.out
      have hB1 : Below w.heap.size w w1 := B0.out.trans (b1.mono hs0)
      have hS1 : w.heap.size ≤ w1.heap.size := hB1.size
      have HR1 := Lib.hid (HRA.out.below hB1)
      have HBB := Lib.hid hB1
      clear hB1
      go_wp2_with (first | (go_at_call 30; refine (l1In_any _ _ _ _).mono ?_; rintro e w' ⟨rfl, rfl⟩) | (go_at_call 31; refine (l17Words_any _ _ _ args _ (by exact HR1.out) HM.out.symm (by omega) hz).mono ?_; rintro e w' ⟨rfl, rfl⟩))
      go_ret
      exact ⟨by rw [HF.out]; rfl, HBB.out, hS1⟩
    · have HWO := Lib.hid hwo
      have hAW := HAW.out.trans hwo
      clear hwo
      by_cases hw : word.toList = []
      · have e2 : word.toList.isEmpty = true := by simp [hw]
        have HWE := Lib.hid hw
        clear hw
        by_cases hc : count = 0
        · subst hc
          have HH := Lib.hid (show headV 3 word args.length 0 nb = true by rw [← HM.out]; simp [headV, nargs, okCount, hasB, inB, HWE.out])
          have HF := Lib.hid (vR3_t (V := V) HH.out HWO.out)
          go_enter Tryd.func11, Tryd.ntmps11
          go_wp2_with fail
          rw [← HW.out]
          refine (l17Args_any _ _ _ _ _ _ ⟨_, _, _, rfl⟩ ⟨_, _, _, rfl⟩).mono ?_
          rintro e w1 ⟨rfl, b1, s1⟩
          obtain ⟨p0, p1, p2, p3, p4⟩ := boxcells5 (lay := b1) X0.out
          have hB1 : Below w.heap.size w w1 := B0.out.trans (b1.mono hs0)
          have hS1 : w.heap.size ≤ w1.heap.size := hB1.size
          have HR1 := Lib.hid (HRA.out.below hB1)
          have HBB := Lib.hid hB1
          clear hB1
          go_wp2_with (first | (go_at_call 30; refine (l1In_any _ _ _ _).mono ?_; rintro e w' ⟨rfl, rfl⟩) | (go_at_call 31; refine (l17Words_any _ _ _ args _ (by exact HR1.out) HM.out.symm (by omega) hz).mono ?_; rintro e w' ⟨rfl, rfl⟩))
          refine (HALL.out _ HBB.out).mono ?_
          rintro e w2 ⟨rfl, b2, s2⟩
          go_wp2_with fail
          go_ret
          exact ⟨by rw [HF.out]; rfl, HBB.out.trans (b2.mono hS1), by omega⟩
        · have e4 : (count != 0) = true := by rw [bne_iff_ne]; exact hc
          have HF := Lib.hid (vR3_h (k := 3) (word := word) (args := args) (count := count) (nb := nb) (V := V) (by rw [← HM.out]; simp [headV, nargs, okCount, hasB, inB, HWE.out, hc]))
          go_enter Tryd.func11, Tryd.ntmps11
          go_wp2_with fail
          rw [← HW.out]
          refine (l17Args_any _ _ _ _ _ _ ⟨_, _, _, rfl⟩ ⟨_, _, _, rfl⟩).mono ?_
          rintro e w1 ⟨rfl, b1, s1⟩
          obtain ⟨p0, p1, p2, p3, p4⟩ := boxcells5 (lay := b1) X0.out
          have hB1 : Below w.heap.size w w1 := B0.out.trans (b1.mono hs0)
          have hS1 : w.heap.size ≤ w1.heap.size := hB1.size
          have HR1 := Lib.hid (HRA.out.below hB1)
          have HBB := Lib.hid hB1
          clear hB1
          go_wp2_with (first | (go_at_call 30; refine (l1In_any _ _ _ _).mono ?_; rintro e w' ⟨rfl, rfl⟩) | (go_at_call 31; refine (l17Words_any _ _ _ args _ (by exact HR1.out) HM.out.symm (by omega) hz).mono ?_; rintro e w' ⟨rfl, rfl⟩))
          go_ret
          exact ⟨by rw [HF.out]; rfl, HBB.out, hS1⟩
      · have e2 : word.toList.isEmpty = false := by rw [List.isEmpty_eq_false_iff]; exact hw
        have HWE := Lib.hid hw
        clear hw
        have HF := Lib.hid (vR3_h (k := 3) (word := word) (args := args) (count := count) (nb := nb) (V := V) (by rw [← HM.out]; simp [headV, nargs, okCount, hasB, inB, HWE.out]))
        go_enter Tryd.func11, Tryd.ntmps11
        go_wp2_with fail
        rw [← HW.out]
        refine (l17Args_any _ _ _ _ _ _ ⟨_, _, _, rfl⟩ ⟨_, _, _, rfl⟩).mono ?_
        rintro e w1 ⟨rfl, b1, s1⟩
        obtain ⟨p0, p1, p2, p3, p4⟩ := boxcells5 (lay := b1) X0.out
        have hB1 : Below w.heap.size w w1 := B0.out.trans (b1.mono hs0)
        have hS1 : w.heap.size ≤ w1.heap.size := hB1.size
        have HR1 := Lib.hid (HRA.out.below hB1)
        have HBB := Lib.hid hB1
        clear hB1
        go_wp2_with (first | (go_at_call 30; refine (l1In_any _ _ _ _).mono ?_; rintro e w' ⟨rfl, rfl⟩) | (go_at_call 31; refine (l17Words_any _ _ _ args _ (by exact HR1.out) HM.out.symm (by omega) hz).mono ?_; rintro e w' ⟨rfl, rfl⟩))
        go_ret
        exact ⟨by rw [HF.out]; rfl, HBB.out, hS1⟩
  · have e1 : ((m : Int) != (nargs 3 word : Int)) = true := by rw [bne_iff_ne]; have : nargs 3 word = 0 := rfl; omega
    have HF := Lib.hid (vR3_h (k := 3) (word := word) (args := args) (count := count) (nb := nb) (V := V) (by rw [← HM.out]; simp [headV, nargs, okCount, hasB, inB, hm]))
    go_enter Tryd.func11, Tryd.ntmps11
    go_wp2_with fail
    rw [← HW.out]
    refine (l17Args_any _ _ _ _ _ _ ⟨_, _, _, rfl⟩ ⟨_, _, _, rfl⟩).mono ?_
    rintro e w1 ⟨rfl, b1, s1⟩
    obtain ⟨p0, p1, p2, p3, p4⟩ := boxcells5 (lay := b1) X0.out
    have hB1 : Below w.heap.size w w1 := B0.out.trans (b1.mono hs0)
    have hS1 : w.heap.size ≤ w1.heap.size := hB1.size
    have HR1 := Lib.hid (HRA.out.below hB1)
    have HBB := Lib.hid hB1
    clear hB1
    go_wp2_with (first | (go_at_call 30; refine (l1In_any _ _ _ _).mono ?_; rintro e w' ⟨rfl, rfl⟩) | (go_at_call 31; refine (l17Words_any _ _ _ args _ (by exact HR1.out) HM.out.symm (by omega) hz).mono ?_; rintro e w' ⟨rfl, rfl⟩))
    go_ret
    exact ⟨by rw [HF.out]; rfl, HBB.out, hS1⟩
set_option maxRecDepth 100000 in
set_option maxHeartbeats 8000000 in
theorem vst_spec_4 (word : ByteArray) (args : List ByteArray) (count : Int) (Aa : Option Addr) (ca : Nat) (Ab : Option Addr) (nb cb : Nat) (w : World) (V : Bool) (hra : Rd w 1 Aa args.length (strs args)) (hz : szS args ≤ 1048576) (hl : args.length ≤ 1048576) (hn : nb ≤ 1048576)
    (hall : ∀ w', Below w.heap.size w w' → Calls Tryd.prog 32 #[.slice Ab nb cb] w' fun e w'' => e = .returned (.bool V) ∧ Below w'.heap.size w' w'' ∧ w'.heap.size ≤ w''.heap.size) :
    Calls Tryd.prog 11 #[.agg #[.int .i64 4, .string word, .slice Aa args.length ca, .int .i64 count, .slice Ab nb cb]] w fun e w' => e = .returned (.bool (vR3 4 word args count nb V)) ∧ Below w.heap.size w w' ∧ w.heap.size ≤ w'.heap.size := by
  obtain ⟨m, hm0⟩ : ∃ m, m = args.length := ⟨_, rfl⟩
  rw [← hm0] at hl hra ⊢
  have HM := Lib.hid hm0
  have HRA := Lib.hid hra
  have HALL := Lib.hid hall
  clear hra hall hm0
  have hB : hasB 4 = true := rfl
  have hIN : inB 4 1 7 = true := rfl
  have HAW : Hid (allW args = args.all wordOk) := Lib.hid rfl
  obtain ⟨w0, hw0⟩ : ∃ w0, w0 = w.alloc (.cells #[.int .i64 4, .string word, .slice Aa m ca, .int .i64 count, .slice Ab nb cb] 27) := ⟨_, rfl⟩
  have X0 := Lib.hid (show w0.heap[w.heap.size]? = some (.cells #[.int .i64 4, .string word, .slice Aa m ca, .int .i64 count, .slice Ab nb cb] 27 (0, 0)) by rw [hw0]; exact boxed1_0 _ _)
  have b0 : Below w.heap.size w w0 := by rw [hw0]; exact (by repeat (first | exact Below.refl _ _ | assumption | (refine Below.trans ?_ (Below.mono (by assumption) (by first | omega | (simp; done) | (simp; omega)))) | (with_reducible refine Below.drew ?_) | (with_reducible refine Below.alloc ?_ (by first | omega | (simp; done) | (simp; omega)) _) | (with_reducible refine Below.setCell ?_ (by first | omega | (simp; done) | (simp; omega)) _)))
  have hs0 : w.heap.size ≤ w0.heap.size := b0.size
  have B0 := Lib.hid b0
  have HW := Lib.hid hw0
  clear b0 hw0
  by_cases hm : m = 1
  · subst hm
    have e1 : ((1 : Int) != (nargs 4 word : Int)) = false := rfl
    cases hwo : args.all wordOk
    · have HWO := Lib.hid hwo
      have hAW := HAW.out.trans hwo
      clear hwo
      have HF := Lib.hid (vR3_w (k := 4) (word := word) (args := args) (count := count) (nb := nb) (V := V) HWO.out)
      go_enter Tryd.func11, Tryd.ntmps11
      go_wp2_with fail
      rw [← HW.out]
      refine (l17Args_any _ _ _ _ _ _ ⟨_, _, _, rfl⟩ ⟨_, _, _, rfl⟩).mono ?_
      rintro e w1 ⟨rfl, b1, s1⟩
      obtain ⟨p0, p1, p2, p3, p4⟩ := boxcells5 (lay := b1) X0.out
      have hB1 : Below w.heap.size w w1 := B0.out.trans (b1.mono hs0)
      have hS1 : w.heap.size ≤ w1.heap.size := hB1.size
      have HR1 := Lib.hid (HRA.out.below hB1)
      have HBB := Lib.hid hB1
      clear hB1
      go_wp2_with (first | (go_at_call 30; refine (l1In_any _ _ _ _).mono ?_; rintro e w' ⟨rfl, rfl⟩) | (go_at_call 31; refine (l17Words_any _ _ _ args _ (by exact HR1.out) HM.out.symm (by omega) hz).mono ?_; rintro e w' ⟨rfl, rfl⟩))
      go_ret
      exact ⟨by rw [HF.out]; rfl, HBB.out, hS1⟩
    · have HWO := Lib.hid hwo
      have hAW := HAW.out.trans hwo
      clear hwo
      by_cases hw : word.toList = []
      · have e2 : word.toList.isEmpty = true := by simp [hw]
        have HWE := Lib.hid hw
        clear hw
        by_cases hc : count = 0
        · subst hc
          have HH := Lib.hid (show headV 4 word args.length 0 nb = true by rw [← HM.out]; simp [headV, nargs, okCount, hasB, inB, HWE.out])
          have HF := Lib.hid (vR3_t (V := V) HH.out HWO.out)
          go_enter Tryd.func11, Tryd.ntmps11
          go_wp2_with fail
          rw [← HW.out]
          refine (l17Args_any _ _ _ _ _ _ ⟨_, _, _, rfl⟩ ⟨_, _, _, rfl⟩).mono ?_
          rintro e w1 ⟨rfl, b1, s1⟩
          obtain ⟨p0, p1, p2, p3, p4⟩ := boxcells5 (lay := b1) X0.out
          have hB1 : Below w.heap.size w w1 := B0.out.trans (b1.mono hs0)
          have hS1 : w.heap.size ≤ w1.heap.size := hB1.size
          have HR1 := Lib.hid (HRA.out.below hB1)
          have HBB := Lib.hid hB1
          clear hB1
          go_wp2_with (first | (go_at_call 30; refine (l1In_any _ _ _ _).mono ?_; rintro e w' ⟨rfl, rfl⟩) | (go_at_call 31; refine (l17Words_any _ _ _ args _ (by exact HR1.out) HM.out.symm (by omega) hz).mono ?_; rintro e w' ⟨rfl, rfl⟩))
          refine (HALL.out _ HBB.out).mono ?_
          rintro e w2 ⟨rfl, b2, s2⟩
          go_wp2_with fail
          go_ret
          exact ⟨by rw [HF.out]; rfl, HBB.out.trans (b2.mono hS1), by omega⟩
        · have e4 : (count != 0) = true := by rw [bne_iff_ne]; exact hc
          have HF := Lib.hid (vR3_h (k := 4) (word := word) (args := args) (count := count) (nb := nb) (V := V) (by rw [← HM.out]; simp [headV, nargs, okCount, hasB, inB, HWE.out, hc]))
          go_enter Tryd.func11, Tryd.ntmps11
          go_wp2_with fail
          rw [← HW.out]
          refine (l17Args_any _ _ _ _ _ _ ⟨_, _, _, rfl⟩ ⟨_, _, _, rfl⟩).mono ?_
          rintro e w1 ⟨rfl, b1, s1⟩
          obtain ⟨p0, p1, p2, p3, p4⟩ := boxcells5 (lay := b1) X0.out
          have hB1 : Below w.heap.size w w1 := B0.out.trans (b1.mono hs0)
          have hS1 : w.heap.size ≤ w1.heap.size := hB1.size
          have HR1 := Lib.hid (HRA.out.below hB1)
          have HBB := Lib.hid hB1
          clear hB1
          go_wp2_with (first | (go_at_call 30; refine (l1In_any _ _ _ _).mono ?_; rintro e w' ⟨rfl, rfl⟩) | (go_at_call 31; refine (l17Words_any _ _ _ args _ (by exact HR1.out) HM.out.symm (by omega) hz).mono ?_; rintro e w' ⟨rfl, rfl⟩))
          go_ret
          exact ⟨by rw [HF.out]; rfl, HBB.out, hS1⟩
      · have e2 : word.toList.isEmpty = false := by rw [List.isEmpty_eq_false_iff]; exact hw
        have HWE := Lib.hid hw
        clear hw
        have HF := Lib.hid (vR3_h (k := 4) (word := word) (args := args) (count := count) (nb := nb) (V := V) (by rw [← HM.out]; simp [headV, nargs, okCount, hasB, inB, HWE.out]))
        go_enter Tryd.func11, Tryd.ntmps11
        go_wp2_with fail
        rw [← HW.out]
        refine (l17Args_any _ _ _ _ _ _ ⟨_, _, _, rfl⟩ ⟨_, _, _, rfl⟩).mono ?_
        rintro e w1 ⟨rfl, b1, s1⟩
        obtain ⟨p0, p1, p2, p3, p4⟩ := boxcells5 (lay := b1) X0.out
        have hB1 : Below w.heap.size w w1 := B0.out.trans (b1.mono hs0)
        have hS1 : w.heap.size ≤ w1.heap.size := hB1.size
        have HR1 := Lib.hid (HRA.out.below hB1)
        have HBB := Lib.hid hB1
        clear hB1
        go_wp2_with (first | (go_at_call 30; refine (l1In_any _ _ _ _).mono ?_; rintro e w' ⟨rfl, rfl⟩) | (go_at_call 31; refine (l17Words_any _ _ _ args _ (by exact HR1.out) HM.out.symm (by omega) hz).mono ?_; rintro e w' ⟨rfl, rfl⟩))
        go_ret
        exact ⟨by rw [HF.out]; rfl, HBB.out, hS1⟩
  · have e1 : ((m : Int) != (nargs 4 word : Int)) = true := by rw [bne_iff_ne]; have : nargs 4 word = 1 := rfl; omega
    have HF := Lib.hid (vR3_h (k := 4) (word := word) (args := args) (count := count) (nb := nb) (V := V) (by rw [← HM.out]; simp [headV, nargs, okCount, hasB, inB, hm]))
    go_enter Tryd.func11, Tryd.ntmps11
    go_wp2_with fail
    rw [← HW.out]
    refine (l17Args_any _ _ _ _ _ _ ⟨_, _, _, rfl⟩ ⟨_, _, _, rfl⟩).mono ?_
    rintro e w1 ⟨rfl, b1, s1⟩
    obtain ⟨p0, p1, p2, p3, p4⟩ := boxcells5 (lay := b1) X0.out
    have hB1 : Below w.heap.size w w1 := B0.out.trans (b1.mono hs0)
    have hS1 : w.heap.size ≤ w1.heap.size := hB1.size
    have HR1 := Lib.hid (HRA.out.below hB1)
    have HBB := Lib.hid hB1
    clear hB1
    go_wp2_with (first | (go_at_call 30; refine (l1In_any _ _ _ _).mono ?_; rintro e w' ⟨rfl, rfl⟩) | (go_at_call 31; refine (l17Words_any _ _ _ args _ (by exact HR1.out) HM.out.symm (by omega) hz).mono ?_; rintro e w' ⟨rfl, rfl⟩))
    go_ret
    exact ⟨by rw [HF.out]; rfl, HBB.out, hS1⟩
set_option maxRecDepth 100000 in
set_option maxHeartbeats 8000000 in
theorem vst_spec_5 (word : ByteArray) (args : List ByteArray) (count : Int) (Aa : Option Addr) (ca : Nat) (Ab : Option Addr) (nb cb : Nat) (w : World) (V : Bool) (hra : Rd w 1 Aa args.length (strs args)) (hz : szS args ≤ 1048576) (hl : args.length ≤ 1048576) (hn : nb ≤ 1048576)
    (hall : ∀ w', Below w.heap.size w w' → Calls Tryd.prog 32 #[.slice Ab nb cb] w' fun e w'' => e = .returned (.bool V) ∧ Below w'.heap.size w' w'' ∧ w'.heap.size ≤ w''.heap.size) :
    Calls Tryd.prog 11 #[.agg #[.int .i64 5, .string word, .slice Aa args.length ca, .int .i64 count, .slice Ab nb cb]] w fun e w' => e = .returned (.bool (vR3 5 word args count nb V)) ∧ Below w.heap.size w w' ∧ w.heap.size ≤ w'.heap.size := by
  obtain ⟨m, hm0⟩ : ∃ m, m = args.length := ⟨_, rfl⟩
  rw [← hm0] at hl hra ⊢
  have HM := Lib.hid hm0
  have HRA := Lib.hid hra
  have HALL := Lib.hid hall
  clear hra hall hm0
  have hB : hasB 5 = true := rfl
  have hIN : inB 5 1 7 = true := rfl
  have HAW : Hid (allW args = args.all wordOk) := Lib.hid rfl
  obtain ⟨w0, hw0⟩ : ∃ w0, w0 = w.alloc (.cells #[.int .i64 5, .string word, .slice Aa m ca, .int .i64 count, .slice Ab nb cb] 27) := ⟨_, rfl⟩
  have X0 := Lib.hid (show w0.heap[w.heap.size]? = some (.cells #[.int .i64 5, .string word, .slice Aa m ca, .int .i64 count, .slice Ab nb cb] 27 (0, 0)) by rw [hw0]; exact boxed1_0 _ _)
  have b0 : Below w.heap.size w w0 := by rw [hw0]; exact (by repeat (first | exact Below.refl _ _ | assumption | (refine Below.trans ?_ (Below.mono (by assumption) (by first | omega | (simp; done) | (simp; omega)))) | (with_reducible refine Below.drew ?_) | (with_reducible refine Below.alloc ?_ (by first | omega | (simp; done) | (simp; omega)) _) | (with_reducible refine Below.setCell ?_ (by first | omega | (simp; done) | (simp; omega)) _)))
  have hs0 : w.heap.size ≤ w0.heap.size := b0.size
  have B0 := Lib.hid b0
  have HW := Lib.hid hw0
  clear b0 hw0
  by_cases hm : m = 1
  · subst hm
    have e1 : ((1 : Int) != (nargs 5 word : Int)) = false := rfl
    cases hwo : args.all wordOk
    · have HWO := Lib.hid hwo
      have hAW := HAW.out.trans hwo
      clear hwo
      have HF := Lib.hid (vR3_w (k := 5) (word := word) (args := args) (count := count) (nb := nb) (V := V) HWO.out)
      go_enter Tryd.func11, Tryd.ntmps11
      go_wp2_with fail
      rw [← HW.out]
      refine (l17Args_any _ _ _ _ _ _ ⟨_, _, _, rfl⟩ ⟨_, _, _, rfl⟩).mono ?_
      rintro e w1 ⟨rfl, b1, s1⟩
      obtain ⟨p0, p1, p2, p3, p4⟩ := boxcells5 (lay := b1) X0.out
      have hB1 : Below w.heap.size w w1 := B0.out.trans (b1.mono hs0)
      have hS1 : w.heap.size ≤ w1.heap.size := hB1.size
      have HR1 := Lib.hid (HRA.out.below hB1)
      have HBB := Lib.hid hB1
      clear hB1
      go_wp2_with (first | (go_at_call 30; refine (l1In_any _ _ _ _).mono ?_; rintro e w' ⟨rfl, rfl⟩) | (go_at_call 31; refine (l17Words_any _ _ _ args _ (by exact HR1.out) HM.out.symm (by omega) hz).mono ?_; rintro e w' ⟨rfl, rfl⟩))
      go_ret
      exact ⟨by rw [HF.out]; rfl, HBB.out, hS1⟩
    · have HWO := Lib.hid hwo
      have hAW := HAW.out.trans hwo
      clear hwo
      by_cases hw : word.toList = []
      · have e2 : word.toList.isEmpty = true := by simp [hw]
        have HWE := Lib.hid hw
        clear hw
        by_cases hc : count = 0
        · subst hc
          have HH := Lib.hid (show headV 5 word args.length 0 nb = true by rw [← HM.out]; simp [headV, nargs, okCount, hasB, inB, HWE.out])
          have HF := Lib.hid (vR3_t (V := V) HH.out HWO.out)
          go_enter Tryd.func11, Tryd.ntmps11
          go_wp2_with fail
          rw [← HW.out]
          refine (l17Args_any _ _ _ _ _ _ ⟨_, _, _, rfl⟩ ⟨_, _, _, rfl⟩).mono ?_
          rintro e w1 ⟨rfl, b1, s1⟩
          obtain ⟨p0, p1, p2, p3, p4⟩ := boxcells5 (lay := b1) X0.out
          have hB1 : Below w.heap.size w w1 := B0.out.trans (b1.mono hs0)
          have hS1 : w.heap.size ≤ w1.heap.size := hB1.size
          have HR1 := Lib.hid (HRA.out.below hB1)
          have HBB := Lib.hid hB1
          clear hB1
          go_wp2_with (first | (go_at_call 30; refine (l1In_any _ _ _ _).mono ?_; rintro e w' ⟨rfl, rfl⟩) | (go_at_call 31; refine (l17Words_any _ _ _ args _ (by exact HR1.out) HM.out.symm (by omega) hz).mono ?_; rintro e w' ⟨rfl, rfl⟩))
          refine (HALL.out _ HBB.out).mono ?_
          rintro e w2 ⟨rfl, b2, s2⟩
          go_wp2_with fail
          go_ret
          exact ⟨by rw [HF.out]; rfl, HBB.out.trans (b2.mono hS1), by omega⟩
        · have e4 : (count != 0) = true := by rw [bne_iff_ne]; exact hc
          have HF := Lib.hid (vR3_h (k := 5) (word := word) (args := args) (count := count) (nb := nb) (V := V) (by rw [← HM.out]; simp [headV, nargs, okCount, hasB, inB, HWE.out, hc]))
          go_enter Tryd.func11, Tryd.ntmps11
          go_wp2_with fail
          rw [← HW.out]
          refine (l17Args_any _ _ _ _ _ _ ⟨_, _, _, rfl⟩ ⟨_, _, _, rfl⟩).mono ?_
          rintro e w1 ⟨rfl, b1, s1⟩
          obtain ⟨p0, p1, p2, p3, p4⟩ := boxcells5 (lay := b1) X0.out
          have hB1 : Below w.heap.size w w1 := B0.out.trans (b1.mono hs0)
          have hS1 : w.heap.size ≤ w1.heap.size := hB1.size
          have HR1 := Lib.hid (HRA.out.below hB1)
          have HBB := Lib.hid hB1
          clear hB1
          go_wp2_with (first | (go_at_call 30; refine (l1In_any _ _ _ _).mono ?_; rintro e w' ⟨rfl, rfl⟩) | (go_at_call 31; refine (l17Words_any _ _ _ args _ (by exact HR1.out) HM.out.symm (by omega) hz).mono ?_; rintro e w' ⟨rfl, rfl⟩))
          go_ret
          exact ⟨by rw [HF.out]; rfl, HBB.out, hS1⟩
      · have e2 : word.toList.isEmpty = false := by rw [List.isEmpty_eq_false_iff]; exact hw
        have HWE := Lib.hid hw
        clear hw
        have HF := Lib.hid (vR3_h (k := 5) (word := word) (args := args) (count := count) (nb := nb) (V := V) (by rw [← HM.out]; simp [headV, nargs, okCount, hasB, inB, HWE.out]))
        go_enter Tryd.func11, Tryd.ntmps11
        go_wp2_with fail
        rw [← HW.out]
        refine (l17Args_any _ _ _ _ _ _ ⟨_, _, _, rfl⟩ ⟨_, _, _, rfl⟩).mono ?_
        rintro e w1 ⟨rfl, b1, s1⟩
        obtain ⟨p0, p1, p2, p3, p4⟩ := boxcells5 (lay := b1) X0.out
        have hB1 : Below w.heap.size w w1 := B0.out.trans (b1.mono hs0)
        have hS1 : w.heap.size ≤ w1.heap.size := hB1.size
        have HR1 := Lib.hid (HRA.out.below hB1)
        have HBB := Lib.hid hB1
        clear hB1
        go_wp2_with (first | (go_at_call 30; refine (l1In_any _ _ _ _).mono ?_; rintro e w' ⟨rfl, rfl⟩) | (go_at_call 31; refine (l17Words_any _ _ _ args _ (by exact HR1.out) HM.out.symm (by omega) hz).mono ?_; rintro e w' ⟨rfl, rfl⟩))
        go_ret
        exact ⟨by rw [HF.out]; rfl, HBB.out, hS1⟩
  · have e1 : ((m : Int) != (nargs 5 word : Int)) = true := by rw [bne_iff_ne]; have : nargs 5 word = 1 := rfl; omega
    have HF := Lib.hid (vR3_h (k := 5) (word := word) (args := args) (count := count) (nb := nb) (V := V) (by rw [← HM.out]; simp [headV, nargs, okCount, hasB, inB, hm]))
    go_enter Tryd.func11, Tryd.ntmps11
    go_wp2_with fail
    rw [← HW.out]
    refine (l17Args_any _ _ _ _ _ _ ⟨_, _, _, rfl⟩ ⟨_, _, _, rfl⟩).mono ?_
    rintro e w1 ⟨rfl, b1, s1⟩
    obtain ⟨p0, p1, p2, p3, p4⟩ := boxcells5 (lay := b1) X0.out
    have hB1 : Below w.heap.size w w1 := B0.out.trans (b1.mono hs0)
    have hS1 : w.heap.size ≤ w1.heap.size := hB1.size
    have HR1 := Lib.hid (HRA.out.below hB1)
    have HBB := Lib.hid hB1
    clear hB1
    go_wp2_with (first | (go_at_call 30; refine (l1In_any _ _ _ _).mono ?_; rintro e w' ⟨rfl, rfl⟩) | (go_at_call 31; refine (l17Words_any _ _ _ args _ (by exact HR1.out) HM.out.symm (by omega) hz).mono ?_; rintro e w' ⟨rfl, rfl⟩))
    go_ret
    exact ⟨by rw [HF.out]; rfl, HBB.out, hS1⟩
set_option maxRecDepth 100000 in
set_option maxHeartbeats 8000000 in
theorem vst_spec_6 (word : ByteArray) (args : List ByteArray) (count : Int) (Aa : Option Addr) (ca : Nat) (Ab : Option Addr) (nb cb : Nat) (w : World) (V : Bool) (hra : Rd w 1 Aa args.length (strs args)) (hz : szS args ≤ 1048576) (hl : args.length ≤ 1048576) (hn : nb ≤ 1048576)
    (hall : ∀ w', Below w.heap.size w w' → Calls Tryd.prog 32 #[.slice Ab nb cb] w' fun e w'' => e = .returned (.bool V) ∧ Below w'.heap.size w' w'' ∧ w'.heap.size ≤ w''.heap.size) :
    Calls Tryd.prog 11 #[.agg #[.int .i64 6, .string word, .slice Aa args.length ca, .int .i64 count, .slice Ab nb cb]] w fun e w' => e = .returned (.bool (vR3 6 word args count nb V)) ∧ Below w.heap.size w w' ∧ w.heap.size ≤ w'.heap.size := by
  obtain ⟨m, hm0⟩ : ∃ m, m = args.length := ⟨_, rfl⟩
  rw [← hm0] at hl hra ⊢
  have HM := Lib.hid hm0
  have HRA := Lib.hid hra
  have HALL := Lib.hid hall
  clear hra hall hm0
  have hB : hasB 6 = false := rfl
  have hIN : inB 6 1 7 = true := rfl
  have HAW : Hid (allW args = args.all wordOk) := Lib.hid rfl
  obtain ⟨w0, hw0⟩ : ∃ w0, w0 = w.alloc (.cells #[.int .i64 6, .string word, .slice Aa m ca, .int .i64 count, .slice Ab nb cb] 27) := ⟨_, rfl⟩
  have X0 := Lib.hid (show w0.heap[w.heap.size]? = some (.cells #[.int .i64 6, .string word, .slice Aa m ca, .int .i64 count, .slice Ab nb cb] 27 (0, 0)) by rw [hw0]; exact boxed1_0 _ _)
  have b0 : Below w.heap.size w w0 := by rw [hw0]; exact (by repeat (first | exact Below.refl _ _ | assumption | (refine Below.trans ?_ (Below.mono (by assumption) (by first | omega | (simp; done) | (simp; omega)))) | (with_reducible refine Below.drew ?_) | (with_reducible refine Below.alloc ?_ (by first | omega | (simp; done) | (simp; omega)) _) | (with_reducible refine Below.setCell ?_ (by first | omega | (simp; done) | (simp; omega)) _)))
  have hs0 : w.heap.size ≤ w0.heap.size := b0.size
  have B0 := Lib.hid b0
  have HW := Lib.hid hw0
  clear b0 hw0
  by_cases hm : m = 2
  · subst hm
    have e1 : ((2 : Int) != (nargs 6 word : Int)) = false := rfl
    cases hwo : args.all wordOk
    · have HWO := Lib.hid hwo
      have hAW := HAW.out.trans hwo
      clear hwo
      have HF := Lib.hid (vR3_w (k := 6) (word := word) (args := args) (count := count) (nb := nb) (V := V) HWO.out)
      go_enter Tryd.func11, Tryd.ntmps11
      go_wp2_with fail
      rw [← HW.out]
      refine (l17Args_any _ _ _ _ _ _ ⟨_, _, _, rfl⟩ ⟨_, _, _, rfl⟩).mono ?_
      rintro e w1 ⟨rfl, b1, s1⟩
      obtain ⟨p0, p1, p2, p3, p4⟩ := boxcells5 (lay := b1) X0.out
      have hB1 : Below w.heap.size w w1 := B0.out.trans (b1.mono hs0)
      have hS1 : w.heap.size ≤ w1.heap.size := hB1.size
      have HR1 := Lib.hid (HRA.out.below hB1)
      have HBB := Lib.hid hB1
      clear hB1
      go_wp2_with (first | (go_at_call 30; refine (l1In_any _ _ _ _).mono ?_; rintro e w' ⟨rfl, rfl⟩) | (go_at_call 31; refine (l17Words_any _ _ _ args _ (by exact HR1.out) HM.out.symm (by omega) hz).mono ?_; rintro e w' ⟨rfl, rfl⟩))
      go_ret
      exact ⟨by rw [HF.out]; rfl, HBB.out, hS1⟩
    · have HWO := Lib.hid hwo
      have hAW := HAW.out.trans hwo
      clear hwo
      by_cases hb : nb = 0
      · have e3 : decide (0 < (nb : Int)) = false := by simp; omega
        have e3n : decide (0 < nb) = false := by simp; omega
        have HNB := Lib.hid hb
        clear hb
        by_cases hw : word.toList = []
        · have e2 : word.toList.isEmpty = true := by simp [hw]
          have HWE := Lib.hid hw
          clear hw
          by_cases hc : count = 0
          · subst hc
            have HH := Lib.hid (show headV 6 word args.length 0 nb = true by rw [← HM.out]; simp [headV, nargs, okCount, hasB, inB, HNB.out, HWE.out])
            have HF := Lib.hid (vR3_t (V := V) HH.out HWO.out)
            go_enter Tryd.func11, Tryd.ntmps11
            go_wp2_with fail
            rw [← HW.out]
            refine (l17Args_any _ _ _ _ _ _ ⟨_, _, _, rfl⟩ ⟨_, _, _, rfl⟩).mono ?_
            rintro e w1 ⟨rfl, b1, s1⟩
            obtain ⟨p0, p1, p2, p3, p4⟩ := boxcells5 (lay := b1) X0.out
            have hB1 : Below w.heap.size w w1 := B0.out.trans (b1.mono hs0)
            have hS1 : w.heap.size ≤ w1.heap.size := hB1.size
            have HR1 := Lib.hid (HRA.out.below hB1)
            have HBB := Lib.hid hB1
            clear hB1
            go_wp2_with (first | (go_at_call 30; refine (l1In_any _ _ _ _).mono ?_; rintro e w' ⟨rfl, rfl⟩) | (go_at_call 31; refine (l17Words_any _ _ _ args _ (by exact HR1.out) HM.out.symm (by omega) hz).mono ?_; rintro e w' ⟨rfl, rfl⟩))
            refine (HALL.out _ HBB.out).mono ?_
            rintro e w2 ⟨rfl, b2, s2⟩
            go_wp2_with fail
            go_ret
            exact ⟨by rw [HF.out]; rfl, HBB.out.trans (b2.mono hS1), by omega⟩
          · have e4 : (count != 0) = true := by rw [bne_iff_ne]; exact hc
            have HF := Lib.hid (vR3_h (k := 6) (word := word) (args := args) (count := count) (nb := nb) (V := V) (by rw [← HM.out]; simp [headV, nargs, okCount, hasB, inB, HNB.out, HWE.out, hc]))
            go_enter Tryd.func11, Tryd.ntmps11
            go_wp2_with fail
            rw [← HW.out]
            refine (l17Args_any _ _ _ _ _ _ ⟨_, _, _, rfl⟩ ⟨_, _, _, rfl⟩).mono ?_
            rintro e w1 ⟨rfl, b1, s1⟩
            obtain ⟨p0, p1, p2, p3, p4⟩ := boxcells5 (lay := b1) X0.out
            have hB1 : Below w.heap.size w w1 := B0.out.trans (b1.mono hs0)
            have hS1 : w.heap.size ≤ w1.heap.size := hB1.size
            have HR1 := Lib.hid (HRA.out.below hB1)
            have HBB := Lib.hid hB1
            clear hB1
            go_wp2_with (first | (go_at_call 30; refine (l1In_any _ _ _ _).mono ?_; rintro e w' ⟨rfl, rfl⟩) | (go_at_call 31; refine (l17Words_any _ _ _ args _ (by exact HR1.out) HM.out.symm (by omega) hz).mono ?_; rintro e w' ⟨rfl, rfl⟩))
            go_ret
            exact ⟨by rw [HF.out]; rfl, HBB.out, hS1⟩
        · have e2 : word.toList.isEmpty = false := by rw [List.isEmpty_eq_false_iff]; exact hw
          have HWE := Lib.hid hw
          clear hw
          have HF := Lib.hid (vR3_h (k := 6) (word := word) (args := args) (count := count) (nb := nb) (V := V) (by rw [← HM.out]; simp [headV, nargs, okCount, hasB, inB, HNB.out, HWE.out]))
          go_enter Tryd.func11, Tryd.ntmps11
          go_wp2_with fail
          rw [← HW.out]
          refine (l17Args_any _ _ _ _ _ _ ⟨_, _, _, rfl⟩ ⟨_, _, _, rfl⟩).mono ?_
          rintro e w1 ⟨rfl, b1, s1⟩
          obtain ⟨p0, p1, p2, p3, p4⟩ := boxcells5 (lay := b1) X0.out
          have hB1 : Below w.heap.size w w1 := B0.out.trans (b1.mono hs0)
          have hS1 : w.heap.size ≤ w1.heap.size := hB1.size
          have HR1 := Lib.hid (HRA.out.below hB1)
          have HBB := Lib.hid hB1
          clear hB1
          go_wp2_with (first | (go_at_call 30; refine (l1In_any _ _ _ _).mono ?_; rintro e w' ⟨rfl, rfl⟩) | (go_at_call 31; refine (l17Words_any _ _ _ args _ (by exact HR1.out) HM.out.symm (by omega) hz).mono ?_; rintro e w' ⟨rfl, rfl⟩))
          go_ret
          exact ⟨by rw [HF.out]; rfl, HBB.out, hS1⟩
      · have e3 : decide (0 < (nb : Int)) = true := by simp; omega
        have e3n : decide (0 < nb) = true := by simp; omega
        have HNB := Lib.hid hb
        clear hb
        have HF := Lib.hid (vR3_h (k := 6) (word := word) (args := args) (count := count) (nb := nb) (V := V) (by rw [← HM.out]; simp [headV, nargs, okCount, hasB, inB, HNB.out]))
        go_enter Tryd.func11, Tryd.ntmps11
        go_wp2_with fail
        rw [← HW.out]
        refine (l17Args_any _ _ _ _ _ _ ⟨_, _, _, rfl⟩ ⟨_, _, _, rfl⟩).mono ?_
        rintro e w1 ⟨rfl, b1, s1⟩
        obtain ⟨p0, p1, p2, p3, p4⟩ := boxcells5 (lay := b1) X0.out
        have hB1 : Below w.heap.size w w1 := B0.out.trans (b1.mono hs0)
        have hS1 : w.heap.size ≤ w1.heap.size := hB1.size
        have HR1 := Lib.hid (HRA.out.below hB1)
        have HBB := Lib.hid hB1
        clear hB1
        go_wp2_with (first | (go_at_call 30; refine (l1In_any _ _ _ _).mono ?_; rintro e w' ⟨rfl, rfl⟩) | (go_at_call 31; refine (l17Words_any _ _ _ args _ (by exact HR1.out) HM.out.symm (by omega) hz).mono ?_; rintro e w' ⟨rfl, rfl⟩))
        go_ret
        exact ⟨by rw [HF.out]; rfl, HBB.out, hS1⟩
  · have e1 : ((m : Int) != (nargs 6 word : Int)) = true := by rw [bne_iff_ne]; have : nargs 6 word = 2 := rfl; omega
    have HF := Lib.hid (vR3_h (k := 6) (word := word) (args := args) (count := count) (nb := nb) (V := V) (by rw [← HM.out]; simp [headV, nargs, okCount, hasB, inB, hm]))
    go_enter Tryd.func11, Tryd.ntmps11
    go_wp2_with fail
    rw [← HW.out]
    refine (l17Args_any _ _ _ _ _ _ ⟨_, _, _, rfl⟩ ⟨_, _, _, rfl⟩).mono ?_
    rintro e w1 ⟨rfl, b1, s1⟩
    obtain ⟨p0, p1, p2, p3, p4⟩ := boxcells5 (lay := b1) X0.out
    have hB1 : Below w.heap.size w w1 := B0.out.trans (b1.mono hs0)
    have hS1 : w.heap.size ≤ w1.heap.size := hB1.size
    have HR1 := Lib.hid (HRA.out.below hB1)
    have HBB := Lib.hid hB1
    clear hB1
    go_wp2_with (first | (go_at_call 30; refine (l1In_any _ _ _ _).mono ?_; rintro e w' ⟨rfl, rfl⟩) | (go_at_call 31; refine (l17Words_any _ _ _ args _ (by exact HR1.out) HM.out.symm (by omega) hz).mono ?_; rintro e w' ⟨rfl, rfl⟩))
    go_ret
    exact ⟨by rw [HF.out]; rfl, HBB.out, hS1⟩
set_option maxRecDepth 100000 in
set_option maxHeartbeats 8000000 in
theorem vst_spec_7 (word : ByteArray) (args : List ByteArray) (count : Int) (Aa : Option Addr) (ca : Nat) (Ab : Option Addr) (nb cb : Nat) (w : World) (V : Bool) (hra : Rd w 1 Aa args.length (strs args)) (hz : szS args ≤ 1048576) (hl : args.length ≤ 1048576) (hn : nb ≤ 1048576)
    (hall : ∀ w', Below w.heap.size w w' → Calls Tryd.prog 32 #[.slice Ab nb cb] w' fun e w'' => e = .returned (.bool V) ∧ Below w'.heap.size w' w'' ∧ w'.heap.size ≤ w''.heap.size) :
    Calls Tryd.prog 11 #[.agg #[.int .i64 7, .string word, .slice Aa args.length ca, .int .i64 count, .slice Ab nb cb]] w fun e w' => e = .returned (.bool (vR3 7 word args count nb V)) ∧ Below w.heap.size w w' ∧ w.heap.size ≤ w'.heap.size := by
  obtain ⟨m, hm0⟩ : ∃ m, m = args.length := ⟨_, rfl⟩
  rw [← hm0] at hl hra ⊢
  have HM := Lib.hid hm0
  have HRA := Lib.hid hra
  have HALL := Lib.hid hall
  clear hra hall hm0
  have hB : hasB 7 = true := rfl
  have hIN : inB 7 1 7 = true := rfl
  have HAW : Hid (allW args = args.all wordOk) := Lib.hid rfl
  obtain ⟨w0, hw0⟩ : ∃ w0, w0 = w.alloc (.cells #[.int .i64 7, .string word, .slice Aa m ca, .int .i64 count, .slice Ab nb cb] 27) := ⟨_, rfl⟩
  have X0 := Lib.hid (show w0.heap[w.heap.size]? = some (.cells #[.int .i64 7, .string word, .slice Aa m ca, .int .i64 count, .slice Ab nb cb] 27 (0, 0)) by rw [hw0]; exact boxed1_0 _ _)
  have b0 : Below w.heap.size w w0 := by rw [hw0]; exact (by repeat (first | exact Below.refl _ _ | assumption | (refine Below.trans ?_ (Below.mono (by assumption) (by first | omega | (simp; done) | (simp; omega)))) | (with_reducible refine Below.drew ?_) | (with_reducible refine Below.alloc ?_ (by first | omega | (simp; done) | (simp; omega)) _) | (with_reducible refine Below.setCell ?_ (by first | omega | (simp; done) | (simp; omega)) _)))
  have hs0 : w.heap.size ≤ w0.heap.size := b0.size
  have B0 := Lib.hid b0
  have HW := Lib.hid hw0
  clear b0 hw0
  by_cases hm : m = 1
  · subst hm
    have e1 : ((1 : Int) != (nargs 7 word : Int)) = false := rfl
    cases hwo : args.all wordOk
    · have HWO := Lib.hid hwo
      have hAW := HAW.out.trans hwo
      clear hwo
      have HF := Lib.hid (vR3_w (k := 7) (word := word) (args := args) (count := count) (nb := nb) (V := V) HWO.out)
      go_enter Tryd.func11, Tryd.ntmps11
      go_wp2_with fail
      rw [← HW.out]
      refine (l17Args_any _ _ _ _ _ _ ⟨_, _, _, rfl⟩ ⟨_, _, _, rfl⟩).mono ?_
      rintro e w1 ⟨rfl, b1, s1⟩
      obtain ⟨p0, p1, p2, p3, p4⟩ := boxcells5 (lay := b1) X0.out
      have hB1 : Below w.heap.size w w1 := B0.out.trans (b1.mono hs0)
      have hS1 : w.heap.size ≤ w1.heap.size := hB1.size
      have HR1 := Lib.hid (HRA.out.below hB1)
      have HBB := Lib.hid hB1
      clear hB1
      go_wp2_with (first | (go_at_call 30; refine (l1In_any _ _ _ _).mono ?_; rintro e w' ⟨rfl, rfl⟩) | (go_at_call 31; refine (l17Words_any _ _ _ args _ (by exact HR1.out) HM.out.symm (by omega) hz).mono ?_; rintro e w' ⟨rfl, rfl⟩))
      go_ret
      exact ⟨by rw [HF.out]; rfl, HBB.out, hS1⟩
    · have HWO := Lib.hid hwo
      have hAW := HAW.out.trans hwo
      clear hwo
      by_cases hw : word.toList = []
      · have e2 : word.toList.isEmpty = true := by simp [hw]
        have HWE := Lib.hid hw
        clear hw
        by_cases hc : count = 0
        · subst hc
          have HH := Lib.hid (show headV 7 word args.length 0 nb = true by rw [← HM.out]; simp [headV, nargs, okCount, hasB, inB, HWE.out])
          have HF := Lib.hid (vR3_t (V := V) HH.out HWO.out)
          go_enter Tryd.func11, Tryd.ntmps11
          go_wp2_with fail
          rw [← HW.out]
          refine (l17Args_any _ _ _ _ _ _ ⟨_, _, _, rfl⟩ ⟨_, _, _, rfl⟩).mono ?_
          rintro e w1 ⟨rfl, b1, s1⟩
          obtain ⟨p0, p1, p2, p3, p4⟩ := boxcells5 (lay := b1) X0.out
          have hB1 : Below w.heap.size w w1 := B0.out.trans (b1.mono hs0)
          have hS1 : w.heap.size ≤ w1.heap.size := hB1.size
          have HR1 := Lib.hid (HRA.out.below hB1)
          have HBB := Lib.hid hB1
          clear hB1
          go_wp2_with (first | (go_at_call 30; refine (l1In_any _ _ _ _).mono ?_; rintro e w' ⟨rfl, rfl⟩) | (go_at_call 31; refine (l17Words_any _ _ _ args _ (by exact HR1.out) HM.out.symm (by omega) hz).mono ?_; rintro e w' ⟨rfl, rfl⟩))
          refine (HALL.out _ HBB.out).mono ?_
          rintro e w2 ⟨rfl, b2, s2⟩
          go_wp2_with fail
          go_ret
          exact ⟨by rw [HF.out]; rfl, HBB.out.trans (b2.mono hS1), by omega⟩
        · have e4 : (count != 0) = true := by rw [bne_iff_ne]; exact hc
          have HF := Lib.hid (vR3_h (k := 7) (word := word) (args := args) (count := count) (nb := nb) (V := V) (by rw [← HM.out]; simp [headV, nargs, okCount, hasB, inB, HWE.out, hc]))
          go_enter Tryd.func11, Tryd.ntmps11
          go_wp2_with fail
          rw [← HW.out]
          refine (l17Args_any _ _ _ _ _ _ ⟨_, _, _, rfl⟩ ⟨_, _, _, rfl⟩).mono ?_
          rintro e w1 ⟨rfl, b1, s1⟩
          obtain ⟨p0, p1, p2, p3, p4⟩ := boxcells5 (lay := b1) X0.out
          have hB1 : Below w.heap.size w w1 := B0.out.trans (b1.mono hs0)
          have hS1 : w.heap.size ≤ w1.heap.size := hB1.size
          have HR1 := Lib.hid (HRA.out.below hB1)
          have HBB := Lib.hid hB1
          clear hB1
          go_wp2_with (first | (go_at_call 30; refine (l1In_any _ _ _ _).mono ?_; rintro e w' ⟨rfl, rfl⟩) | (go_at_call 31; refine (l17Words_any _ _ _ args _ (by exact HR1.out) HM.out.symm (by omega) hz).mono ?_; rintro e w' ⟨rfl, rfl⟩))
          go_ret
          exact ⟨by rw [HF.out]; rfl, HBB.out, hS1⟩
      · have e2 : word.toList.isEmpty = false := by rw [List.isEmpty_eq_false_iff]; exact hw
        have HWE := Lib.hid hw
        clear hw
        have HF := Lib.hid (vR3_h (k := 7) (word := word) (args := args) (count := count) (nb := nb) (V := V) (by rw [← HM.out]; simp [headV, nargs, okCount, hasB, inB, HWE.out]))
        go_enter Tryd.func11, Tryd.ntmps11
        go_wp2_with fail
        rw [← HW.out]
        refine (l17Args_any _ _ _ _ _ _ ⟨_, _, _, rfl⟩ ⟨_, _, _, rfl⟩).mono ?_
        rintro e w1 ⟨rfl, b1, s1⟩
        obtain ⟨p0, p1, p2, p3, p4⟩ := boxcells5 (lay := b1) X0.out
        have hB1 : Below w.heap.size w w1 := B0.out.trans (b1.mono hs0)
        have hS1 : w.heap.size ≤ w1.heap.size := hB1.size
        have HR1 := Lib.hid (HRA.out.below hB1)
        have HBB := Lib.hid hB1
        clear hB1
        go_wp2_with (first | (go_at_call 30; refine (l1In_any _ _ _ _).mono ?_; rintro e w' ⟨rfl, rfl⟩) | (go_at_call 31; refine (l17Words_any _ _ _ args _ (by exact HR1.out) HM.out.symm (by omega) hz).mono ?_; rintro e w' ⟨rfl, rfl⟩))
        go_ret
        exact ⟨by rw [HF.out]; rfl, HBB.out, hS1⟩
  · have e1 : ((m : Int) != (nargs 7 word : Int)) = true := by rw [bne_iff_ne]; have : nargs 7 word = 1 := rfl; omega
    have HF := Lib.hid (vR3_h (k := 7) (word := word) (args := args) (count := count) (nb := nb) (V := V) (by rw [← HM.out]; simp [headV, nargs, okCount, hasB, inB, hm]))
    go_enter Tryd.func11, Tryd.ntmps11
    go_wp2_with fail
    rw [← HW.out]
    refine (l17Args_any _ _ _ _ _ _ ⟨_, _, _, rfl⟩ ⟨_, _, _, rfl⟩).mono ?_
    rintro e w1 ⟨rfl, b1, s1⟩
    obtain ⟨p0, p1, p2, p3, p4⟩ := boxcells5 (lay := b1) X0.out
    have hB1 : Below w.heap.size w w1 := B0.out.trans (b1.mono hs0)
    have hS1 : w.heap.size ≤ w1.heap.size := hB1.size
    have HR1 := Lib.hid (HRA.out.below hB1)
    have HBB := Lib.hid hB1
    clear hB1
    go_wp2_with (first | (go_at_call 30; refine (l1In_any _ _ _ _).mono ?_; rintro e w' ⟨rfl, rfl⟩) | (go_at_call 31; refine (l17Words_any _ _ _ args _ (by exact HR1.out) HM.out.symm (by omega) hz).mono ?_; rintro e w' ⟨rfl, rfl⟩))
    go_ret
    exact ⟨by rw [HF.out]; rfl, HBB.out, hS1⟩
end Go.Proofs.YtbamjfbfipkioaaDoor
