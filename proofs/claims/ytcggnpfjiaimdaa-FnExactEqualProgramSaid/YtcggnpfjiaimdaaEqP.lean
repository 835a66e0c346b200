/- Comparing two programs: the program's function and the reference's answer whether they are equal. -/
import Derived.Test.YtcggnpfjiaimdaaPgm
import Derived.Test.YtcggnpfjiaimdaaEqTI
import Derived.Test.YtcggnpfjiaimdaaEqTS
namespace Go.Proofs.Ytcggnpfjiaimdaa
open Go.RowKit
set_option linter.unusedVariables false
def eqPg {d : Nat} (qs qs' : List ByteArray) (l l' : List (Tr d)) : Bool := eqBy eqSt qs qs' && eqTs d l l'
set_option maxRecDepth 100000 in
set_option maxHeartbeats 2000000 in
theorem EqualProgram_impl (d lo lo' : Nat) (m nb m' nb' : Nat) (qs qs' : List ByteArray) (l l' : List (Tr d)) (Aq : Option Addr) (cq : Nat) (Ab : Option Addr) (cb : Nat) (Aq' : Option Addr) (cq' : Nat) (Ab' : Option Addr) (cb' : Nat) (w : World)
    (hra : Rd w 1 Aq m (strs qs)) (hrb : RdT w lo d Ab nb l) (hra' : Rd w 1 Aq' m' (strs qs')) (hrb' : RdT w lo' d Ab' nb' l') (hm : qs.length = m) (hm' : qs'.length = m') (h1 : m ≤ 1048576) (h2 : szT d l ≤ 1048576) (h2' : szT d l' ≤ 1048576) :
    Calls Try.prog 23 #[.agg #[.slice Aq m cq, .slice Ab nb cb], .agg #[.slice Aq' m' cq', .slice Ab' nb' cb']] w fun e w' =>
      e = .returned (.bool (eqPg qs qs' l l')) ∧ Below w.heap.size w w' ∧ w.heap.size ≤ w'.heap.size := by
  have HM := Lib.hid hm
  have HM' := Lib.hid hm'
  have HA := Lib.hid hra
  have HB := Lib.hid hrb
  have HA' := Lib.hid hra'
  have HB' := Lib.hid hrb'
  clear hm hm' hra hrb hra' hrb'
  go_enter Try.func23, Try.ntmps23
  go_wp2_with fail
  obtain ⟨w0, hw0⟩ : ∃ w0, w0 = (w.alloc (.cells #[.slice Aq m cq, .slice Ab nb cb] 36)).alloc (.cells #[.slice Aq' m' cq', .slice Ab' nb' cb'] 36) := ⟨_, rfl⟩
  rw [← hw0]
  have X0 := Lib.hid (show w0.heap[w.heap.size]? = some (.cells #[.slice Aq m cq, .slice Ab nb cb] 36 (0, 0)) by rw [hw0]; exact boxed2_0 _ _ _)
  have X1 := Lib.hid (show w0.heap[w.heap.size + 1]? = some (.cells #[.slice Aq' m' cq', .slice Ab' nb' cb'] 36 (0, 0)) by rw [hw0]; exact boxed2_1 _ _ _)
  have b0 : Below w.heap.size w w0 := by rw [hw0]; exact (by repeat (first | exact Below.refl _ _ | assumption | (refine Below.trans ?_ (Below.mono (by assumption) (by first | omega | (simp; done) | (simp; omega)))) | (with_reducible refine Below.drew ?_) | (with_reducible refine Below.alloc ?_ (by first | omega | (simp; done) | (simp; omega)) _) | (with_reducible refine Below.setCell ?_ (by first | omega | (simp; done) | (simp; omega)) _)))
  have s0 : w.heap.size ≤ w0.heap.size := b0.size
  clear hw0
  refine (sameStr_any _ _ _ _ _ _ qs qs' _ HM.out HM'.out (by omega) (HA.out.below b0) (HA'.out.below b0)).mono ?_
  rintro e w1 ⟨rfl, hq1⟩
  obtain ⟨b1, s1⟩ := below_quiet hq1
  clear hq1
  obtain ⟨_, p4⟩ := boxcells2 (lay := b1) X0.out
  obtain ⟨_, q4⟩ := boxcells2 (lay := b1) X1.out
  have b01 : Below w.heap.size w w1 := b0.trans (b1.mono s0)
  cases hs : eqBy eqSt qs qs'
  · have HF : Hid (eqPg qs qs' l l' = false) := Lib.hid (by simp [eqPg, hs])
    clear hs
    go_wp2_with fail
    go_ret
    exact ⟨by rw [HF.out]; rfl, b01, by omega⟩
  · have HF : Hid (eqPg qs qs' l l' = eqTs d l l') := Lib.hid (by simp [eqPg, hs])
    clear hs
    go_wp2_with fail
    refine (EqualStmts_impl d lo lo' _ _ _ _ _ _ l l' _ (HB.out.below b01) (HB'.out.below b01) h2 h2').mono ?_
    rintro e w2 ⟨rfl, b2, s2⟩
    go_wp2_with fail
    go_ret
    exact ⟨by rw [HF.out]; rfl, b01.trans (b2.mono (by omega)), by omega⟩
set_option maxRecDepth 100000 in
set_option maxHeartbeats 2000000 in
theorem EqualProgram_spec (d lo lo' : Nat) (m nb m' nb' : Nat) (qs qs' : List ByteArray) (l l' : List (Tr d)) (Aq : Option Addr) (cq : Nat) (Ab : Option Addr) (cb : Nat) (Aq' : Option Addr) (cq' : Nat) (Ab' : Option Addr) (cb' : Nat) (w : World)
    (hra : Rd w 1 Aq m (strs qs)) (hrb : RdT w lo d Ab nb l) (hra' : Rd w 1 Aq' m' (strs qs')) (hrb' : RdT w lo' d Ab' nb' l') (hm : qs.length = m) (hm' : qs'.length = m') (h1 : m ≤ 1048576) (h2 : szT d l ≤ 1048576) (h2' : szT d l' ≤ 1048576) :
    Calls Try.prog 21 #[.agg #[.slice Aq m cq, .slice Ab nb cb], .agg #[.slice Aq' m' cq', .slice Ab' nb' cb']] w fun e w' =>
      e = .returned (.bool (eqPg qs qs' l l')) ∧ Below w.heap.size w w' ∧ w.heap.size ≤ w'.heap.size := by
  have HM := Lib.hid hm
  have HM' := Lib.hid hm'
  have HA := Lib.hid hra
  have HB := Lib.hid hrb
  have HA' := Lib.hid hra'
  have HB' := Lib.hid hrb'
  clear hm hm' hra hrb hra' hrb'
  go_enter Try.func21, Try.ntmps21
  go_wp2_with fail
  obtain ⟨w0, hw0⟩ : ∃ w0, w0 = (w.alloc (.cells #[.slice Aq m cq, .slice Ab nb cb] 36)).alloc (.cells #[.slice Aq' m' cq', .slice Ab' nb' cb'] 36) := ⟨_, rfl⟩
  rw [← hw0]
  have X0 := Lib.hid (show w0.heap[w.heap.size]? = some (.cells #[.slice Aq m cq, .slice Ab nb cb] 36 (0, 0)) by rw [hw0]; exact boxed2_0 _ _ _)
  have X1 := Lib.hid (show w0.heap[w.heap.size + 1]? = some (.cells #[.slice Aq' m' cq', .slice Ab' nb' cb'] 36 (0, 0)) by rw [hw0]; exact boxed2_1 _ _ _)
  have b0 : Below w.heap.size w w0 := by rw [hw0]; exact (by repeat (first | exact Below.refl _ _ | assumption | (refine Below.trans ?_ (Below.mono (by assumption) (by first | omega | (simp; done) | (simp; omega)))) | (with_reducible refine Below.drew ?_) | (with_reducible refine Below.alloc ?_ (by first | omega | (simp; done) | (simp; omega)) _) | (with_reducible refine Below.setCell ?_ (by first | omega | (simp; done) | (simp; omega)) _)))
  have s0 : w.heap.size ≤ w0.heap.size := b0.size
  clear hw0
  refine (l17Texts_any _ _ _ _ _ _ qs qs' _ HM.out HM'.out (by omega) (HA.out.below b0) (HA'.out.below b0)).mono ?_
  rintro e w1 ⟨rfl, hq1⟩
  obtain ⟨b1, s1⟩ := below_quiet hq1
  clear hq1
  obtain ⟨_, p4⟩ := boxcells2 (lay := b1) X0.out
  obtain ⟨_, q4⟩ := boxcells2 (lay := b1) X1.out
  have b01 : Below w.heap.size w w1 := b0.trans (b1.mono s0)
  cases hs : eqBy eqSt qs qs'
  · have HF : Hid (eqPg qs qs' l l' = false) := Lib.hid (by simp [eqPg, hs])
    clear hs
    go_wp2_with fail
    go_ret
    exact ⟨by rw [HF.out]; rfl, b01, by omega⟩
  · have HF : Hid (eqPg qs qs' l l' = eqTs d l l') := Lib.hid (by simp [eqPg, hs])
    clear hs
    go_wp2_with fail
    refine (EqualStmts_spec d lo lo' _ _ _ _ _ _ l l' _ (HB.out.below b01) (HB'.out.below b01) h2 h2').mono ?_
    rintro e w2 ⟨rfl, hq2⟩
    obtain ⟨b2, s2⟩ := below_quiet hq2
    clear hq2
    go_wp2_with fail
    go_ret
    exact ⟨by rw [HF.out]; rfl, b01.trans (b2.mono (by omega)), by omega⟩
end Go.Proofs.Ytcggnpfjiaimdaa
