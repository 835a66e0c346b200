/- The program's EqualProgram returns what the reference's returns, for every two programs. -/
import Derived.Test.YtcggnpfjiaimdaaFrame
import Derived.Test.YtcggnpfjiaimdaaEqP
import Derived.Test.YtcggnpfjiaimdaaExp
namespace Go.Proofs.Ytcggnpfjiaimdaa
open Go.ChangeShapes Go.WideShapes Go.ChangeAt Go.RowKit
set_option linter.unusedVariables false
set_option maxRecDepth 100000 in
set_option maxHeartbeats 4000000 in
theorem law_EqualProgram (d : Nat) (m nb m' nb' : Nat) (qs qs' : List ByteArray) (l l' : List (Tr d)) (Aq : Option Addr) (cq : Nat) (Ab : Option Addr) (cb : Nat) (Aq' : Option Addr) (cq' : Nat) (Ab' : Option Addr) (cb' : Nat) (w : World)
    (hra : Rd w 1 Aq m (strs qs)) (hrb : RdT w 0 d Ab nb l) (hra' : Rd w 1 Aq' m' (strs qs')) (hrb' : RdT w 0 d Ab' nb' l') (hm : qs.length = m) (hm' : qs'.length = m') (hml : m ≤ 9223372036854775807) (hml' : m' ≤ 9223372036854775807)
    (hqz : ∀ a ∈ qs, a.size ≤ 9223372036854775807) (hqz' : ∀ a ∈ qs', a.size ≤ 9223372036854775807) (hok : OkT d l) (hok' : OkT d l') :
    Calls Try.prog 7 #[.agg #[.slice Aq m cq, .slice Ab nb cb], .agg #[.slice Aq' m' cq', .slice Ab' nb' cb']] w fun e w' => e = .returned (.bool true) ∧ Below w.heap.size w w' := by
  have HQZ := Lib.hid hqz
  have HQZ' := Lib.hid hqz'
  have HMM := Lib.hid hm
  have HMM' := Lib.hid hm'
  have HRA := Lib.hid hra
  have HRB := Lib.hid hrb
  have HRA' := Lib.hid hra'
  have HRB' := Lib.hid hrb'
  clear hqz hqz' hm hm' hra hrb hra' hrb'
  by_cases hbig : subSz 1048576 (m + szS qs + szT d l) < 0
  · go_enter Try.func7, Try.ntmps7
    go_wp2_with fail
    obtain ⟨w0, hw0⟩ : ∃ w0, w0 = (World.alloc (World.alloc w (.cells #[.slice Aq m cq, .slice Ab nb cb] 32)) (.cells #[.slice Aq' m' cq', .slice Ab' nb' cb'] 32)) := ⟨_, rfl⟩
    rw [← hw0]
    have b0 : Below w.heap.size w w0 := by rw [hw0]; exact (by repeat (first | exact Below.refl _ _ | assumption | (refine Below.trans ?_ (Below.mono (by assumption) (by first | omega | (simp; done) | (simp; omega)))) | (with_reducible refine Below.drew ?_) | (with_reducible refine Below.alloc ?_ (by first | omega | (simp; done) | (simp; omega)) _) | (with_reducible refine Below.setCell ?_ (by first | omega | (simp; done) | (simp; omega)) _)))
    have s0 : w.heap.size + 2 = w0.heap.size := by rw [hw0]; simp
    have X0 := Lib.hid (show w0.heap[w.heap.size]? = some (.cells #[.slice Aq m cq, .slice Ab nb cb] 32 (0, 0)) by rw [hw0]; exact boxed2_0 _ _ _)
    have X1 := Lib.hid (show w0.heap[w.heap.size + 1]? = some (.cells #[.slice Aq' m' cq', .slice Ab' nb' cb'] 32 (0, 0)) by rw [hw0]; exact boxed2_1 _ _ _)
    have S0 : w.heap.size ≤ w0.heap.size := by omega
    clear hw0
    have rAq := HRA.out.below b0
    have rAb := HRB.out.below b0
    have rBq := HRA'.out.below b0
    have rBb := HRB'.out.below b0
    refine (szProgram_any d _ _ _ _ qs l _ _ _ _ _ (rAq.below (Below.refl _ _)) (rAb.below (Below.refl _ _)) HMM.out hml HQZ.out hok (by omega) (by omega)).mono ?_
    rintro e w1 ⟨rfl, b1, s1⟩
    go_wp2_with fail
    go_ret
    exact ⟨rfl, (b0.trans (b1.mono (by omega)))⟩
  have hn0 := subSz_le hbig
  have h1 := subSz_ge hbig
  have hn : szT d l ≤ 1048576 := by omega
  have hmn : m ≤ 1048576 := by omega
  have h2 : subSz 1048576 (m + szS qs + szT d l) ≤ 1099511627776 := by unfold subSz; split <;> omega
  by_cases hbig2 : subSz (subSz 1048576 (m + szS qs + szT d l)) (m' + szS qs' + szT d l') < 0
  · go_enter Try.func7, Try.ntmps7
    go_wp2_with fail
    obtain ⟨w0, hw0⟩ : ∃ w0, w0 = (World.alloc (World.alloc w (.cells #[.slice Aq m cq, .slice Ab nb cb] 32)) (.cells #[.slice Aq' m' cq', .slice Ab' nb' cb'] 32)) := ⟨_, rfl⟩
    rw [← hw0]
    have b0 : Below w.heap.size w w0 := by rw [hw0]; exact (by repeat (first | exact Below.refl _ _ | assumption | (refine Below.trans ?_ (Below.mono (by assumption) (by first | omega | (simp; done) | (simp; omega)))) | (with_reducible refine Below.drew ?_) | (with_reducible refine Below.alloc ?_ (by first | omega | (simp; done) | (simp; omega)) _) | (with_reducible refine Below.setCell ?_ (by first | omega | (simp; done) | (simp; omega)) _)))
    have s0 : w.heap.size + 2 = w0.heap.size := by rw [hw0]; simp
    have X0 := Lib.hid (show w0.heap[w.heap.size]? = some (.cells #[.slice Aq m cq, .slice Ab nb cb] 32 (0, 0)) by rw [hw0]; exact boxed2_0 _ _ _)
    have X1 := Lib.hid (show w0.heap[w.heap.size + 1]? = some (.cells #[.slice Aq' m' cq', .slice Ab' nb' cb'] 32 (0, 0)) by rw [hw0]; exact boxed2_1 _ _ _)
    have S0 : w.heap.size ≤ w0.heap.size := by omega
    clear hw0
    have rAq := HRA.out.below b0
    have rAb := HRB.out.below b0
    have rBq := HRA'.out.below b0
    have rBb := HRB'.out.below b0
    refine (szProgram_any d _ _ _ _ qs l _ _ _ _ _ (rAq.below (Below.refl _ _)) (rAb.below (Below.refl _ _)) HMM.out hml HQZ.out hok (by omega) (by omega)).mono ?_
    rintro e w1 ⟨rfl, b1, s1⟩
    obtain ⟨bx1_0, bx1_1⟩ := boxcells2 (lay := (b1.mono (by omega))) X1.out
    have lt1 : w.heap.size + 1 < w1.heap.size := by omega
    go_wp2_with fail
    clear bx1_0 bx1_1 lt1
    refine (szProgram_any d _ _ _ _ qs' l' _ _ _ _ _ (rBq.below (b1.mono (by omega))) (rBb.below (b1.mono (by omega))) HMM'.out hml' HQZ'.out hok' (by omega) (by omega)).mono ?_
    rintro e w2 ⟨rfl, b2, s2⟩
    go_wp2_with fail
    go_ret
    exact ⟨rfl, ((b0.trans (b1.mono (by omega))).trans (b2.mono (by omega)))⟩
  have hx : (m' + szS qs' + szT d l') ≤ 1048576 := by
    have e := hbig2
    unfold subSz at e
    split at e <;> (try split at e) <;> omega
  have hn' : szT d l' ≤ 1048576 := by omega
  have hmn' : m' ≤ 1048576 := by omega
  have h1' : 0 ≤ subSz (subSz 1048576 (m + szS qs + szT d l)) (m' + szS qs' + szT d l') := by omega
  go_enter Try.func7, Try.ntmps7
  go_wp2_with fail
  obtain ⟨w0, hw0⟩ : ∃ w0, w0 = (World.alloc (World.alloc w (.cells #[.slice Aq m cq, .slice Ab nb cb] 32)) (.cells #[.slice Aq' m' cq', .slice Ab' nb' cb'] 32)) := ⟨_, rfl⟩
  rw [← hw0]
  have b0 : Below w.heap.size w w0 := by rw [hw0]; exact (by repeat (first | exact Below.refl _ _ | assumption | (refine Below.trans ?_ (Below.mono (by assumption) (by first | omega | (simp; done) | (simp; omega)))) | (with_reducible refine Below.drew ?_) | (with_reducible refine Below.alloc ?_ (by first | omega | (simp; done) | (simp; omega)) _) | (with_reducible refine Below.setCell ?_ (by first | omega | (simp; done) | (simp; omega)) _)))
  have s0 : w.heap.size + 2 = w0.heap.size := by rw [hw0]; simp
  have X0 := Lib.hid (show w0.heap[w.heap.size]? = some (.cells #[.slice Aq m cq, .slice Ab nb cb] 32 (0, 0)) by rw [hw0]; exact boxed2_0 _ _ _)
  have X1 := Lib.hid (show w0.heap[w.heap.size + 1]? = some (.cells #[.slice Aq' m' cq', .slice Ab' nb' cb'] 32 (0, 0)) by rw [hw0]; exact boxed2_1 _ _ _)
  have S0 : w.heap.size ≤ w0.heap.size := by omega
  clear hw0
  have rAq := HRA.out.below b0
  have rAb := HRB.out.below b0
  have rBq := HRA'.out.below b0
  have rBb := HRB'.out.below b0
  refine (szProgram_any d _ _ _ _ qs l _ _ _ _ _ (rAq.below (Below.refl _ _)) (rAb.below (Below.refl _ _)) HMM.out hml HQZ.out hok (by omega) (by omega)).mono ?_
  rintro e w1 ⟨rfl, b1, s1⟩
  obtain ⟨bx2_0, bx2_1⟩ := boxcells2 (lay := (b1.mono (by omega))) X1.out
  have lt2 : w.heap.size + 1 < w1.heap.size := by omega
  go_wp2_with fail
  clear bx2_0 bx2_1 lt2
  refine (szProgram_any d _ _ _ _ qs' l' _ _ _ _ _ (rBq.below (b1.mono (by omega))) (rBb.below (b1.mono (by omega))) HMM'.out hml' HQZ'.out hok' (by omega) (by omega)).mono ?_
  rintro e w2 ⟨rfl, b2, s2⟩
  obtain ⟨bx3_0, bx3_1⟩ := boxcells2 (lay := ((b1.mono (by omega)).trans (b2.mono (by omega)))) X0.out
  have lt3 : w.heap.size < w2.heap.size := by omega
  obtain ⟨bx4_0, bx4_1⟩ := boxcells2 (lay := ((b1.mono (by omega)).trans (b2.mono (by omega)))) X1.out
  have lt4 : w.heap.size + 1 < w2.heap.size := by omega
  go_wp2_with fail
  clear bx3_0 bx3_1 lt3 bx4_0 bx4_1 lt4
  obtain ⟨g1_0_0_0, g1_0_0_1⟩ := boxcells2 (lay := ((b1.mono (by omega)).trans (b2.mono (by omega)))) X0.out
  obtain ⟨g1_0_1_0, g1_0_1_1⟩ := boxcells2 (lay := ((b1.mono (by omega)).trans (b2.mono (by omega)))) X1.out
  have lvg1_0 : Below w0.heap.size w0 w2 := ((b1.mono (by omega)).trans (b2.mono (by omega)))
  have zvg1_0 : w0.heap.size ≤ w2.heap.size := by omega
  have lvg1_1 : Below w0.heap.size w0 w2 := ((b1.mono (by omega)).trans (b2.mono (by omega)))
  have zvg1_1 : w0.heap.size ≤ w2.heap.size := by omega
  go_region_held3 (fun W => W.cell? ⟨w.heap.size, 0, none⟩ = some (.slice Aq m cq) ∧ W.cell? ⟨w.heap.size, 1, none⟩ = some (.slice Ab nb cb) ∧ W.cell? ⟨w.heap.size + 1, 0, none⟩ = some (.slice Aq' m' cq') ∧ W.cell? ⟨w.heap.size + 1, 1, none⟩ = some (.slice Ab' nb' cb')) (first | exact ⟨g1_0_0_0, g1_0_0_1, g1_0_1_0, g1_0_1_1⟩ | exact ⟨g1_1_0_0, g1_1_0_1, g1_1_1_0, g1_1_1_1⟩ | exact ⟨g1_2_0_0, g1_2_0_1, g1_2_1_0, g1_2_1_1⟩ | exact ⟨g1_3_0_0, g1_3_0_1, g1_3_1_0, g1_3_1_1⟩) (first | (go_at_call 22; (with_reducible refine (toProgram_any d _ _ _ _ qs l _ _ _ _ (rAq.below ((b1.mono (by omega)).trans (b2.mono (by omega)))).drew (rAb.below ((b1.mono (by omega)).trans (b2.mono (by omega)))).drew HMM.out hmn hn).mono ?_); rintro e w3 ⟨Aqt, cqt, Abt, cbt, rfl, rqt, rtb, bdg1, sdg1⟩; have b3 := below_undrew bdg1; have s3 := b3.size; have rtq := rqt.rd; obtain ⟨g1_1_0_0, g1_1_0_1⟩ := boxcells2 (lay := (lvg1_0.trans (b3.mono zvg1_0))) X0.out; obtain ⟨g1_1_1_0, g1_1_1_1⟩ := boxcells2 (lay := (lvg1_1.trans (b3.mono zvg1_1))) X1.out) | (go_at_call 22; (with_reducible refine (toProgram_any d _ _ _ _ qs' l' _ _ _ _ (rBq.below (((b1.mono (by omega)).trans (b2.mono (by omega))).trans (b3.mono (by omega)))) (rBb.below (((b1.mono (by omega)).trans (b2.mono (by omega))).trans (b3.mono (by omega)))) HMM'.out hmn' hn').mono ?_); rintro e w4 ⟨Aqu, cqu, Abu, cbu, rfl, rqu, rub, b4, s4⟩; have ruq := rqu.rd; obtain ⟨g1_2_0_0, g1_2_0_1⟩ := boxcells2 (lay := (lvg1_0.trans ((b3.mono zvg1_0).trans (b4.mono (by omega))))) X0.out; obtain ⟨g1_2_1_0, g1_2_1_1⟩ := boxcells2 (lay := (lvg1_1.trans ((b3.mono zvg1_1).trans (b4.mono (by omega))))) X1.out) | (go_at_call 21; (with_reducible refine (EqualProgram_spec d _ _ _ _ _ _ qs qs' l l' _ _ _ _ _ _ _ _ _ (rtq.below (b4.mono (by omega))) (rtb.below (b4.mono (by omega))) (ruq.below (Below.refl _ _)) (rub.below (Below.refl _ _)) HMM.out HMM'.out hmn hn hn').mono ?_); rintro e w5 ⟨rfl, b5, s5⟩; obtain ⟨g1_3_0_0, g1_3_0_1⟩ := boxcells2 (lay := (lvg1_0.trans (((b3.mono zvg1_0).trans (b4.mono (by omega))).trans (b5.mono (by omega))))) X0.out; obtain ⟨g1_3_1_0, g1_3_1_1⟩ := boxcells2 (lay := (lvg1_1.trans (((b3.mono zvg1_1).trans (b4.mono (by omega))).trans (b5.mono (by omega))))) X1.out))
  clear g1_0_0_0 g1_0_0_1 g1_0_1_0 g1_0_1_1 g1_1_0_0 g1_1_0_1 g1_1_1_0 g1_1_1_1 g1_2_0_0 g1_2_0_1 g1_2_1_0 g1_2_1_1 g1_3_0_0 g1_3_0_1 g1_3_1_0 g1_3_1_1
  go_wp2_with fail
  refine (toProgram_any d _ _ _ _ qs l _ _ _ _ (rAq.below (((((b1.mono (by omega)).trans (b2.mono (by omega))).trans (b3.mono (by omega))).trans (b4.mono (by omega))).trans (b5.mono (by omega)))) (rAb.below (((((b1.mono (by omega)).trans (b2.mono (by omega))).trans (b3.mono (by omega))).trans (b4.mono (by omega))).trans (b5.mono (by omega)))) HMM.out hmn hn).mono ?_
  rintro e w6 ⟨Aqx, cqx, Abx, cbx, rfl, rqx, rxb, b6, s6⟩
  have rxq := rqx.rd
  obtain ⟨bx5_0, bx5_1⟩ := boxcells2 (lay := ((((((b1.mono (by omega)).trans (b2.mono (by omega))).trans (b3.mono (by omega))).trans (b4.mono (by omega))).trans (b5.mono (by omega))).trans (b6.mono (by omega)))) X1.out
  have lt5 : w.heap.size + 1 < w6.heap.size := by omega
  go_wp2_with fail
  clear bx5_0 bx5_1 lt5
  obtain ⟨w7, hw7⟩ : ∃ w7, w7 = w6.alloc (.cells #[.slice Aqx m cqx, .slice Abx nb cbx] 36) := ⟨_, rfl⟩
  rw [← hw7]
  have b7 : Below w6.heap.size w6 w7 := by rw [hw7]; exact (by repeat (first | exact Below.refl _ _ | assumption | (refine Below.trans ?_ (Below.mono (by assumption) (by first | omega | (simp; done) | (simp; omega)))) | (with_reducible refine Below.drew ?_) | (with_reducible refine Below.alloc ?_ (by first | omega | (simp; done) | (simp; omega)) _) | (with_reducible refine Below.setCell ?_ (by first | omega | (simp; done) | (simp; omega)) _)))
  have s7 : w6.heap.size + 1 = w7.heap.size := by rw [hw7]; simp
  have Xx := Lib.hid (show w7.heap[w6.heap.size]? = some (.cells #[.slice Aqx m cqx, .slice Abx nb cbx] 36 (0, 0)) by rw [hw7]; exact boxed1_0 _ _)
  have s7' := s7
  clear hw7
  refine (toProgram_any d _ _ _ _ qs' l' _ _ _ _ (rBq.below (((((((b1.mono (by omega)).trans (b2.mono (by omega))).trans (b3.mono (by omega))).trans (b4.mono (by omega))).trans (b5.mono (by omega))).trans (b6.mono (by omega))).trans (b7.mono (by omega)))) (rBb.below (((((((b1.mono (by omega)).trans (b2.mono (by omega))).trans (b3.mono (by omega))).trans (b4.mono (by omega))).trans (b5.mono (by omega))).trans (b6.mono (by omega))).trans (b7.mono (by omega)))) HMM'.out hmn' hn').mono ?_
  rintro e w8 ⟨Aqy, cqy, Aby, cby, rfl, rqy, ryb, b8, s8⟩
  have ryq := rqy.rd
  obtain ⟨bx6_0, bx6_1⟩ := boxcells2 (lay := (b8.mono (by omega))) Xx.out
  have lt6 : w6.heap.size < w8.heap.size := by omega
  go_wp2_with fail
  clear bx6_0 bx6_1 lt6
  obtain ⟨w9, hw9⟩ : ∃ w9, w9 = w8.alloc (.cells #[.slice Aqy m' cqy, .slice Aby nb' cby] 36) := ⟨_, rfl⟩
  rw [← hw9]
  have b9 : Below w8.heap.size w8 w9 := by rw [hw9]; exact (by repeat (first | exact Below.refl _ _ | assumption | (refine Below.trans ?_ (Below.mono (by assumption) (by first | omega | (simp; done) | (simp; omega)))) | (with_reducible refine Below.drew ?_) | (with_reducible refine Below.alloc ?_ (by first | omega | (simp; done) | (simp; omega)) _) | (with_reducible refine Below.setCell ?_ (by first | omega | (simp; done) | (simp; omega)) _)))
  have s9 : w8.heap.size + 1 = w9.heap.size := by rw [hw9]; simp
  have Xy := Lib.hid (show w9.heap[w8.heap.size]? = some (.cells #[.slice Aqy m' cqy, .slice Aby nb' cby] 36 (0, 0)) by rw [hw9]; exact boxed1_0 _ _)
  have s9' := s9
  clear hw9
  refine (EqualProgram_impl d _ _ _ _ _ _ qs qs' l l' _ _ _ _ _ _ _ _ _ (rxq.below (((b7.mono (by omega)).trans (b8.mono (by omega))).trans (b9.mono (by omega)))) (rxb.below (((b7.mono (by omega)).trans (b8.mono (by omega))).trans (b9.mono (by omega)))) (ryq.below (b9.mono (by omega))) (ryb.below (b9.mono (by omega))) HMM.out HMM'.out hmn hn hn').mono ?_
  rintro e w10 ⟨rfl, b10, s10⟩
  obtain ⟨bx7_0, bx7_1⟩ := boxcells2 (lay := ((((((((((b1.mono (by omega)).trans (b2.mono (by omega))).trans (b3.mono (by omega))).trans (b4.mono (by omega))).trans (b5.mono (by omega))).trans (b6.mono (by omega))).trans (b7.mono (by omega))).trans (b8.mono (by omega))).trans (b9.mono (by omega))).trans (b10.mono (by omega)))) X0.out
  have lt7 : w.heap.size < w10.heap.size := by omega
  obtain ⟨bx8_0, bx8_1⟩ := boxcells2 (lay := (((b8.mono (by omega)).trans (b9.mono (by omega))).trans (b10.mono (by omega)))) Xx.out
  have lt8 : w6.heap.size < w10.heap.size := by omega
  go_wp2_with fail
  clear bx7_0 bx7_1 lt7 bx8_0 bx8_1 lt8
  obtain ⟨g2_0_0_0, g2_0_0_1⟩ := boxcells2 (lay := (((b8.mono (by omega)).trans (b9.mono (by omega))).trans (b10.mono (by omega)))) Xx.out
  obtain ⟨g2_0_1_0, g2_0_1_1⟩ := boxcells2 (lay := ((((((((((b1.mono (by omega)).trans (b2.mono (by omega))).trans (b3.mono (by omega))).trans (b4.mono (by omega))).trans (b5.mono (by omega))).trans (b6.mono (by omega))).trans (b7.mono (by omega))).trans (b8.mono (by omega))).trans (b9.mono (by omega))).trans (b10.mono (by omega)))) X0.out
  have lvg2_0 : Below w7.heap.size w7 w10 := (((b8.mono (by omega)).trans (b9.mono (by omega))).trans (b10.mono (by omega)))
  have zvg2_0 : w7.heap.size ≤ w10.heap.size := by omega
  have lvg2_1 : Below w0.heap.size w0 w10 := ((((((((((b1.mono (by omega)).trans (b2.mono (by omega))).trans (b3.mono (by omega))).trans (b4.mono (by omega))).trans (b5.mono (by omega))).trans (b6.mono (by omega))).trans (b7.mono (by omega))).trans (b8.mono (by omega))).trans (b9.mono (by omega))).trans (b10.mono (by omega)))
  have zvg2_1 : w0.heap.size ≤ w10.heap.size := by omega
  go_region_held3 (fun W => W.cell? ⟨w6.heap.size, 0, none⟩ = some (.slice Aqx m cqx) ∧ W.cell? ⟨w6.heap.size, 1, none⟩ = some (.slice Abx nb cbx) ∧ W.cell? ⟨w.heap.size, 0, none⟩ = some (.slice Aq m cq) ∧ W.cell? ⟨w.heap.size, 1, none⟩ = some (.slice Ab nb cb)) (first | exact ⟨g2_0_0_0, g2_0_0_1, g2_0_1_0, g2_0_1_1⟩ | exact ⟨g2_1_0_0, g2_1_0_1, g2_1_1_0, g2_1_1_1⟩ | exact ⟨g2_2_0_0, g2_2_0_1, g2_2_1_0, g2_2_1_1⟩) (first | (go_at_call 22; (with_reducible refine (toProgram_any d _ _ _ _ qs l _ _ _ _ (rAq.below ((((((((((b1.mono (by omega)).trans (b2.mono (by omega))).trans (b3.mono (by omega))).trans (b4.mono (by omega))).trans (b5.mono (by omega))).trans (b6.mono (by omega))).trans (b7.mono (by omega))).trans (b8.mono (by omega))).trans (b9.mono (by omega))).trans (b10.mono (by omega)))).drew (rAb.below ((((((((((b1.mono (by omega)).trans (b2.mono (by omega))).trans (b3.mono (by omega))).trans (b4.mono (by omega))).trans (b5.mono (by omega))).trans (b6.mono (by omega))).trans (b7.mono (by omega))).trans (b8.mono (by omega))).trans (b9.mono (by omega))).trans (b10.mono (by omega)))).drew HMM.out hmn hn).mono ?_); rintro e w11 ⟨Aqp, cqp, Abp, cbp, rfl, rqp, rpb, bdg2, sdg2⟩; have b11 := below_undrew bdg2; have s11 := b11.size; have rpq := rqp.rd; obtain ⟨g2_1_0_0, g2_1_0_1⟩ := boxcells2 (lay := (lvg2_0.trans (b11.mono zvg2_0))) Xx.out; obtain ⟨g2_1_1_0, g2_1_1_1⟩ := boxcells2 (lay := (lvg2_1.trans (b11.mono zvg2_1))) X0.out) | (go_at_call 24; (with_reducible refine (eqProgram_any d _ _ _ _ qs l _ _ _ _ _ _ _ _ _ (rxq.below (((((b7.mono (by omega)).trans (b8.mono (by omega))).trans (b9.mono (by omega))).trans (b10.mono (by omega))).trans (b11.mono (by omega)))) (rxb.below (((((b7.mono (by omega)).trans (b8.mono (by omega))).trans (b9.mono (by omega))).trans (b10.mono (by omega))).trans (b11.mono (by omega)))) (rpq.below (Below.refl _ _)) (rpb.below (Below.refl _ _)) HMM.out hmn hn).mono ?_); rintro e w12 ⟨rfl, b12, s12⟩; obtain ⟨g2_2_0_0, g2_2_0_1⟩ := boxcells2 (lay := (lvg2_0.trans ((b11.mono zvg2_0).trans (b12.mono (by omega))))) Xx.out; obtain ⟨g2_2_1_0, g2_2_1_1⟩ := boxcells2 (lay := (lvg2_1.trans ((b11.mono zvg2_1).trans (b12.mono (by omega))))) X0.out))
  clear g2_0_0_0 g2_0_0_1 g2_0_1_0 g2_0_1_1 g2_1_0_0 g2_1_0_1 g2_1_1_0 g2_1_1_1 g2_2_0_0 g2_2_0_1 g2_2_1_0 g2_2_1_1
  go_wp2_with fail
  obtain ⟨g3_0_0_0, g3_0_0_1⟩ := boxcells2 (lay := (((b10.mono (by omega)).trans (b11.mono (by omega))).trans (b12.mono (by omega)))) Xy.out
  obtain ⟨g3_0_1_0, g3_0_1_1⟩ := boxcells2 (lay := ((((((((((((b1.mono (by omega)).trans (b2.mono (by omega))).trans (b3.mono (by omega))).trans (b4.mono (by omega))).trans (b5.mono (by omega))).trans (b6.mono (by omega))).trans (b7.mono (by omega))).trans (b8.mono (by omega))).trans (b9.mono (by omega))).trans (b10.mono (by omega))).trans (b11.mono (by omega))).trans (b12.mono (by omega)))) X1.out
  have lvg3_0 : Below w9.heap.size w9 w12 := (((b10.mono (by omega)).trans (b11.mono (by omega))).trans (b12.mono (by omega)))
  have zvg3_0 : w9.heap.size ≤ w12.heap.size := by omega
  have lvg3_1 : Below w0.heap.size w0 w12 := ((((((((((((b1.mono (by omega)).trans (b2.mono (by omega))).trans (b3.mono (by omega))).trans (b4.mono (by omega))).trans (b5.mono (by omega))).trans (b6.mono (by omega))).trans (b7.mono (by omega))).trans (b8.mono (by omega))).trans (b9.mono (by omega))).trans (b10.mono (by omega))).trans (b11.mono (by omega))).trans (b12.mono (by omega)))
  have zvg3_1 : w0.heap.size ≤ w12.heap.size := by omega
  go_region_held3 (fun W => W.cell? ⟨w8.heap.size, 0, none⟩ = some (.slice Aqy m' cqy) ∧ W.cell? ⟨w8.heap.size, 1, none⟩ = some (.slice Aby nb' cby) ∧ W.cell? ⟨w.heap.size + 1, 0, none⟩ = some (.slice Aq' m' cq') ∧ W.cell? ⟨w.heap.size + 1, 1, none⟩ = some (.slice Ab' nb' cb')) (first | exact ⟨g3_0_0_0, g3_0_0_1, g3_0_1_0, g3_0_1_1⟩ | exact ⟨g3_1_0_0, g3_1_0_1, g3_1_1_0, g3_1_1_1⟩ | exact ⟨g3_2_0_0, g3_2_0_1, g3_2_1_0, g3_2_1_1⟩) (first | (go_at_call 22; (with_reducible refine (toProgram_any d _ _ _ _ qs' l' _ _ _ _ (rBq.below ((((((((((((b1.mono (by omega)).trans (b2.mono (by omega))).trans (b3.mono (by omega))).trans (b4.mono (by omega))).trans (b5.mono (by omega))).trans (b6.mono (by omega))).trans (b7.mono (by omega))).trans (b8.mono (by omega))).trans (b9.mono (by omega))).trans (b10.mono (by omega))).trans (b11.mono (by omega))).trans (b12.mono (by omega)))).drew (rBb.below ((((((((((((b1.mono (by omega)).trans (b2.mono (by omega))).trans (b3.mono (by omega))).trans (b4.mono (by omega))).trans (b5.mono (by omega))).trans (b6.mono (by omega))).trans (b7.mono (by omega))).trans (b8.mono (by omega))).trans (b9.mono (by omega))).trans (b10.mono (by omega))).trans (b11.mono (by omega))).trans (b12.mono (by omega)))).drew HMM'.out hmn' hn').mono ?_); rintro e w13 ⟨Aqq, cqq, Abq, cbq, rfl, rqq, rqb, bdg3, sdg3⟩; have b13 := below_undrew bdg3; have s13 := b13.size; have rqq := rqq.rd; obtain ⟨g3_1_0_0, g3_1_0_1⟩ := boxcells2 (lay := (lvg3_0.trans (b13.mono zvg3_0))) Xy.out; obtain ⟨g3_1_1_0, g3_1_1_1⟩ := boxcells2 (lay := (lvg3_1.trans (b13.mono zvg3_1))) X1.out) | (go_at_call 24; (with_reducible refine (eqProgram_any d _ _ _ _ qs' l' _ _ _ _ _ _ _ _ _ (ryq.below (((((b9.mono (by omega)).trans (b10.mono (by omega))).trans (b11.mono (by omega))).trans (b12.mono (by omega))).trans (b13.mono (by omega)))) (ryb.below (((((b9.mono (by omega)).trans (b10.mono (by omega))).trans (b11.mono (by omega))).trans (b12.mono (by omega))).trans (b13.mono (by omega)))) (rqq.below (Below.refl _ _)) (rqb.below (Below.refl _ _)) HMM'.out hmn' hn').mono ?_); rintro e w14 ⟨rfl, b14, s14⟩; obtain ⟨g3_2_0_0, g3_2_0_1⟩ := boxcells2 (lay := (lvg3_0.trans ((b13.mono zvg3_0).trans (b14.mono (by omega))))) Xy.out; obtain ⟨g3_2_1_0, g3_2_1_1⟩ := boxcells2 (lay := (lvg3_1.trans ((b13.mono zvg3_1).trans (b14.mono (by omega))))) X1.out))
  clear g3_0_0_0 g3_0_0_1 g3_0_1_0 g3_0_1_1 g3_1_0_0 g3_1_0_1 g3_1_1_0 g3_1_1_1 g3_2_0_0 g3_2_0_1 g3_2_1_0 g3_2_1_1
  go_wp2_with fail
  go_ret
  exact ⟨rfl, ((((((((((((((b0.trans (b1.mono (by omega))).trans (b2.mono (by omega))).trans (b3.mono (by omega))).trans (b4.mono (by omega))).trans (b5.mono (by omega))).trans (b6.mono (by omega))).trans (b7.mono (by omega))).trans (b8.mono (by omega))).trans (b9.mono (by omega))).trans (b10.mono (by omega))).trans (b11.mono (by omega))).trans (b12.mono (by omega))).trans (b13.mono (by omega))).trans (b14.mono (by omega)))⟩
set_option maxRecDepth 100000 in
theorem lifted_fnExactEqualProgram (os : Os) (started : os.Started) (H : Type) (enc : TypeId × Value → H) :
    ReturnsInHanded {} Try.checked os 7 .any (Rows.fnExactEqualProgramSpec.pre6 enc Try.prog Try.f7 Rows.fnExactEqualProgramRow.domain false) (Rows.fnExactEqualProgramSpec.post enc Try.prog Try.f7 false true false false) := by
  refine returnsInHanded_of_change (C := Try.checked) own started (by kernel_rfl) Try.func7
    (ChangeSpec.witness6 (enc := enc) (C := Try.checked) false ⟨#[], #[.agg #[.slice none 0 0, .slice none 0 0], .agg #[.slice none 0 0, .slice none 0 0]], []⟩ 8 (by kernel_rfl) (by kernel_rfl) (by kernel_rfl) (by kernel_rfl)) ?_
  intro W base args ds gs before hval0 hW hcnd _
  have hval : ∀ (j : Nat) t v, Try.f7.params[j]? = some t → args[j]? = some v → Value.okWide Try.prog W .any base t v := hval0
  have hW' := hW
  obtain ⟨p, q, hA0, hV, rfl, hfz, hnd⟩ := hW
  have hA : DataW.TrodAll enc Try.prog W 0 (fun _ => true) true Try.f7.params.toList args.toList ds p := hA0
  obtain ⟨rfl, rfl⟩ := trodVars_none hV
  have hlt : ∀ x ∈ p, x.block < W.heap.size := fun x hx => hW'.lt x (by simp [hx])
  have key : Calls Try.prog 7 args W fun e W' => e = .returned (.bool true) ∧ Below W.heap.size W W' := by
    rw [Try.params7] at hA hval
    obtain ⟨v0, vs0, d0, ds0, p0, q0, hargs, rfl, rfl, h0, r0⟩ := trodAll_cons hA
    obtain ⟨v1, vs1, d1, ds1, p1, q1, rfl, rfl, rfl, h1, r1⟩ := trodAll_cons r0
    obtain ⟨rfl, rfl, rfl⟩ := trodAll_nil r1
    obtain rfl : args = #[v0, v1] := by cases args; simp_all
    clear hA0 hval0 hW' hA
    obtain ⟨u0, u1, y0, y1, ma, rfl, _, _, hy0, hy1⟩ := Joins.open_agg2 Try.underlying32 (by kernel_rfl) (show Try.prog.cellsOf 32 = 2 by kernel_rfl) (hval 0 32 v0 rfl rfl) h0
    obtain ⟨u2, u3, y2, y3, mb, rfl, _, _, hy2, hy3⟩ := Joins.open_agg2 Try.underlying32 (by kernel_rfl) (show Try.prog.cellsOf 32 = 2 by kernel_rfl) (hval 1 32 v1 rfl rfl) h1
    obtain ⟨Aq, cq, qs, rfl, hql, hqz, hra⟩ := open_strings hy0
    obtain ⟨Ab, nb, cb, l, rfl, _, _, hrb, hok⟩ := open_stmts (max ma mb) ma (Nat.le_max_left _ _) _ _ hy1
    obtain ⟨Aq', cq', qs', rfl, hql', hqz', hra'⟩ := open_strings hy2
    obtain ⟨Ab', nb', cb', l', rfl, _, _, hrb', hok'⟩ := open_stmts (max ma mb) mb (Nat.le_max_right _ _) _ _ hy3
    exact law_EqualProgram _ _ nb _ nb' qs qs' l l' Aq cq Ab cb Aq' cq' Ab' cb' W hra hrb hra' hrb' rfl rfl hql hql' hqz hqz' hok hok'
  refine key.mono fun e W' ⟨he, hb⟩ => ?_
  subst he
  have hrd : (Try.f7.params.toList.all fun t => Try.prog.readableRec t && decide (t < Try.prog.types.size)) = true := by kernel_rfl
  have hst : ∀ sp : Nat → Bool, (∀ x ∈ p ++ [], sp x.block = true) → DataW.TrodAll enc Try.prog W' 0 sp true Try.f7.params.toList args.toList ds p := fun sp hsp => trodAll_stays (sp := sp) (W' := W') laidOut (fun t ht => by simpa using List.all_eq_true.1 hrd t ht) hA (fun x hx => hb.same (hlt x hx)) (fun x hx => hsp x (by simp [hx]))
  have hds : ds.length = 2 := by
    rw [Try.params7] at hA
    obtain ⟨v0, vs0, d0, ds0, p0, q0, _, rfl, rfl, h0, r0⟩ := trodAll_cons hA
    obtain ⟨v1, vs1, d1, ds1, p1, q1, _, rfl, rfl, h1, r1⟩ := trodAll_cons r0
    obtain ⟨_, rfl, _⟩ := trodAll_nil r1
    rfl
  clear hA hA0 hval hval0
  obtain ⟨e0, e1, rfl⟩ : ∃ e0 e1, ds = [e0, e1] := by match ds, hds with | [e0, e1], _ => exact ⟨e0, e1, rfl⟩
  exact ⟨_, rfl, post_of_below (pa := p) (pv := []) hW' (fun _ _ _ => (trodAll_cons_mk (shut_bool Try.underlying4 _) trodAll_mk0)) hst (fun _ _ => rfl) rfl hb (ok_one (by kernel_rfl) rfl (okWide_bool_mk Try.underlying4 _))⟩
theorem over_fnExactEqualProgram : Rows.fnExactEqualProgramRow.holds Try.pinned (OpenSpec.ofChange Rows.fnExactEqualProgramSpec) :=
  OpenClaim.holds_of_wide 7 Try.f7 rfl rfl rfl rfl rfl rfl rfl ⟨rfl, rfl, rfl, rfl, rfl⟩ rfl rfl rfl rfl rfl (by kernel_rfl) Try.func7 (by kernel_rfl)
    (of_decide_eq_true (by kernel_rfl)) (by unfold Func.isWrapper; first | (rw [if_pos (by decide +kernel)]; kernel_rfl) | (rw [if_neg (by decide +kernel)]; exact ⟨rfl, rfl⟩))
    (fun os started H enc _ => lifted_fnExactEqualProgram os started H enc)
/-- The statement. -/
theorem fnExactEqualProgram_holds : Rows.FnExactEqualProgramSaid := over_fnExactEqualProgram
end Go.Proofs.Ytcggnpfjiaimdaa
