/- Comparing two slices of statements, by the program. -/
import Derived.Test.YtbamjfbfipkioaaEqT
namespace Go.Proofs.Ytbamjfbfipkioaa
open Go.RowKit
set_option linter.unusedVariables false
def EqsSaid_impl (d : Nat) : Prop := ∀ (lo lo' : Nat) (A A' : Option Addr) (n n' c c' : Nat) (l l' : List (Tr d)) (w : World), RdT w lo d A n l → RdT w lo' d A' n' l' → szT d l ≤ 1048576 → szT d l' ≤ 1048576 →
  Calls Try.prog 11 #[.slice A n c, .slice A' n' c'] w fun e w' => e = .returned (.bool (eqTs d l l')) ∧ Below w.heap.size w w' ∧ w.heap.size ≤ w'.heap.size
set_option maxRecDepth 100000 in
set_option maxHeartbeats 4000000 in
theorem EqualStmts_impl : ∀ (d : Nat), EqsSaid_impl d := by
  intro d
  induction d with
  | zero =>
    intro lo lo' A A' n n' c c' l l' w h h' _ _
    obtain rfl := szT_zero_len h
    obtain rfl := szT_zero_len h'
    go_enter Try.func11, Try.ntmps11
    go_wp2
    refine wp_loop_rounds 1 ?_
    rw [rounds_succ]
    go_wp2
    go_ret
    exact ⟨rfl, Below.refl _ _, Nat.le_refl _⟩
  | succ d ih =>
    intro lo lo' A A' n n' c c' l l' w h h' hsz hsz'
    have hln := h.len
    have hln' := h'.len
    rw [eqTs_succ]
    by_cases hnn : n = n'
    · subst hnn
      have hn : n ≤ 1048576 := by rw [szT_succ] at hsz; omega
      have HQ := Lib.hid hsz
      have HQ' := Lib.hid hsz'
      have HL := Lib.hid hln
      have HL' := Lib.hid hln'
      have H := Lib.hid h
      have H' := Lib.hid h'
      clear h hln hsz h' hln' hsz'
      go_enter Try.func11, Try.ntmps11
      go_wp2
      go_loopw [15] (fun i wr => ∃ t : Nat, t ≤ n ∧ i = .int .i64 t ∧ EqUpto eqE l l' t ∧ Below w.heap.size w wr) (fun i _ => n - (intOf i).toNat)
      case atStart => exact ⟨0, Nat.zero_le _, rfl, eqUpto_zero, Below.refl _ _⟩
      case round =>
        obtain ⟨t, ht, rfl, hup, hb⟩ := hrel
        have hbs := hb.size
        by_cases hlt : t < n
        · obtain ⟨b, off, s, Aa, ca, Ab, nb, cb, rfl, hbl, hs, hcs, hra, hrb⟩ := (H.out.below hb).at_ hlt
          obtain ⟨b', off', s', Aa', ca', Ab', nb', cb', rfl, hbl', hs', hcs', hra', hrb'⟩ := (H'.out.below hb).at_ hlt
          obtain ⟨q0, q1, q2, q3, q4⟩ := hcs
          obtain ⟨p0, p1, p2, p3, p4⟩ := hcs'
          have hme := szT_mem hs
          have hme' := szT_mem hs'
          have hz1 : (hdT s).args.length ≤ 1048576 := by have := HQ.out; rw [szT_succ] at this; unfold szE at hme; omega
          have hz2 : szT d (bdT s) ≤ 1048576 := by have := HQ.out; rw [szT_succ] at this; unfold szE at hme; omega
          have hz2' : szT d (bdT s') ≤ 1048576 := by have := HQ'.out; rw [szT_succ] at this; unfold szE at hme'; omega
          have HU : Hid (∀ he : eqE s s' = true, EqUpto eqE l l' (t + 1)) := Lib.hid (fun he => eqUpto_step hup hs hs' he)
          have HF : Hid (∀ he : eqE s s' = false, eqBy eqE l l' = false) := Lib.hid (fun he => eqBy_f hs hs' he)
          clear hs hs' hme hme' hup
          have HE1 := Lib.hid (@eqE_k d s s')
          have HE2 := Lib.hid (@eqE_w d s s')
          have HE3 := Lib.hid (@eqE_a d s s')
          have HE4 := Lib.hid (@eqE_c d s s')
          have HE5 := Lib.hid (@eqE_b d s s')
          have HET := Lib.hid (@eqE_t d s s')
          obtain ⟨⟨k, wd, ar, ct⟩, hhd⟩ : ∃ x, x = hdT s := ⟨_, rfl⟩
          obtain ⟨⟨k', wd', ar', ct'⟩, hhd'⟩ : ∃ x, x = hdT s' := ⟨_, rfl⟩
          rw [← hhd] at HE1 HE2 HE3 HE4 HET q0 q1 q2 q3 hra hz1
          rw [← hhd'] at HE1 HE2 HE3 HE4 HET p0 p1 p2 p3 hra'
          obtain ⟨bd, hbd⟩ : ∃ x, x = bdT s := ⟨_, rfl⟩
          obtain ⟨bd', hbd'⟩ : ∃ x, x = bdT s' := ⟨_, rfl⟩
          rw [← hbd] at HE5 HET hrb hz2
          rw [← hbd'] at HE5 HET hrb' hz2'
          dsimp only at HE1 HE2 HE3 HE4 HET q0 q1 q2 q3 hra hz1 p0 p1 p2 p3 hra'
          clear hhd hhd' hbd hbd' HQ HQ' H H' HL HL'
          obtain ⟨m, hm⟩ : ∃ m, m = ar.length := ⟨_, rfl⟩
          obtain ⟨m', hm'⟩ : ∃ m, m = ar'.length := ⟨_, rfl⟩
          rw [← hm] at q2 hra hz1
          rw [← hm'] at p2 hra'
          have HM := Lib.hid hm
          have HM' := Lib.hid hm'
          clear hm hm'
          have HA := Lib.hid hra
          have HA' := Lib.hid hra'
          have HB := Lib.hid hrb
          have HB' := Lib.hid hrb'
          clear hra hra' hrb hrb'
          by_cases hk : k = k'
          rotate_left
          · have hne : (k != k') = true := by rw [bne_iff_ne]; exact hk
            have HX := Lib.hid (HF.out (HE1.out hk))
            go_wp2_with fail
            go_ret
            exact ⟨by rw [HX.out]; rfl, ((hb.alloc hb.size _).alloc (by simp; omega) _), (by simp; omega)⟩
          subst hk
          cases hw : eqSt wd wd'
          · have hne : (wd.toList == wd'.toList) = false := hw
            have HX := Lib.hid (HF.out (HE2.out hw))
            go_wp2_with fail
            go_ret
            exact ⟨by rw [HX.out]; rfl, ((hb.alloc hb.size _).alloc (by simp; omega) _), (by simp; omega)⟩
          have hww := eqSt_eq hw
          have HW := Lib.hid hw
          subst hww
          clear hw
          cases ha : eqBy eqSt ar ar'
          · have HAA := Lib.hid ha
            clear ha
            have HX := Lib.hid (HF.out (HE3.out HAA.out))
            go_wp2_with fail
            obtain ⟨w0, hw0⟩ : ∃ w0, w0 = ((wr.alloc (.cells #[.int .i64 k, .string wd, .slice Aa m ca, .int .i64 ct, .slice Ab nb cb] 36)).alloc (.cells #[.int .i64 k, .string wd, .slice Aa' m' ca', .int .i64 ct', .slice Ab' nb' cb'] 36)) := ⟨_, rfl⟩
            rw [← hw0]
            have b0 : Below wr.heap.size wr w0 := by rw [hw0]; exact (by repeat (first | exact Below.refl _ _ | assumption | (refine Below.trans ?_ (Below.mono (by assumption) (by first | omega | (simp; done) | (simp; omega)))) | (with_reducible refine Below.drew ?_) | (with_reducible refine Below.alloc ?_ (by first | omega | (simp; done) | (simp; omega)) _) | (with_reducible refine Below.setCell ?_ (by first | omega | (simp; done) | (simp; omega)) _)))
            have s0 : wr.heap.size + 2 = w0.heap.size := by rw [hw0]; simp
            have X0 := Lib.hid (show w0.heap[wr.heap.size]? = some (.cells #[.int .i64 k, .string wd, .slice Aa m ca, .int .i64 ct, .slice Ab nb cb] 36 (0, 0)) by rw [hw0]; exact boxed2_0 _ _ _)
            have X1 := Lib.hid (show w0.heap[wr.heap.size + 1]? = some (.cells #[.int .i64 k, .string wd, .slice Aa' m' ca', .int .i64 ct', .slice Ab' nb' cb'] 36 (0, 0)) by rw [hw0]; exact boxed2_1 _ _ _)
            clear hw0
            refine (sameStr_any _ _ _ _ _ _ ar ar' _ HM.out.symm HM'.out.symm (by omega) (HA.out.rd.below b0) (HA'.out.rd.below b0)).mono ?_
            rintro e w1 ⟨rfl, m1, rfl⟩
            rw [HAA.out]
            obtain ⟨_, _, _, y3, y4⟩ := boxcells5 (lay := Below.refl _ _) X0.out
            obtain ⟨_, _, _, z3, z4⟩ := boxcells5 (lay := Below.refl _ _) X1.out
            go_wp2_with fail
            go_ret
            exact ⟨by rw [HX.out]; rfl, (below_drewN (hb.trans (b0.mono hb.size)) _), (by simp; omega)⟩
          have HAA := Lib.hid ha
          clear ha
          by_cases hc : ct = ct'
          rotate_left
          · have hne : (ct != ct') = true := by rw [bne_iff_ne]; exact hc
            have HX := Lib.hid (HF.out (HE4.out hc))
            go_wp2_with fail
            obtain ⟨w0, hw0⟩ : ∃ w0, w0 = ((wr.alloc (.cells #[.int .i64 k, .string wd, .slice Aa m ca, .int .i64 ct, .slice Ab nb cb] 36)).alloc (.cells #[.int .i64 k, .string wd, .slice Aa' m' ca', .int .i64 ct', .slice Ab' nb' cb'] 36)) := ⟨_, rfl⟩
            rw [← hw0]
            have b0 : Below wr.heap.size wr w0 := by rw [hw0]; exact (by repeat (first | exact Below.refl _ _ | assumption | (refine Below.trans ?_ (Below.mono (by assumption) (by first | omega | (simp; done) | (simp; omega)))) | (with_reducible refine Below.drew ?_) | (with_reducible refine Below.alloc ?_ (by first | omega | (simp; done) | (simp; omega)) _) | (with_reducible refine Below.setCell ?_ (by first | omega | (simp; done) | (simp; omega)) _)))
            have s0 : wr.heap.size + 2 = w0.heap.size := by rw [hw0]; simp
            have X0 := Lib.hid (show w0.heap[wr.heap.size]? = some (.cells #[.int .i64 k, .string wd, .slice Aa m ca, .int .i64 ct, .slice Ab nb cb] 36 (0, 0)) by rw [hw0]; exact boxed2_0 _ _ _)
            have X1 := Lib.hid (show w0.heap[wr.heap.size + 1]? = some (.cells #[.int .i64 k, .string wd, .slice Aa' m' ca', .int .i64 ct', .slice Ab' nb' cb'] 36 (0, 0)) by rw [hw0]; exact boxed2_1 _ _ _)
            clear hw0
            refine (sameStr_any _ _ _ _ _ _ ar ar' _ HM.out.symm HM'.out.symm (by omega) (HA.out.rd.below b0) (HA'.out.rd.below b0)).mono ?_
            rintro e w1 ⟨rfl, m1, rfl⟩
            rw [HAA.out]
            obtain ⟨_, _, _, y3, y4⟩ := boxcells5 (lay := Below.refl _ _) X0.out
            obtain ⟨_, _, _, z3, z4⟩ := boxcells5 (lay := Below.refl _ _) X1.out
            go_wp2_with fail
            go_ret
            exact ⟨by rw [HX.out]; rfl, (below_drewN (hb.trans (b0.mono hb.size)) _), (by simp; omega)⟩
          subst hc
          cases hb2 : eqTs d bd bd'
          · have HBB := Lib.hid hb2
            clear hb2
            have HX := Lib.hid (HF.out (HE5.out HBB.out))
            go_wp2_with fail
            obtain ⟨w0, hw0⟩ : ∃ w0, w0 = ((wr.alloc (.cells #[.int .i64 k, .string wd, .slice Aa m ca, .int .i64 ct, .slice Ab nb cb] 36)).alloc (.cells #[.int .i64 k, .string wd, .slice Aa' m' ca', .int .i64 ct, .slice Ab' nb' cb'] 36)) := ⟨_, rfl⟩
            rw [← hw0]
            have b0 : Below wr.heap.size wr w0 := by rw [hw0]; exact (by repeat (first | exact Below.refl _ _ | assumption | (refine Below.trans ?_ (Below.mono (by assumption) (by first | omega | (simp; done) | (simp; omega)))) | (with_reducible refine Below.drew ?_) | (with_reducible refine Below.alloc ?_ (by first | omega | (simp; done) | (simp; omega)) _) | (with_reducible refine Below.setCell ?_ (by first | omega | (simp; done) | (simp; omega)) _)))
            have s0 : wr.heap.size + 2 = w0.heap.size := by rw [hw0]; simp
            have X0 := Lib.hid (show w0.heap[wr.heap.size]? = some (.cells #[.int .i64 k, .string wd, .slice Aa m ca, .int .i64 ct, .slice Ab nb cb] 36 (0, 0)) by rw [hw0]; exact boxed2_0 _ _ _)
            have X1 := Lib.hid (show w0.heap[wr.heap.size + 1]? = some (.cells #[.int .i64 k, .string wd, .slice Aa' m' ca', .int .i64 ct, .slice Ab' nb' cb'] 36 (0, 0)) by rw [hw0]; exact boxed2_1 _ _ _)
            clear hw0
            refine (sameStr_any _ _ _ _ _ _ ar ar' _ HM.out.symm HM'.out.symm (by omega) (HA.out.rd.below b0) (HA'.out.rd.below b0)).mono ?_
            rintro e w1 ⟨rfl, m1, rfl⟩
            rw [HAA.out]
            obtain ⟨_, _, _, y3, y4⟩ := boxcells5 (lay := Below.refl _ _) X0.out
            obtain ⟨_, _, _, z3, z4⟩ := boxcells5 (lay := Below.refl _ _) X1.out
            go_wp2_with fail
            refine (ih lo lo' _ _ _ _ _ _ bd bd' _ ((HB.out.below b0).drewN _) ((HB'.out.below b0).drewN _) hz2 hz2').mono ?_
            rintro e w2 ⟨rfl, b2, s2⟩
            rw [HBB.out]
            go_wp2_with fail
            go_ret
            exact ⟨by rw [HX.out]; rfl, ((below_drewN (hb.trans (b0.mono hb.size)) _).trans (b2.mono (by simp; omega))), (by simp at s2; omega)⟩
          have HBB := Lib.hid hb2
          clear hb2
          have HX := Lib.hid (HU.out (HET.out rfl HW.out HAA.out rfl HBB.out))
          go_wp2_with fail
          obtain ⟨w0, hw0⟩ : ∃ w0, w0 = ((wr.alloc (.cells #[.int .i64 k, .string wd, .slice Aa m ca, .int .i64 ct, .slice Ab nb cb] 36)).alloc (.cells #[.int .i64 k, .string wd, .slice Aa' m' ca', .int .i64 ct, .slice Ab' nb' cb'] 36)) := ⟨_, rfl⟩
          rw [← hw0]
          have b0 : Below wr.heap.size wr w0 := by rw [hw0]; exact (by repeat (first | exact Below.refl _ _ | assumption | (refine Below.trans ?_ (Below.mono (by assumption) (by first | omega | (simp; done) | (simp; omega)))) | (with_reducible refine Below.drew ?_) | (with_reducible refine Below.alloc ?_ (by first | omega | (simp; done) | (simp; omega)) _) | (with_reducible refine Below.setCell ?_ (by first | omega | (simp; done) | (simp; omega)) _)))
          have s0 : wr.heap.size + 2 = w0.heap.size := by rw [hw0]; simp
          have X0 := Lib.hid (show w0.heap[wr.heap.size]? = some (.cells #[.int .i64 k, .string wd, .slice Aa m ca, .int .i64 ct, .slice Ab nb cb] 36 (0, 0)) by rw [hw0]; exact boxed2_0 _ _ _)
          have X1 := Lib.hid (show w0.heap[wr.heap.size + 1]? = some (.cells #[.int .i64 k, .string wd, .slice Aa' m' ca', .int .i64 ct, .slice Ab' nb' cb'] 36 (0, 0)) by rw [hw0]; exact boxed2_1 _ _ _)
          clear hw0
          refine (sameStr_any _ _ _ _ _ _ ar ar' _ HM.out.symm HM'.out.symm (by omega) (HA.out.rd.below b0) (HA'.out.rd.below b0)).mono ?_
          rintro e w1 ⟨rfl, m1, rfl⟩
          rw [HAA.out]
          obtain ⟨_, _, _, y3, y4⟩ := boxcells5 (lay := Below.refl _ _) X0.out
          obtain ⟨_, _, _, z3, z4⟩ := boxcells5 (lay := Below.refl _ _) X1.out
          go_wp2_with fail
          refine (ih lo lo' _ _ _ _ _ _ bd bd' _ ((HB.out.below b0).drewN _) ((HB'.out.below b0).drewN _) hz2 hz2').mono ?_
          rintro e w2 ⟨rfl, b2, s2⟩
          rw [HBB.out]
          go_wp2_with fail
          go_roundw
          case rel => exact ⟨t + 1, by omega, by go_num, HX.out, ((below_drewN (hb.trans (b0.mono hb.size)) _).trans (b2.mono (by simp; omega)))⟩
          case measure => simp [intOf]; omega
        · obtain rfl : t = n := by omega
          have HF := Lib.hid (eqBy_t (by rw [HL.out, HL'.out]) hup (by rw [HL.out]; exact Nat.le_refl _))
          go_wp2_with fail
          go_ret
          exact ⟨by rw [HF.out]; rfl, hb, hb.size⟩
    · have HF := Lib.hid (eqBy_len (f := eqE) (l := l) (l' := l') (by rw [hln, hln']; exact hnn))
      have hne : ((n : Int) != (n' : Int)) = true := by rw [bne_iff_ne]; omega
      clear h h' hln hln' hsz hsz' ih
      go_enter Try.func11, Try.ntmps11
      go_wp2
      go_ret
      exact ⟨by rw [HF.out]; rfl, Below.refl _ _, Nat.le_refl _⟩
end Go.Proofs.Ytbamjfbfipkioaa
