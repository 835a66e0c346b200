/- Comparing two slices of statements, by the reference. -/
import Derived.Test.YtcggnpfjiaimdaaEqT
namespace Go.Proofs.Ytcggnpfjiaimdaa
open Go.RowKit
set_option linter.unusedVariables false
def EqsSaid_spec (d : Nat) : Prop := ∀ (lo lo' : Nat) (A A' : Option Addr) (n n' c c' : Nat) (l l' : List (Tr d)) (w : World), RdT w lo d A n l → RdT w lo' d A' n' l' → szT d l ≤ 1048576 → szT d l' ≤ 1048576 →
  Calls Try.prog 10 #[.slice A n c, .slice A' n' c'] w fun e w' => e = .returned (.bool (eqTs d l l')) ∧ ∃ m, w' = w.drewN m
set_option maxRecDepth 100000 in
set_option maxHeartbeats 4000000 in
theorem EqualStmts_spec : ∀ (d : Nat), EqsSaid_spec d := by
  intro d
  induction d with
  | zero =>
    intro lo lo' A A' n n' c c' l l' w h h' _ _
    obtain rfl := szT_zero_len h
    obtain rfl := szT_zero_len h'
    go_enter Try.func10, Try.ntmps10
    go_wp2
    refine wp_loop_rounds 1 ?_
    rw [rounds_succ]
    go_wp2
    go_ret
    exact ⟨rfl, 0, rfl⟩
  | succ d ih =>
    intro lo lo' A A' n n' c c' l l' w h h' hsz hsz'
    have hln := h.len
    have hln' := h'.len
    rw [eqTs_succ]
    by_cases hnn : n = n'
    · subst hnn
      have hn : n ≤ 1048576 := by rw [szT_succ] at hsz; omega
      have HQ := Lib.hid hsz
      have HQ' := Lib.hid hsz'
      have HL := Lib.hid hln
      have HL' := Lib.hid hln'
      have H := Lib.hid h
      have H' := Lib.hid h'
      clear h hln hsz h' hln' hsz'
      go_enter Try.func10, Try.ntmps10
      go_wp2
      go_loopw [5] (fun i wr => ∃ t : Nat, t ≤ n ∧ i = .int .i64 t ∧ EqUpto eqE l l' t ∧ ∃ m, wr = w.drewN m) (fun i _ => n - (intOf i).toNat)
      case atStart => exact ⟨0, Nat.zero_le _, rfl, eqUpto_zero, 0, rfl⟩
      case round =>
        obtain ⟨t, ht, rfl, hup, dq, rfl⟩ := hrel
        by_cases hlt : t < n
        · obtain ⟨b, off, s, Aa, ca, Ab, nb, cb, rfl, hbl, hs, hcs, hra, hrb⟩ := H.out.at_ hlt
          obtain ⟨b', off', s', Aa', ca', Ab', nb', cb', rfl, hbl', hs', hcs', hra', hrb'⟩ := H'.out.at_ hlt
          obtain ⟨q0, q1, q2, q3, q4⟩ := hcs
          obtain ⟨p0, p1, p2, p3, p4⟩ := hcs'
          have hme := szT_mem hs
          have hme' := szT_mem hs'
          have hz1 : (hdT s).args.length ≤ 1048576 := by have := HQ.out; rw [szT_succ] at this; unfold szE at hme; omega
          have hz2 : szT d (bdT s) ≤ 1048576 := by have := HQ.out; rw [szT_succ] at this; unfold szE at hme; omega
          have hz2' : szT d (bdT s') ≤ 1048576 := by have := HQ'.out; rw [szT_succ] at this; unfold szE at hme'; omega
          have HU : Hid (∀ he : eqE s s' = true, EqUpto eqE l l' (t + 1)) := Lib.hid (fun he => eqUpto_step hup hs hs' he)
          have HF : Hid (∀ he : eqE s s' = false, eqBy eqE l l' = false) := Lib.hid (fun he => eqBy_f hs hs' he)
          clear hs hs' hme hme' hup
          have HE1 := Lib.hid (@eqE_k d s s')
          have HE2 := Lib.hid (@eqE_w d s s')
          have HE3 := Lib.hid (@eqE_a d s s')
          have HE4 := Lib.hid (@eqE_c d s s')
          have HE5 := Lib.hid (@eqE_b d s s')
          have HET := Lib.hid (@eqE_t d s s')
          obtain ⟨⟨k, wd, ar, ct⟩, hhd⟩ : ∃ x, x = hdT s := ⟨_, rfl⟩
          obtain ⟨⟨k', wd', ar', ct'⟩, hhd'⟩ : ∃ x, x = hdT s' := ⟨_, rfl⟩
          rw [← hhd] at HE1 HE2 HE3 HE4 HET q0 q1 q2 q3 hra hz1
          rw [← hhd'] at HE1 HE2 HE3 HE4 HET p0 p1 p2 p3 hra'
          obtain ⟨bd, hbd⟩ : ∃ x, x = bdT s := ⟨_, rfl⟩
          obtain ⟨bd', hbd'⟩ : ∃ x, x = bdT s' := ⟨_, rfl⟩
          rw [← hbd] at HE5 HET hrb hz2
          rw [← hbd'] at HE5 HET hrb' hz2'
          dsimp only at HE1 HE2 HE3 HE4 HET q0 q1 q2 q3 hra hz1 p0 p1 p2 p3 hra'
          clear hhd hhd' hbd hbd' HQ HQ' H H' HL HL'
          obtain ⟨m, hm⟩ : ∃ m, m = ar.length := ⟨_, rfl⟩
          obtain ⟨m', hm'⟩ : ∃ m, m = ar'.length := ⟨_, rfl⟩
          rw [← hm] at q2 hra hz1
          rw [← hm'] at p2 hra'
          have HM := Lib.hid hm
          have HM' := Lib.hid hm'
          clear hm hm'
          have HA := Lib.hid hra
          have HA' := Lib.hid hra'
          have HB := Lib.hid hrb
          have HB' := Lib.hid hrb'
          clear hra hra' hrb hrb'
          by_cases hk : k = k'
          rotate_left
          · have hne : (k != k') = true := by rw [bne_iff_ne]; exact hk
            have HX := Lib.hid (HF.out (HE1.out hk))
            go_wp2_with fail
            (try simp only [List.append])
            go_quiet (fail)
            go_wp2_with fail
            go_ret
            exact ⟨by rw [HX.out]; rfl, (by first | exact ⟨_, rfl⟩ | exact drewN2 _ _ _)⟩
          subst hk
          cases hw : eqSt wd wd'
          · have hne : (wd.toList == wd'.toList) = false := hw
            have HX := Lib.hid (HF.out (HE2.out hw))
            go_wp2_with fail
            (try simp only [List.append])
            go_quiet (fail)
            go_wp2_with fail
            go_ret
            exact ⟨by rw [HX.out]; rfl, (by first | exact ⟨_, rfl⟩ | exact drewN2 _ _ _)⟩
          have hww := eqSt_eq hw
          have HW := Lib.hid hw
          subst hww
          clear hw
          by_cases hc : ct = ct'
          rotate_left
          · have hne : (ct != ct') = true := by rw [bne_iff_ne]; exact hc
            have HX := Lib.hid (HF.out (HE4.out hc))
            go_wp2_with fail
            (try simp only [List.append])
            go_quiet (fail)
            go_wp2_with fail
            go_ret
            exact ⟨by rw [HX.out]; rfl, (by first | exact ⟨_, rfl⟩ | exact drewN2 _ _ _)⟩
          subst hc
          cases ha : eqBy eqSt ar ar'
          · have HAA := Lib.hid ha
            clear ha
            have HX := Lib.hid (HF.out (HE3.out HAA.out))
            have CT : Hid (∀ j, Calls Try.prog 32 #[.slice Aa m ca, .slice Aa' m' ca'] (w.drewN j) fun e w' => e = .returned (.bool false) ∧ ∃ q, w' = (w.drewN j).drewN q) := Lib.hid (fun j => (l17Texts_any _ _ _ _ _ _ ar ar' _ HM.out.symm HM'.out.symm (by omega) (HA.out.rd.drewN j) (HA'.out.rd.drewN j)).mono fun e w1 h => ⟨by rw [h.1, HAA.out], h.2⟩)
            go_wp2_with fail
            (try simp only [List.append])
            go_quiet (first | (go_at_call 32; exact quiet_anyAdd (CT.out _)))
            go_wp2_with fail
            go_ret
            exact ⟨by rw [HX.out]; rfl, (by first | exact ⟨_, rfl⟩ | exact drewN2 _ _ _)⟩
          have HAA := Lib.hid ha
          clear ha
          cases hb2 : eqTs d bd bd'
          · have HBB := Lib.hid hb2
            clear hb2
            have HX := Lib.hid (HF.out (HE5.out HBB.out))
            have CT : Hid (∀ j, Calls Try.prog 32 #[.slice Aa m ca, .slice Aa' m' ca'] (w.drewN j) fun e w' => e = .returned (.bool true) ∧ ∃ q, w' = (w.drewN j).drewN q) := Lib.hid (fun j => (l17Texts_any _ _ _ _ _ _ ar ar' _ HM.out.symm HM'.out.symm (by omega) (HA.out.rd.drewN j) (HA'.out.rd.drewN j)).mono fun e w1 h => ⟨by rw [h.1, HAA.out], h.2⟩)
            have CR : Hid (∀ j, Calls Try.prog 10 #[.slice Ab nb cb, .slice Ab' nb' cb'] (w.drewN j) fun e w' => e = .returned (.bool false) ∧ ∃ q, w' = (w.drewN j).drewN q) := Lib.hid (fun j => (ih lo lo' _ _ _ _ _ _ bd bd' _ (HB.out.drewN j) (HB'.out.drewN j) hz2 hz2').mono fun e w1 h => ⟨by rw [h.1, HBB.out], h.2⟩)
            go_wp2_with fail
            (try simp only [List.append])
            go_quiet (first | (go_at_call 32; exact quiet_anyAdd (CT.out _)) | (go_at_call 10; exact quiet_anyAdd (CR.out _)))
            go_wp2_with fail
            go_ret
            exact ⟨by rw [HX.out]; rfl, (by first | exact ⟨_, rfl⟩ | exact drewN2 _ _ _)⟩
          have HBB := Lib.hid hb2
          clear hb2
          have HX := Lib.hid (HU.out (HET.out rfl HW.out HAA.out rfl HBB.out))
          have CT : Hid (∀ j, Calls Try.prog 32 #[.slice Aa m ca, .slice Aa' m' ca'] (w.drewN j) fun e w' => e = .returned (.bool true) ∧ ∃ q, w' = (w.drewN j).drewN q) := Lib.hid (fun j => (l17Texts_any _ _ _ _ _ _ ar ar' _ HM.out.symm HM'.out.symm (by omega) (HA.out.rd.drewN j) (HA'.out.rd.drewN j)).mono fun e w1 h => ⟨by rw [h.1, HAA.out], h.2⟩)
          have CR : Hid (∀ j, Calls Try.prog 10 #[.slice Ab nb cb, .slice Ab' nb' cb'] (w.drewN j) fun e w' => e = .returned (.bool true) ∧ ∃ q, w' = (w.drewN j).drewN q) := Lib.hid (fun j => (ih lo lo' _ _ _ _ _ _ bd bd' _ (HB.out.drewN j) (HB'.out.drewN j) hz2 hz2').mono fun e w1 h => ⟨by rw [h.1, HBB.out], h.2⟩)
          go_wp2_with fail
          (try simp only [List.append])
          go_quiet (first | (go_at_call 32; exact quiet_anyAdd (CT.out _)) | (go_at_call 10; exact quiet_anyAdd (CR.out _)))
          go_wp2_with fail
          go_roundw
          case rel => exact ⟨t + 1, by omega, by go_num, HX.out, (by first | exact ⟨_, rfl⟩ | exact drewN2 _ _ _)⟩
          case measure => simp [intOf]; omega
        · obtain rfl : t = n := by omega
          have HF := Lib.hid (eqBy_t (by rw [HL.out, HL'.out]) hup (by rw [HL.out]; exact Nat.le_refl _))
          go_wp2_with fail
          go_ret
          exact ⟨by rw [HF.out]; rfl, dq, rfl⟩
    · have HF := Lib.hid (eqBy_len (f := eqE) (l := l) (l' := l') (by rw [hln, hln']; exact hnn))
      have hne : ((n : Int) != (n' : Int)) = true := by rw [bne_iff_ne]; omega
      clear h h' hln hln' hsz hsz' ih
      go_enter Try.func10, Try.ntmps10
      go_wp2
      go_ret
      exact ⟨by rw [HF.out]; rfl, 0, rfl⟩
end Go.Proofs.Ytcggnpfjiaimdaa
