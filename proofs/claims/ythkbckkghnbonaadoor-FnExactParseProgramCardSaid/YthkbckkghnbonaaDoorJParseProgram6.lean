/- What the calls that this law reaches answer, part 6 of 12. -/
import Derived.Test.YthkbckkghnbonaaDoorJParseProgram5
import Derived.Test.YthkbckkghnbonaaDoorJParseProgram3
import Derived.Lib.Strings
import Derived.Test.YthkbckkghnbonaaDoorJParseProgram4
import Derived.Test.YthkbckkghnbonaaDoorJParseProgram1
import Derived.Test.YthkbckkghnbonaaDoorJParseProgram2
namespace Go.Proofs.YthkbckkghnbonaaDoor
open Go.RowKit
set_option linter.unusedVariables false
theorem rlS_end {R n c hi e c0 : Nat} {A A0 : Option Addr} {T : List Tk} {s0 st : Rs} {l L : List (Tr (e + 1))} {w wr : World} (hE : s0 = st ∧ (st.code = 0 → l = L)) (hown : OwnI wr w.heap.size hi e (.slice A0 l.length c0) l) (hrd : RdS R A n c T st wr) (hgr : w.grownBy wr (some R)) (q : Nat) :
    RlS R A n c T (e + 1) s0 L w (.returned (.slice A0 l.length c0)) (wr.drewN q) := by
  rw [hE.1]
  exact ⟨A0, l.length, c0, l, rfl, hE.2, TrI.keep (w := wr) (w' := wr.drewN q) (Nat.le_refl _) (hown.tr rfl) (fun _ _ _ _ => rfl), hrd.drewN q, gr_drewN hgr q⟩
def StmtsS (e : Nat) : Prop := ∀ (R n c : Nat) (A : Option Addr) (T : List Tk) (s : Rs) (q : Int) (w : World), RdS R A n c T s w → n ≤ 160 → (∀ t ∈ T, wellTk t) → q = 4 - e →
  Calls Tryd.prog 15 #[.pointer (some ⟨R, 0, none⟩), .int .i64 q] w (RlS R A n c T (e + 1) (Lp T e (T.length + 1) s).1 (Lp T e (T.length + 1) s).2 w)
set_option maxRecDepth 100000 in
set_option maxHeartbeats 8000000 in
theorem l18Stmts_of (e : Nat) (he : e ≤ 4) (hs0 : StmtS e) : StmtsS e := by
  intro R n c A T s o w h hn hT0 hk
  obtain ⟨i0, hi, hz0, hz1, hz2⟩ := info_parts info_Stmt
  have hnT := h.l
  have lR := h.cells.2.2.2
  have hsi := h.i
  have H := Lib.hid h
  have IS := Lib.hid hs0
  have hT := Lib.hid hT0
  have KD := Lib.hid hk
  have hk1 : 0 ≤ o := by omega
  have hk2 : o ≤ 4 := by omega
  have HN := Lib.hid hnT
  clear h hs0 hT0 hk hnT
  go_enter Tryd.func15, Tryd.ntmps15
  go_wp2_with fail
  obtain ⟨w0, hw0⟩ : ∃ w0, w0 = w.alloc (.cells #[] 61) := ⟨_, rfl⟩
  rw [← hw0]
  have b0 : Below w.heap.size w w0 := by rw [hw0]; exact (by repeat (first | exact Below.refl _ _ | assumption | (refine Below.trans ?_ (Below.mono (by assumption) (by first | omega | (simp; done) | (simp; omega)))) | (with_reducible refine Below.drew ?_) | (with_reducible refine Below.alloc ?_ (by first | omega | (simp; done) | (simp; omega)) _) | (with_reducible refine Below.setCell ?_ (by first | omega | (simp; done) | (simp; omega)) _)))
  have OW := Lib.hid (show OwnI w0 w.heap.size w.heap.size e (.slice (some ⟨w.heap.size, 0, none⟩) 0 0) [] by rw [hw0]; exact ownI_empty w e)
  have H0 := Lib.hid (H.out.below b0)
  have G0 := Lib.hid (only_of_below b0 (some R))
  clear hw0 b0 H
  go_loopg [5] (msr n s) (fun k v wr => ∃ (l : List (Tr (e + 1))) (st : Rs) (f hi : Nat), k = msr n st ∧ l.length ≤ st.i + 1 ∧ st.i ≤ n ∧ Hid (st.code = 0 → l.length ≤ st.i) ∧ Hid (OwnI wr w.heap.size hi e v l) ∧ Hid (RdS R A n c T st wr) ∧ Hid (w.grownBy wr (some R)) ∧ Hid (EqL T e s f st l))
  case atStart => exact ⟨[], s, T.length + 1, w.heap.size, rfl, Nat.zero_le _, by have := HN.out; omega, fun _ => Nat.zero_le _, OW.out, H0.out, G0.out, Lib.hid eqL_start⟩
  case round =>
    obtain ⟨l, st, f, h9, hgk, hll1, hin, hll0, hown, hrd, hgr, heq⟩ := hrel
    have HGK := Lib.hid hgk
    clear hgk
    obtain ⟨A0, c0, rfl, _, _⟩ := hown.out.slice
    obtain ⟨⟨k0, k1, k2⟩, f1, f2, lR1⟩ := hrd.out.cells
    by_cases h0 : st.code = 0
    · have HC := Lib.hid h0
      have hll : l.length ≤ st.i := hll0.out h0
      have RC := Lib.hid (show RdS R A n c T ⟨st.i, 0⟩ wr by rw [← h0]; exact hrd.out)
      rw [h0] at k2
      by_cases hlt : st.i < n
      · have hbn : decide ((st.i : Int) < (n : Int)) = true := decide_eq_true (by omega)
        have hlT : st.i < T.length := by have := HN.out; omega
        obtain ⟨K, hK⟩ : ∃ K, K = kindT T st.i := ⟨_, rfl⟩
        have HK := Lib.hid hK
        have KQ := Lib.hid (show ∀ q : Nat, Calls Tryd.prog 13 #[.pointer (some ⟨R, 0, none⟩)] (wr.drewN q) (fun e w' => e = .returned (.int .i64 K) ∧ ∃ m, w' = (wr.drewN q).drewN m) from fun q => by rw [hK]; exact l18Kind_any R n c _ T st _ (hrd.out.drewN q) (by omega))
        clear h0 hK
        by_cases h4 : K = 4
        · subst h4
          by_cases h44 : e = 4
          · have hop : decide (0 < o) = false := decide_eq_false (by have := KD.out; omega)
            go_wp2_with fail
            go_quiet ((go_at_call 13; exact quiet_any (KQ.out _)))
            go_upto_region 3 with (fail)
            refine wp_name (fun wz hwz => ?_)
            have Rwz := Lib.hid (show RdS R A n c T ⟨st.i, 0⟩ wz by rw [hwz]; exact (RC.out).drewN _)
            have Gwz := Lib.hid (show w.grownBy wz (some R) by rw [hwz]; exact gr_drewN (hgr.out) _)
            have Owz := Lib.hid (show OwnI wz w.heap.size h9 e (.slice A0 l.length c0) l by rw [hwz]; exact ownI_drewN (hown.out) _)
            clear hwz k0 k1 k2 f1 f2 lR1
            obtain ⟨⟨k0, k1, k2⟩, f1, f2, lR1⟩ := Rwz.out.cells
            simp only [] at k1 k2
            go_wp2_with (first | (go_at_call 13; refine (l18Kind_any R n c _ T ⟨st.i, 0⟩ wz Rwz.out (by omega)).mono ?_; rintro e9 w' ⟨rfl, mm, rfl⟩; rw [← HK.out]) | (go_at_call 32; refine (l18Fail_any R n c _ T ⟨st.i, 0⟩ 5 _ (Rwz.out.drewN _)).mono ?_; rintro e1 w1 ⟨rfl, hr1, hg1⟩))
            have hgz : wz.grownBy w1 (some R) := gr_gr (gr_drewN (gr_refl _ _) _) hg1
            have hE := eqL_end (eqL_bad l heq.out HC.out hlT (fun h => h.2 h44) (fun h => by have := HK.out; omega)) (.inl (show (5 : Int) ≠ 0 by decide))
            go_ret
            exact rlS_end hE (Owz.out.grown hgz (fun k hk => by injection hk with hk; omega)) (show RdS R A n c T ⟨st.i, 5⟩ w1 from hr1) (gr_gr Gwz.out hgz) 0
          · have hE := eqL_end heq.out (.inr (.inr ⟨HK.out.symm, h44⟩))
            have hop : decide (0 < o) = true := decide_eq_true (by have := KD.out; omega)
            go_wp2_with fail
            go_quiet ((go_at_call 13; exact quiet_any (KQ.out _)))
            go_wp2_with fail
            go_ret
            exact rlS_end hE hown.out hrd.out hgr.out _
        · have h4b : (K == 4) = false := by simp [h4]
          by_cases h1 : K = 1
          · subst h1
            go_wp2_with fail
            go_quiet ((go_at_call 13; exact quiet_any (KQ.out _)))
            go_upto_region 3 with (fail)
            refine wp_name (fun wz hwz => ?_)
            have Rwz := Lib.hid (show RdS R A n c T ⟨st.i, 0⟩ wz by rw [hwz]; exact (RC.out).drewN _)
            have Gwz := Lib.hid (show w.grownBy wz (some R) by rw [hwz]; exact gr_drewN (hgr.out) _)
            have Owz := Lib.hid (show OwnI wz w.heap.size h9 e (.slice A0 l.length c0) l by rw [hwz]; exact ownI_drewN (hown.out) _)
            clear hwz k0 k1 k2 f1 f2 lR1
            obtain ⟨⟨k0, k1, k2⟩, f1, f2, lR1⟩ := Rwz.out.cells
            simp only [] at k1 k2
            have SC := Lib.hid (show ∀ mm : Nat, Calls Tryd.prog 34 #[.pointer (some ⟨R, 0, none⟩), .int .i64 o] (wz.drewN mm) (RsS R A n c T e (sX T e st.i) (stmtR T (innerR T e) ⟨st.i, 0⟩).2 (wz.drewN mm)) from fun mm => IS.out R n c A T st.i o (wz.drewN mm) (Rwz.out.drewN mm) hn hT.out hlt KD.out)
            have hzy := Gwz.out.size
            have hh9 : h9 ≤ wz.heap.size := by obtain ⟨_, _, ⟨_, h⟩, _⟩ := Owz.out; exact h
            have HLT := Lib.hid Owz.out.lt
            go_wp2_with (go_at_call 13; refine (l18Kind_any R n c _ T ⟨st.i, 0⟩ wz Rwz.out (by omega)).mono ?_; rintro e9 w' ⟨rfl, mm, rfl⟩; rw [← HK.out])
            refine (SC.out mm).mono ?_
            rintro e1 w1 ⟨x0, x1, x2, x3, x4, st2, rfl, hst, hsti, hr1, hg1⟩
            have hgw : wz.grownBy w1 (some R) := gr_gr (gr_drewN (gr_refl _ _) mm) hg1
            have hs1 := hgw.size
            obtain ⟨xs, hox, hpush⟩ := (Owz.out.grown hgw (fun k hk => by injection hk with hk; omega)).add HLT.out hh9 hs1 (Nat.le_refl _) hsti
            have PU := Lib.hid hpush
            have HONE := Lib.hid hsti.ones
            have HGE := Lib.hid (own_ge hox)
            have HR1 := Lib.hid hr1
            have HG1 := Lib.hid (gr_gr Gwz.out hgw)
            have hs2 : w.heap.size ≤ w1.heap.size := by omega
            obtain ⟨s2, hs2e⟩ : ∃ s2, s2 = sX T e st.i := ⟨_, rfl⟩
            have hst0 : st = ⟨st.i, 0⟩ := by have := HC.out; cases st; simp at this; rw [this]
            have heq2 : EqL T e s f ⟨st.i, 0⟩ l := by rw [← hst0]; exact heq.out
            have hgo := stmtR_goes (innerR_goes (T := T) e) (s := ⟨st.i, 0⟩) hlT
            have E6 := Lib.hid (show ∃ g, EqL T e s g s2 (l ++ [st2]) by
              rw [hs2e]
              cases hb : begW (textT T st.i)
              · have e2 : sX T e st.i = ⟨st.i, 5⟩ := if_neg (by rw [hb]; decide)
                rw [e2]
                exact ⟨0, eqL_bad (st := ⟨st.i, 0⟩) _ heq2 rfl hlT (fun h => h4 (HK.out.trans h.1)) (fun h => by rw [hb] at h; exact absurd h.2 (by decide))⟩
              · have e2 : sX T e st.i = (stmtR T (innerR T e) ⟨st.i, 0⟩).1 := if_pos hb
                rw [e2] at hst ⊢
                exact eqL_step heq2 rfl hlT HK.out.symm hb hst)
            have hi2 : st.i ≤ s2.i ∧ s2.i ≤ n ∧ (s2.code = 0 → st.i + 1 ≤ s2.i) ∧ msr n s2 < gk := by
              rw [hs2e, HGK.out]
              cases hb : begW (textT T st.i)
              · have e2 : sX T e st.i = ⟨st.i, 5⟩ := if_neg (by rw [hb]; decide)
                rw [e2]
                exact ⟨Nat.le_refl _, hin, fun h => absurd (show (5 : Int) = 0 from h) (by decide), msr_fail HC.out⟩
              · have e2 : sX T e st.i = (stmtR T (innerR T e) ⟨st.i, 0⟩).1 := if_pos hb
                rw [e2]
                exact ⟨Nat.le_trans (Nat.le_succ _) hgo.1, by rw [← HN.out]; exact hgo.2, fun _ => hgo.1, msr_step hgo.1 hlt⟩
            rw [← hs2e] at HR1
            have HI2 := Lib.hid hi2
            clear hs2e hst0 heq2 hgo hi2 hst hsti hr1 hg1 hgw hpush
            go_wp2_with (at_builtin; refine wpList_append_rd _ rfl _ _ 23 rfl w.heap.size 61 i0 _ 5 80 Tryd.underlying23 hi hz0 hz1 hz2 rfl (by decide) _ _ _ rfl (hox.alloc _) _ 1 1 _ rfl (rd_lit1 ?c0 rfl) HONE.out ?c3 ?c4 ?c5 ?_)
            try (case c0 => first | rfl | simp)
            case c3 => simp only [maxLen]; omega
            case c4 => omega
            case c5 => first | omega | (simp; omega)
            intro v6 w6 own6 gr6 hat
            have H6 := Lib.hid ((HR1.out.below ((Below.refl _ _).alloc (Nat.le_refl _) _)).own gr6 (fun k hk => by have := HGE.out k hk; omega))
            have G6 := Lib.hid (gr_own (gr_below HG1.out ((Below.refl _ _).alloc (Nat.le_refl _) _)) gr6 HGE.out)
            have O6 := Lib.hid (PU.out _ _ _ own6 ((Below.refl _ _).alloc (Nat.le_refl _) _) gr6 (hat.imp id fun e => e.trans (by simp)))
            clear gr6 own6 hat hox
            go_wp2_with fail
            go_roundg (msr n s2)
            case rel =>
              obtain ⟨g, hg⟩ := E6.out
              obtain ⟨i1, i2, i3, i4⟩ := HI2.out
              exact ⟨l ++ [st2], s2, g, w1.heap.size, rfl, by rw [List.length_append]; show l.length + 1 ≤ _; omega, i2, fun h => by rw [List.length_append]; have := i3 h; show l.length + 1 ≤ _; omega, O6.out, H6.out, G6.out, hg⟩
            case measure => exact HI2.out.2.2.2
          · have h1b : (K == 1) = false := by simp [h1]
            have h1c : (kindT T st.i == 1) = false := by rw [← HK.out]; exact h1b
            go_wp2_with fail
            go_quiet ((go_at_call 13; exact quiet_any (KQ.out _)))
            go_upto_region 3 with (fail)
            refine wp_name (fun wz hwz => ?_)
            have Rwz := Lib.hid (show RdS R A n c T ⟨st.i, 0⟩ wz by rw [hwz]; exact (RC.out).drewN _)
            have Gwz := Lib.hid (show w.grownBy wz (some R) by rw [hwz]; exact gr_drewN (hgr.out) _)
            have Owz := Lib.hid (show OwnI wz w.heap.size h9 e (.slice A0 l.length c0) l by rw [hwz]; exact ownI_drewN (hown.out) _)
            clear hwz k0 k1 k2 f1 f2 lR1
            obtain ⟨⟨k0, k1, k2⟩, f1, f2, lR1⟩ := Rwz.out.cells
            simp only [] at k1 k2
            go_wp2_with (first | (go_at_call 13; refine (l18Kind_any R n c _ T ⟨st.i, 0⟩ wz Rwz.out (by omega)).mono ?_; rintro e9 w' ⟨rfl, mm, rfl⟩; rw [← HK.out]) | (go_at_call 32; refine (l18Fail_any R n c _ T ⟨st.i, 0⟩ 5 _ (Rwz.out.drewN _)).mono ?_; rintro e1 w1 ⟨rfl, hr1, hg1⟩))
            have hgz : wz.grownBy w1 (some R) := gr_gr (gr_drewN (gr_refl _ _) _) hg1
            have hE := eqL_end (eqL_bad l heq.out HC.out hlT (fun h => h4 (HK.out.trans h.1)) (fun h => h1 (HK.out.trans h.1))) (.inl (show (5 : Int) ≠ 0 by decide))
            go_ret
            exact rlS_end hE (Owz.out.grown hgz (fun k hk => by injection hk with hk; omega)) (show RdS R A n c T ⟨st.i, 5⟩ w1 from hr1) (gr_gr Gwz.out hgz) 0
      · have hin2 : st.i = n := by omega
        have hbn : decide ((st.i : Int) < (n : Int)) = false := decide_eq_false (by omega)
        have hE := eqL_end heq.out (.inr (.inl (by have := HN.out; omega)))
        clear hin2
        go_wp2_with fail
        go_quiet (fail)
        go_wp2_with fail
        go_ret
        exact rlS_end hE hown.out hrd.out hgr.out _
    · have hE := eqL_end heq.out (.inl h0)
      have d0 : (st.code == 0) = false := by simp [h0]
      go_wp2_with fail
      go_quiet (fail)
      go_wp2_with fail
      go_ret
      exact rlS_end hE hown.out hrd.out hgr.out _
set_option maxRecDepth 100000 in
set_option maxHeartbeats 1000000 in
theorem inner_zeroS : InnerS 0 := by
  intro R n c A T s k w h hn hT0 hc hk
  have h0 : s.code ≠ 0 := hc rfl
  obtain ⟨⟨k0, k1, k2⟩, f1, f2, lR⟩ := h.cells
  have H := Lib.hid h
  have d0 : (s.code == 0) = false := by simp [h0]
  clear h hc hk h0
  go_enter Tryd.func15, Tryd.ntmps15
  go_wp2_with fail
  refine wp_loop_rounds 1 ?_
  rw [rounds_succ]
  go_wp2_with fail
  have B0 : Below w.heap.size w (w.alloc (.cells #[] 61)) := (Below.refl _ _).alloc (Nat.le_refl _) _
  obtain ⟨⟨p0, p1, p2⟩, e1, e2, lR1⟩ := (H.out.below B0).cells
  go_quiet (fail)
  go_wp2_with fail
  go_ret
  exact ⟨_, 0, 0, [], rfl, fun _ => rfl, trI_nil, (H.out.below B0).drewN _, gr_drewN (gr_below (gr_refl _ _) B0) _⟩
theorem inner_succS (e : Nat) (he : e ≤ 3) (h : StmtsS e) : InnerS (e + 1) := by
  intro R n c A T s k w h1 h4 h5 _ h6
  have e1 : innerR T (e + 1) s = Lp T e (T.length + 1) s := by
    have hd : decide (e = 4) = false := decide_eq_false (by omega)
    unfold Lp
    rw [hd]
    rfl
  rw [e1]
  exact h R n c A T s k w h1 h4 h5 (by omega)
end Go.Proofs.YthkbckkghnbonaaDoor
namespace Go.Proofs.YthkbckkghnbonaaDoor
open Go.RowKit
set_option linter.unusedVariables false
theorem headR_no {T : List Tk} (h : ¬ (kindT T 0 = 1 ∧ (textT T 0).toList = [113, 117, 98, 105, 116, 115])) : headR T = (⟨0, 2⟩, []) := if_neg h
theorem headR_yes {T : List Tk} (h : kindT T 0 = 1 ∧ (textT T 0).toList = [113, 117, 98, 105, 116, 115]) : headR T = ((qR T 3 (takeR T ⟨1, 0⟩ 1 3).1).1, (takeR T ⟨1, 0⟩ 1 3).2 :: (qR T 3 (takeR T ⟨1, 0⟩ 1 3).1).2) := if_pos h
theorem qR_end {T : List Tk} {m : Nat} {s : Rs} (h : ¬ (s.code = 0 ∧ kindT T s.i = 1)) : qR T m s = ((takeR T s 2 4).1, []) := by
  cases m
  · rw [qR, if_neg h]
  · rw [qR, if_neg h]
theorem qR_full {T : List Tk} {s : Rs} (h : s.code = 0 ∧ kindT T s.i = 1) : qR T 0 s = (⟨s.i, 10⟩, []) := by rw [qR, if_pos h]
theorem qR_more {T : List Tk} {m : Nat} {s : Rs} (h : s.code = 0 ∧ kindT T s.i = 1) : qR T (m + 1) s = ((qR T m (takeR T s 1 3).1).1, (takeR T s 1 3).2 :: (qR T m (takeR T s 1 3).1).2) := by
  rw [qR, if_pos h, takeR_yes h.1 h.2]
/-- So many qubits have been read. -/
def HqL (T : List Tk) (m : Nat) (st : Rs) (Q : List ByteArray) : Prop := Q.length + m = 4 ∧ headR T = ((qR T m st).1, Q ++ (qR T m st).2)
theorem hqL_more {T : List Tk} {m : Nat} {st : Rs} {Q : List ByteArray} (h : HqL T (m + 1) st Q) (h1 : st.code = 0 ∧ kindT T st.i = 1) : HqL T m (takeR T st 1 3).1 (Q ++ [(takeR T st 1 3).2]) := by
  refine ⟨by rw [List.length_append]; have := h.1; show Q.length + 1 + m = 4; omega, ?_⟩
  rw [h.2, qR_more h1]
  simp
theorem strs_ones (l : List ByteArray) : ∀ u ∈ strs l, u.oneCell' = true := by
  intro u hu
  obtain ⟨x, _, rfl⟩ := List.mem_map.1 hu
  rfl
def RhI (R : Nat) (A : Option Addr) (n c : Nat) (T : List Tk) (o : Int) (s : Rs) (Q : List ByteArray) (w : World) (e : Ending) (w' : World) : Prop :=
  ∃ A' n' c' Q', e = .returned (.slice A' n' c') ∧ (s.code = 0 → Q' = Q) ∧ SlI w' w.heap.size w'.heap.size 1 A' n' (strs Q') ∧ n' ≤ c' ∧ c' ≤ maxLen ∧ RdI R A n c T o s w' ∧ w.grownBy w' (some R)
set_option maxRecDepth 100000 in
set_option maxHeartbeats 4000000 in
theorem header_any (R n c : Nat) (A : Option Addr) (T : List Tk) (o : Int) (w : World) (h : RdI R A n c T o ⟨0, 0⟩ w) (hn : n ≤ 160) : Calls Tryd.prog 17 #[.pointer (some ⟨R, 0, none⟩)] w (RhI R A n c T o (headR T).1 (headR T).2 w) := by
  obtain ⟨i0, hi, hz0, hz1, hz2⟩ := info_parts info_str
  obtain ⟨⟨k0, k1, ko, k2⟩, ⟨f1, f3, f2⟩, lR⟩ := h.cells
  simp only [] at k1 k2
  have H := Lib.hid h
  by_cases hk : kindT T 0 = 1
  · have HK := Lib.hid hk
    have hlt : 0 < T.length := kindT_lt (by rw [hk]; decide)
    have hn0 : 0 < n := by have := h.l; omega
    obtain ⟨b, off, rfl, hbR, hbl, q0, q1⟩ := h.tok hn0
    have q1' : w.cell? ⟨b, off + 1, none⟩ = some (.string (textT T 0)) := by have := q1; simpa using this
    have hnb : b ≠ R := by omega
    by_cases hq : (textT T 0).toList = [113, 117, 98, 105, 116, 115]
    · have e1 : ((textT T 0).toList == [113, 117, 98, 105, 116, 115]) = true := by rw [hq]; rfl
      have HY := Lib.hid (headR_yes ⟨hk, hq⟩)
      have hlt1 : 1 ≤ T.length := hlt
      clear h hk hq q0 q1
      go_enter Tryd.func17, Tryd.ntmps17
      go_wp2_with (go_at_call 37; refine (kind_any R n c _ T o ⟨0, 0⟩ w H.out (by omega)).mono ?_; rintro e w' ⟨rfl, m, rfl⟩; rw [HK.out])
      obtain ⟨w0, hw0⟩ : ∃ w0, w0 = (w.drewN m).setCell ⟨R, 1, none⟩ (.int .i64 1) := ⟨_, rfl⟩
      rw [← hw0]
      have H0 : RdI R (some ⟨b, off, none⟩) n c T o ⟨1, 0⟩ w0 := by rw [hw0]; exact (H.out.drewN m).atv (i := 1) (v := 1) hlt1 rfl
      have G0 : w.grownBy w0 (some R) := by rw [hw0]; exact gr_gr (gr_drewN (gr_refl _ _) m) (gr_set _)
      have hz0w : w.heap.size ≤ w0.heap.size := G0.size
      clear hw0
      refine (names_any R n c _ T o ⟨1, 0⟩ 1 w0 H0 (by omega) (by omega)).mono ?_
      rintro e w1 ⟨A1, c1, rfl, ho, hr, hg⟩
      have hr1 : RdI R (some ⟨b, off, none⟩) n c T o (takeR T ⟨1, 0⟩ 1 3).1 w1 := hr
      have ho1 : w1.ownsRow w.heap.size 9 1 (.slice A1 1 c1) 1 (strs [(takeR T ⟨1, 0⟩ 1 3).2]) := own_lowT ho hz0w
      have HQ1 : HqL T 3 (takeR T ⟨1, 0⟩ 1 3).1 [(takeR T ⟨1, 0⟩ 1 3).2] := ⟨rfl, HY.out⟩
      have H1 := Lib.hid hr1
      have O1 := Lib.hid ho1
      have G1 := Lib.hid (gr_gr G0 hg)
      have Q1 := Lib.hid HQ1
      obtain ⟨s1, hs1⟩ : ∃ s1, s1 = (takeR T ⟨1, 0⟩ 1 3).1 := ⟨_, rfl⟩
      obtain ⟨x1, hx1⟩ : ∃ x1, x1 = (takeR T ⟨1, 0⟩ 1 3).2 := ⟨_, rfl⟩
      rw [← hs1] at H1 Q1
      rw [← hx1] at Q1 O1
      have hsn : s1.i ≤ n := by have := hr1.i; have := hr1.l; rw [hs1]; omega
      clear hr hr1 ho ho1 hg HQ1 G0 H0 hs1 hx1 hz0w
      go_wp2_with fail
      go_loopg [3] (msr n s1) (fun k v wr => ∃ (Q : List ByteArray) (st : Rs) (m : Nat), k = msr n st ∧ m ≤ 3 ∧ st.i ≤ n ∧ Hid (Q.length + m = 4) ∧ Hid (wr.ownsRow w.heap.size 9 1 v Q.length (strs Q)) ∧ Hid (RdI R (some ⟨b, off, none⟩) n c T o st wr) ∧ Hid (w.grownBy wr (some R)) ∧ Hid (HqL T m st Q))
      case atStart => exact ⟨[x1], s1, 3, rfl, Nat.le_refl _, hsn, rfl, O1.out, H1.out, G1.out, Q1.out⟩
      case round =>
        obtain ⟨Q, st, m, hgk, hm3, hin, hql, hown, hrd, hgr, heq⟩ := hrel
        have HGK := Lib.hid hgk
        clear hgk k0 k1 ko k2 f1 f2 f3 lR
        obtain ⟨A0, c0, rfl, hc0, hcm, _⟩ := rd_of_own hown.out
        have HC0 := Lib.hid hc0
        have HCM := Lib.hid hcm
        obtain ⟨⟨k0, k1, ko, k2⟩, ⟨f1, f3, f2⟩, lR⟩ := hrd.out.cells
        have lR0 : R < w.heap.size := H.out.cells.2.2
        obtain ⟨q, hq⟩ : ∃ q, q = Q.length := ⟨_, rfl⟩
        rw [← hq] at hql hown HC0
        have HQ := Lib.hid hq
        rw [← hq]
        clear hq hc0 hcm
        by_cases h0 : st.code = 0
        · by_cases h1 : kindT T st.i = 1
          · have hlt : st.i < T.length := kindT_lt (by rw [h1]; decide)
            have hltn : st.i < n := by have := hrd.out.l; omega
            have HK1 := Lib.hid h1
            have h01 := Lib.hid (And.intro h0 h1)
            have HC := Lib.hid h0
            rw [h0] at k2
            clear h0 h1
            cases m with
            | zero =>
              have hq4 : q = 4 := by have := hql.out; omega
              subst hq4
              have HE : Hid ((headR T).1 = ⟨st.i, 10⟩) := by show (headR T).1 = _; rw [heq.out.2, qR_full h01.out]
              have HF := Lib.hid (failR_0 HC.out 10)
              go_wp2_with (first | (go_at_call 37; refine (kind_any R n c _ T o st _ hrd.out (by omega)).mono ?_; rintro e w' ⟨rfl, mm, rfl⟩; rw [HK1.out]) | (go_at_call 38; refine (fail_any R n c _ T o st 10 _ (hrd.out.drewN _)).mono ?_; rintro e w2 ⟨rfl, hr, hg⟩))
              go_ret
              refine ⟨none, 0, 0, [], rfl, fun h => ?_, slI_none, Nat.le_refl _, Nat.zero_le _, ?_, gr_gr (gr_drewN hgr.out _) hg⟩
              · rw [HE.out] at h
                exact absurd (show (10 : Int) = 0 from h) (by decide)
              · rw [HE.out, ← HF.out]
                exact hr
            | succ m =>
              have hq4 : ((q : Int) == 4) = false := by have := hql.out; simp; omega
              have hq3 : q ≤ 3 := by have := hql.out; omega
              go_wp2_with (go_at_call 37; refine (kind_any R n c _ T o st _ hrd.out (by omega)).mono ?_; rintro e w' ⟨rfl, mm, rfl⟩; rw [HK1.out])
              refine (names_any R n c _ T o st 1 _ (hrd.out.drewN mm) (by omega) (by omega)).mono ?_
              rintro e w2 ⟨A2, c2, rfl, ho, hr, hg⟩
              have hr2 : RdI R (some ⟨b, off, none⟩) n c T o (takeR T st 1 3).1 w2 := hr
              have ho2 : w2.ownsRow (wr.drewN mm).heap.size 9 1 (.slice A2 1 c2) 1 (strs [(takeR T st 1 3).2]) := ho
              have hown2 := own_drawG (own_drewNG hown.out mm) hg lR0
              have hgw : wr.grownBy w2 (some R) := gr_gr (gr_drewN (gr_refl _ _) mm) hg
              have hs2 := (gr_gr hgr.out hgw).size
              have H2 := Lib.hid hr2
              have G2 := Lib.hid (gr_gr hgr.out hgw)
              have HGE := Lib.hid (own_ge hown2)
              have hi2 : (takeR T st 1 3).1.i ≤ n := by have := hr2.i; have := hr2.l; omega
              have HMS := Lib.hid (show msr n (takeR T st 1 3).1 < msr n st by rw [takeR_yes h01.out.1 h01.out.2]; exact msr_step (Nat.le_refl _) hltn)
              have HQN := Lib.hid (hqL_more heq.out h01.out)
              clear hr hr2 ho hg hgw
              go_wp2_with (at_builtin; refine wpList_append_rd _ rfl _ _ 22 rfl w.heap.size 9 i0 _ 1 16 Tryd.underlying22 hi hz0 hz1 hz2 rfl (by decide) _ _ _ rfl hown2 _ 1 _ _ rfl (rd_own ho2) (strs_ones _) ?c3 ?c4 ?c5 ?_)
              case c3 => simp only [maxLen]; omega
              case c4 => omega
              case c5 => omega
              intro v6 w6 own6 gr6 hat
              have H6 := Lib.hid (H2.out.own gr6 (fun k hk => by have := HGE.out k hk; omega))
              have G6 := Lib.hid (gr_own G2.out gr6 HGE.out)
              have O6 := Lib.hid own6
              clear gr6 own6 hat hown2 ho2
              go_wp2_with fail
              go_roundg (msr n (takeR T st 1 3).1)
              case rel => exact ⟨Q ++ [(takeR T st 1 3).2], (takeR T st 1 3).1, m, rfl, by omega, hi2, HQN.out.1, by rw [List.length_append, ← HQ.out, strs_snoc1]; exact O6.out, H6.out, G6.out, HQN.out⟩
              case measure => rw [HGK.out]; exact HMS.out
          · have d1 : (kindT T st.i == 1) = false := by simp [h1]
            have hno : ¬ (st.code = 0 ∧ kindT T st.i = 1) := fun h => h1 h.2
            rw [h0] at k2
            have HE : Hid (headR T = ((takeR T st 2 4).1, Q)) := by show headR T = _; rw [heq.out.2, qR_end hno, List.append_nil]
            go_wp2_with (first | (go_at_call 37; refine (kind_any R n c _ T o st _ hrd.out (by omega)).mono ?_; rintro e w' ⟨rfl, mm, rfl⟩) | (go_at_call 40; refine (take_any R n c _ T o st 2 4 _ (hrd.out.drewN _) (by omega) (by decide)).mono ?_; rintro e w2 ⟨rfl, hr, hg⟩))
            have hgw : wr.grownBy w2 (some R) := gr_gr (gr_drewN (gr_refl _ _) _) hg
            have hs2 := hgw.size
            have ow2 := own_drawG hown.out hgw lR0
            go_ret
            rw [HE.out]
            exact ⟨A0, q, c0, Q, rfl, fun _ => rfl, (slI_of_own ow2).wide (Nat.le_refl _) (Nat.le_refl _), HC0.out, HCM.out, hr, gr_gr hgr.out hgw⟩
        · have d1 : (st.code == 0) = false := by simp [h0]
          have hno : ¬ (st.code = 0 ∧ kindT T st.i = 1) := fun h => h0 h.1
          have HE : Hid (headR T = ((takeR T st 2 4).1, Q)) := by show headR T = _; rw [heq.out.2, qR_end hno, List.append_nil]
          go_wp2_with (go_at_call 40; refine (take_any R n c _ T o st 2 4 _ hrd.out (by omega) (by decide)).mono ?_; rintro e w2 ⟨rfl, hr, hg⟩)
          have hgw : wr.grownBy w2 (some R) := hg
          have hs2 := hgw.size
          have ow2 := own_drawG hown.out hgw lR0
          go_ret
          rw [HE.out]
          exact ⟨A0, q, c0, Q, rfl, fun _ => rfl, (slI_of_own ow2).wide (Nat.le_refl _) (Nat.le_refl _), HC0.out, HCM.out, hr, gr_gr hgr.out hgw⟩
    · have e1 : ((textT T 0).toList == [113, 117, 98, 105, 116, 115]) = false := by rw [beq_eq_false_iff_ne]; exact hq
      have HE := Lib.hid (headR_no (T := T) (fun h => hq h.2))
      clear h hk hq q0 q1
      go_enter Tryd.func17, Tryd.ntmps17
      go_wp2_with (first | (go_at_call 37; refine (kind_any R n c _ T o ⟨0, 0⟩ w H.out (by omega)).mono ?_; rintro e w' ⟨rfl, m, rfl⟩; rw [HK.out]) | (go_at_call 38; refine (fail_any R n c _ T o ⟨0, 0⟩ 2 _ (H.out.drewN _)).mono ?_; rintro e w1 ⟨rfl, hr, hg⟩))
      go_ret
      rw [HE.out]
      exact ⟨none, 0, 0, [], rfl, fun _ => rfl, slI_none, Nat.le_refl _, Nat.zero_le _, hr, gr_gr (gr_drewN (gr_refl _ _) _) hg⟩
  · have d1 : (kindT T 0 == 1) = false := by simp [hk]
    have d2 : (kindT T 0 != 1) = true := by simp [hk]
    have HE := Lib.hid (headR_no (T := T) (fun h => hk h.1))
    clear h hk
    go_enter Tryd.func17, Tryd.ntmps17
    go_wp2_with (first | (go_at_call 37; refine (kind_any R n c _ T o ⟨0, 0⟩ w H.out (by omega)).mono ?_; rintro e w' ⟨rfl, m, rfl⟩) | (go_at_call 38; refine (fail_any R n c _ T o ⟨0, 0⟩ 2 _ (H.out.drewN _)).mono ?_; rintro e w1 ⟨rfl, hr, hg⟩))
    go_ret
    rw [HE.out]
    exact ⟨none, 0, 0, [], rfl, fun _ => rfl, slI_none, Nat.le_refl _, Nat.zero_le _, hr, gr_gr (gr_drewN (gr_refl _ _) _) hg⟩
end Go.Proofs.YthkbckkghnbonaaDoor
namespace Go.Proofs.YthkbckkghnbonaaDoor
open Go.RowKit
set_option linter.unusedVariables false
def HqS (T : List Tk) (st : Rs) (Q : List ByteArray) : Prop := (Q = [] ∧ st = ⟨1, 0⟩) ∨ (1 ≤ Q.length ∧ ∃ m, m ≤ 3 ∧ HqL T m st Q)
theorem hqS_full {T : List Tk} {st : Rs} {Q : List ByteArray} (h : HqS T st Q) (h4 : Q.length = 4) (h1 : st.code = 0 ∧ kindT T st.i = 1) : (headR T).1 = ⟨st.i, 10⟩ := by
  rcases h with ⟨rfl, _⟩ | ⟨_, m, _, hm, he⟩
  · simp at h4
  · have : m = 0 := by omega
    subst this
    rw [he, qR_full h1]
theorem hqS_more {T : List Tk} {st : Rs} {Q : List ByteArray} (hh : kindT T 0 = 1 ∧ (textT T 0).toList = [113, 117, 98, 105, 116, 115]) (h : HqS T st Q) (h4 : Q.length ≠ 4) (h1 : st.code = 0 ∧ kindT T st.i = 1) : HqS T (takeR T st 1 3).1 (Q ++ [(takeR T st 1 3).2]) := by
  right
  rcases h with ⟨rfl, rfl⟩ | ⟨h0, m, hm3, hm⟩
  · exact ⟨by simp, 3, Nat.le_refl _, rfl, headR_yes hh⟩
  · obtain ⟨m, rfl⟩ : ∃ m', m = m' + 1 := ⟨m - 1, by have := hm.1; omega⟩
    exact ⟨by rw [List.length_append]; omega, m, by omega, hqL_more hm h1⟩
theorem hqS_end {T : List Tk} {st : Rs} {Q : List ByteArray} (h : HqS T st Q) (hQ : 1 ≤ Q.length) (hno : ¬ (st.code = 0 ∧ kindT T st.i = 1)) : headR T = ((takeR T st 2 4).1, Q) := by
  rcases h with ⟨rfl, _⟩ | ⟨_, m, _, hm⟩
  · simp at hQ
  · rw [hm.2, qR_end hno, List.append_nil]
theorem hqS_none {T : List Tk} {st : Rs} (hh : kindT T 0 = 1 ∧ (textT T 0).toList = [113, 117, 98, 105, 116, 115]) (h : HqS T st []) (hno : ¬ (st.code = 0 ∧ kindT T st.i = 1)) : (headR T).1 = (takeR T (failR st 3) 2 4).1 ∧ (headR T).1.code ≠ 0 := by
  rcases h with ⟨_, rfl⟩ | ⟨h, _⟩
  · have e : (headR T).1 = (takeR T (failR ⟨1, 0⟩ 3) 2 4).1 := by
      rw [headR_yes hh, takeR_no hno, qR_end (fun h => absurd h.1 (failR_ne (by decide)))]
    refine ⟨e, ?_⟩
    rw [e, takeR_keep (failR_ne (by decide))]
    exact failR_ne (by decide)
  · simp at h
def RhS (R : Nat) (A : Option Addr) (n c : Nat) (T : List Tk) (s : Rs) (Q : List ByteArray) (w : World) (e : Ending) (w' : World) : Prop :=
  ∃ A' n' c' Q', e = .returned (.slice A' n' c') ∧ (s.code = 0 → Q' = Q) ∧ SlI w' w.heap.size w'.heap.size 1 A' n' (strs Q') ∧ n' ≤ c' ∧ c' ≤ maxLen ∧ RdS R A n c T s w' ∧ w.grownBy w' (some R)
set_option maxRecDepth 100000 in
set_option maxHeartbeats 4000000 in
theorem l18Names_any (R n c : Nat) (A : Option Addr) (T : List Tk) (w : World) (h : RdS R A n c T ⟨1, 0⟩ w) (hn : n ≤ 160) (hh0 : kindT T 0 = 1 ∧ (textT T 0).toList = [113, 117, 98, 105, 116, 115]) : Calls Tryd.prog 14 #[.pointer (some ⟨R, 0, none⟩)] w (RhS R A n c T (headR T).1 (headR T).2 w) := by
  obtain ⟨i0, hi, hz0, hz1, hz2⟩ := info_parts info_str
  have lR0 := h.cells.2.2.2
  have hn1 : 1 ≤ n := by have h1 := h.i; have h2 := h.l; simp only [] at h1; omega
  have H := Lib.hid h
  have HH := Lib.hid hh0
  clear h hh0
  go_enter Tryd.func14, Tryd.ntmps14
  go_wp2_with fail
  obtain ⟨w0, hw0⟩ : ∃ w0, w0 = w.alloc (.cells #[] 9) := ⟨_, rfl⟩
  rw [← hw0]
  have b0 : Below w.heap.size w w0 := by rw [hw0]; exact (by repeat (first | exact Below.refl _ _ | assumption | (refine Below.trans ?_ (Below.mono (by assumption) (by first | omega | (simp; done) | (simp; omega)))) | (with_reducible refine Below.drew ?_) | (with_reducible refine Below.alloc ?_ (by first | omega | (simp; done) | (simp; omega)) _) | (with_reducible refine Below.setCell ?_ (by first | omega | (simp; done) | (simp; omega)) _)))
  have OW := Lib.hid (show w0.ownsRow w.heap.size 9 1 (.slice (some ⟨w.heap.size, 0, none⟩) 0 0) 0 [] by rw [hw0]; exact own_empty _ _ _)
  have H0 := Lib.hid (H.out.below b0)
  have G0 := Lib.hid (only_of_below b0 (some R))
  clear hw0 b0
  go_loopg [3] (msr n ⟨1, 0⟩) (fun k v wr => ∃ (Q : List ByteArray) (st : Rs), k = msr n st ∧ st.i ≤ n ∧ Hid (Q.length ≤ 4) ∧ Hid (wr.ownsRow w.heap.size 9 1 v Q.length (strs Q)) ∧ Hid (RdS R A n c T st wr) ∧ Hid (w.grownBy wr (some R)) ∧ Hid (HqS T st Q))
  case atStart => exact ⟨[], ⟨1, 0⟩, rfl, hn1, Nat.zero_le _, OW.out, H0.out, G0.out, .inl ⟨rfl, rfl⟩⟩
  case round =>
    obtain ⟨Q, st, hgk, hin, hql, hown, hrd, hgr, heq⟩ := hrel
    have HGK := Lib.hid hgk
    clear hgk
    obtain ⟨A0, c0, rfl, hc0, hcm, _⟩ := rd_of_own hown.out
    have HC0 := Lib.hid hc0
    have HCM := Lib.hid hcm
    obtain ⟨⟨k0, k1, k2⟩, f1, f2, lR⟩ := hrd.out.cells
    obtain ⟨q, hq⟩ : ∃ q, q = Q.length := ⟨_, rfl⟩
    rw [← hq] at hql hown HC0
    have HQ := Lib.hid hq
    rw [← hq]
    clear hq hc0 hcm
    by_cases h01 : st.code = 0 ∧ kindT T st.i = 1
    · obtain ⟨h0, h1⟩ := h01
      have hlt : st.i < T.length := kindT_lt (by rw [h1]; decide)
      have hltn : st.i < n := by have := hrd.out.l; omega
      have HK1 := Lib.hid h1
      have h01 := Lib.hid (And.intro h0 h1)
      have HC := Lib.hid h0
      rw [h0] at k2
      clear h0 h1
      by_cases hq4 : q = 4
      · have HE := Lib.hid (hqS_full heq.out (by rw [← HQ.out]; exact hq4) h01.out)
        have HF := Lib.hid (failR_0 HC.out 10)
        have hq4b : ((q : Int) == 4) = true := by simp [hq4]
        clear hq4
        go_wp2_with (first | (go_at_call 13; refine (l18Kind_any R n c _ T st _ hrd.out (by omega)).mono ?_; rintro e w' ⟨rfl, mm, rfl⟩; rw [HK1.out]) | (go_at_call 32; refine (l18Fail_any R n c _ T st 10 _ (hrd.out.drewN _)).mono ?_; rintro e w2 ⟨rfl, hr, hg⟩))
        have hgw : wr.grownBy w2 (some R) := gr_gr (gr_drewN (gr_refl _ _) _) hg
        have ow2 := own_drawG hown.out hgw lR0
        go_ret
        refine ⟨A0, q, c0, Q, rfl, fun h => ?_, (slI_of_own ow2).wide (Nat.le_refl _) (Nat.le_refl _), HC0.out, HCM.out, ?_, gr_gr hgr.out hgw⟩
        · rw [HE.out] at h
          exact absurd (show (10 : Int) = 0 from h) (by decide)
        · rw [HE.out, ← HF.out]
          exact hr
      · have hq4b : ((q : Int) == 4) = false := by simp; omega
        have hq3 : q ≤ 3 := by have := hql.out; omega
        have HQN := Lib.hid (hqS_more HH.out heq.out (by rw [← HQ.out]; exact hq4) h01.out)
        go_wp2_with (go_at_call 13; refine (l18Kind_any R n c _ T st _ hrd.out (by omega)).mono ?_; rintro e w' ⟨rfl, mm, rfl⟩; rw [HK1.out])
        refine (l18Take_any R n c _ T st 1 3 _ (hrd.out.drewN mm) (by omega) (by decide)).mono ?_
        rintro e w2 ⟨rfl, hr, hg⟩
        have hown2 := own_drawG (own_drewNG hown.out mm) hg lR0
        have hgw : wr.grownBy w2 (some R) := gr_gr (gr_drewN (gr_refl _ _) mm) hg
        have hs2 := (gr_gr hgr.out hgw).size
        have H2 := Lib.hid hr
        have G2 := Lib.hid (gr_gr hgr.out hgw)
        have HGE := Lib.hid (own_ge hown2)
        have hi2 : (takeR T st 1 3).1.i ≤ n := by have := hr.i; have := hr.l; omega
        have HMS := Lib.hid (show msr n (takeR T st 1 3).1 < msr n st by rw [takeR_yes h01.out.1 h01.out.2]; exact msr_step (Nat.le_refl _) hltn)
        clear hr hg hgw
        go_wp2_with (at_builtin; refine wpList_append_rd _ rfl _ _ 22 rfl w.heap.size 9 i0 _ 1 16 Tryd.underlying22 hi hz0 hz1 hz2 rfl (by decide) _ _ _ rfl (hown2.alloc _) _ 1 1 _ rfl (rd_lit1 ?c0 rfl) (one_strN _) ?c3 ?c4 ?c5 ?_)
        try (case c0 => first | rfl | simp)
        case c3 => simp only [maxLen]; omega
        case c4 => omega
        case c5 => first | omega | (simp; omega)
        intro v6 w6 own6 gr6 hat
        have H6 := Lib.hid ((H2.out.below ((Below.refl _ _).alloc (Nat.le_refl _) _)).own gr6 (fun k hk => by have := HGE.out k hk; omega))
        have G6 := Lib.hid (gr_own (gr_below G2.out ((Below.refl _ _).alloc (Nat.le_refl _) _)) gr6 HGE.out)
        have O6 := Lib.hid own6
        clear gr6 own6 hat hown2
        go_wp2_with fail
        go_roundg (msr n (takeR T st 1 3).1)
        case rel => exact ⟨Q ++ [(takeR T st 1 3).2], (takeR T st 1 3).1, rfl, hi2, by rw [List.length_append, ← HQ.out]; show q + 1 ≤ 4; omega, by rw [List.length_append, ← HQ.out, strs_snoc1]; exact O6.out, H6.out, G6.out, HQN.out⟩
        case measure => rw [HGK.out]; exact HMS.out
    · have HNO := Lib.hid h01
      obtain ⟨wz, hwz⟩ : ∃ wz : World, wz = wr := ⟨_, rfl⟩
      by_cases hq0 : q = 0
      · have hQ0 : Q = [] := List.eq_nil_of_length_eq_zero (by rw [← HQ.out]; exact hq0)
        have hs0 := hqS_none HH.out (by rw [← hQ0]; exact heq.out) h01
        have HE := Lib.hid hs0
        have hq0b : ((q : Int) == 0) = true := by simp [hq0]
        clear hs0 hq0 hQ0 hwz
        by_cases h0 : st.code = 0
        · have d1 : (kindT T st.i == 1) = false := by simp; exact fun h => h01 ⟨h0, h⟩
          rw [h0] at k2
          clear h01
          go_wp2_with (first | (go_at_call 13; refine (l18Kind_any R n c _ T st _ hrd.out (by omega)).mono ?_; rintro e w' ⟨rfl, mm, rfl⟩) | (go_at_call 32; refine (l18Fail_any R n c _ T st 3 _ (hrd.out.drewN _)).mono ?_; rintro e w2 ⟨rfl, hr, hg⟩))
          refine (l18Take_any R n c _ T _ 2 4 _ hr (by omega) (by decide)).mono ?_
          rintro e w3 ⟨rfl, hr3, hg3⟩
          have hgw : wr.grownBy w3 (some R) := gr_gr (gr_gr (gr_drewN (gr_refl _ _) _) hg) hg3
          have ow3 := own_drawG hown.out hgw lR0
          go_wp2_with fail
          go_ret
          exact ⟨A0, q, c0, Q, rfl, fun h => absurd h HE.out.2, (slI_of_own ow3).wide (Nat.le_refl _) (Nat.le_refl _), HC0.out, HCM.out, by rw [HE.out.1]; exact hr3, gr_gr hgr.out hgw⟩
        · have d1 : (st.code == 0) = false := by simp [h0]
          clear h01
          go_wp2_with (go_at_call 32; refine (l18Fail_any R n c _ T st 3 _ hrd.out).mono ?_; rintro e w2 ⟨rfl, hr, hg⟩)
          refine (l18Take_any R n c _ T _ 2 4 _ hr (by omega) (by decide)).mono ?_
          rintro e w3 ⟨rfl, hr3, hg3⟩
          have hgw : wr.grownBy w3 (some R) := gr_gr hg hg3
          have ow3 := own_drawG hown.out hgw lR0
          go_wp2_with fail
          go_ret
          exact ⟨A0, q, c0, Q, rfl, fun h => absurd h HE.out.2, (slI_of_own ow3).wide (Nat.le_refl _) (Nat.le_refl _), HC0.out, HCM.out, by rw [HE.out.1]; exact hr3, gr_gr hgr.out hgw⟩
      · have hq0b : ((q : Int) == 0) = false := by simp; omega
        have HE := Lib.hid (hqS_end heq.out (by rw [← HQ.out]; omega) h01)
        clear hwz
        by_cases h0 : st.code = 0
        · have d1 : (kindT T st.i == 1) = false := by simp; exact fun h => h01 ⟨h0, h⟩
          rw [h0] at k2
          clear h01
          go_wp2_with (go_at_call 13; refine (l18Kind_any R n c _ T st _ hrd.out (by omega)).mono ?_; rintro e w' ⟨rfl, mm, rfl⟩)
          refine (l18Take_any R n c _ T st 2 4 _ (hrd.out.drewN mm) (by omega) (by decide)).mono ?_
          rintro e w3 ⟨rfl, hr3, hg3⟩
          have hgw : wr.grownBy w3 (some R) := gr_gr (gr_drewN (gr_refl _ _) _) hg3
          have ow3 := own_drawG hown.out hgw lR0
          go_wp2_with fail
          go_ret
          rw [HE.out]
          exact ⟨A0, q, c0, Q, rfl, fun _ => rfl, (slI_of_own ow3).wide (Nat.le_refl _) (Nat.le_refl _), HC0.out, HCM.out, hr3, gr_gr hgr.out hgw⟩
        · have d1 : (st.code == 0) = false := by simp [h0]
          clear h01
          go_wp2_with fail
          refine (l18Take_any R n c _ T st 2 4 _ hrd.out (by omega) (by decide)).mono ?_
          rintro e w3 ⟨rfl, hr3, hg3⟩
          have ow3 := own_drawG hown.out hg3 lR0
          go_wp2_with fail
          go_ret
          rw [HE.out]
          exact ⟨A0, q, c0, Q, rfl, fun _ => rfl, (slI_of_own ow3).wide (Nat.le_refl _) (Nat.le_refl _), HC0.out, HCM.out, hr3, gr_gr hgr.out hg3⟩
end Go.Proofs.YthkbckkghnbonaaDoor
namespace Go.Proofs.YthkbckkghnbonaaDoor
open Go.RowKit
set_option linter.unusedVariables false
theorem cells2 {w w' : World} {b : Nat} {x0 x1 : Value} {t : TypeId} (lay : Below w'.heap.size w' w) (h : w'.heap[b]? = some (.cells #[x0, x1] t (0, 0))) :
    w.cell? ⟨b, 0, none⟩ = some x0 ∧ w.cell? ⟨b, 1, none⟩ = some x1 := by
  have h' : w.heap[b]? = some (.cells #[x0, x1] t (0, 0)) := (lay.block b (lt_of_block h)).trans h
  exact ⟨by simp [World.cell?, h'], by simp [World.cell?, h']⟩
theorem isEmpty_size {s : ByteArray} (h : 1 ≤ s.size) : s.toList.isEmpty = false := by
  rw [List.isEmpty_eq_false_iff]
  intro e
  rw [Lib.toList_data] at e
  have := bytes_len s
  rw [e] at this
  simp at this
  omega
theorem fmtT_bad {s : ByteArray} (h : wordOk s = false) : fmtT 1 s = ⟨#[]⟩ := by
  by_cases he : s.toList = []
  · exact (fmtT_e (Or.inr h) he).trans (show symT 1 = ⟨#[]⟩ from rfl)
  · exact fmtT_n (Or.inr h) he
theorem fmtT_mark {k : Nat} (h : k = 2 ∨ k = 3 ∨ k = 4) : 1 ≤ (fmtT k ⟨#[]⟩).size := by
  rw [fmtT_e (Or.inl (by omega)) nil_toList]
  rcases h with rfl | rfl | rfl <;> exact Nat.le_refl _
set_option maxRecDepth 100000 in
set_option maxHeartbeats 2000000 in
theorem l16Mark_any (c : UInt8) (w : World) : Calls Tryd.prog 29 #[.int .u8 c.toNat] w fun e w' => e = .returned (.int .i64 (mrk c)) ∧ w = w' := by
  by_cases h59 : c = 59
  · subst h59
    go_enter Tryd.func29, Tryd.ntmps29
    go_wp2
    go_ret
    exact ⟨rfl, rfl⟩
  · have e59 : ((c.toNat : Int) == 59) = false := u8_ne (n := 59) (by decide) h59
    by_cases h123 : c = 123
    · subst h123
      clear e59 h59
      go_enter Tryd.func29, Tryd.ntmps29
      go_wp2
      go_ret
      exact ⟨rfl, rfl⟩
    · have e123 : ((c.toNat : Int) == 123) = false := u8_ne (n := 123) (by decide) h123
      by_cases h125 : c = 125
      · subst h125
        clear e59 h59 e123 h123
        go_enter Tryd.func29, Tryd.ntmps29
        go_wp2
        go_ret
        exact ⟨rfl, rfl⟩
      · have e125 : ((c.toNat : Int) == 125) = false := u8_ne (n := 125) (by decide) h125
        rw [mrk_eq h59 h123 h125]
        clear h59 h123 h125
        go_enter Tryd.func29, Tryd.ntmps29
        go_wp2
        go_ret
        exact ⟨rfl, rfl⟩
set_option maxRecDepth 100000 in
set_option maxHeartbeats 8000000 in
theorem Tokenize_spec (s : ByteArray) (w : World) (hs : s.size ≤ 1099511627776) : Calls Tryd.prog 12 #[.string s] w (RetTkz (tkS s) w) := by
  obtain ⟨i0, hi, hz0, hz1, hz2⟩ := info_parts info_TkE
  have hE := own_empty w 41 2
  have b0 : Below w.heap.size w (w.alloc (.cells #[] 41)) := (by repeat (first | exact Below.refl _ _ | assumption | (refine Below.trans ?_ (Below.mono (by assumption) (by first | omega | (simp; done) | (simp; omega)))) | (with_reducible refine Below.drew ?_) | (with_reducible refine Below.alloc ?_ (by first | omega | (simp; done) | (simp; omega)) _) | (with_reducible refine Below.setCell ?_ (by first | omega | (simp; done) | (simp; omega)) _)))
  have HE := Lib.hid hE
  have B0 := Lib.hid b0
  clear hE b0
  go_enter Tryd.func12, Tryd.ntmps12
  go_wp2_with fail
  go_loopw [4, 5] (fun v i wr => ∃ (k : Nat) (T : List Tk), k ≤ s.size ∧ i = .int .i64 k ∧ T.length ≤ 160 ∧ Hid (wr.ownsRow w.heap.size 41 2 v T.length (tkcs T)) ∧ Hid (tkS s = (tkz (s.data.toList.drop k) T.length).map (T ++ ·)) ∧ Hid (Below w.heap.size w wr)) (fun _ i _ => s.size - (intOf i).toNat)
  case atStart => exact ⟨0, [], Nat.zero_le _, rfl, Nat.zero_le _, HE.out, Lib.hid (by rw [List.drop_zero]; unfold tkS; cases tkz s.data.toList 0 <;> rfl), B0.out⟩
  case round =>
    obtain ⟨k, T, hk, rfl, hT, hown, hd, hb⟩ := hrel
    have hbs := hb.out.size
    obtain ⟨A0, c0, rfl, _, _, r0⟩ := rd_of_own hown.out
    have HR := Lib.hid r0
    clear r0
    by_cases hlt : k < s.size
    · have HD := Lib.hid (bytes_drop hlt)
      by_cases h32 : s[k] = 32
      · have e32 : ((s[k].toNat : Int) == 32) = true := u8_eq (n := 32) (by decide) h32
        have HN := Lib.hid (show tkS s = (tkz (s.data.toList.drop (k + 1)) T.length).map (T ++ ·) by rw [hd.out, HD.out, tkz_blk (by rw [h32]; rfl)])
        clear h32
        go_wp2_with fail
        go_roundw
        case rel => exact ⟨k + 1, T, by omega, by go_num, hT, hown, HN.out, hb⟩
        case measure => simp [intOf]; omega
      have e32 : ((s[k].toNat : Int) == 32) = false := u8_ne (n := 32) (by decide) h32
      by_cases h10 : s[k] = 10
      · have e10 : ((s[k].toNat : Int) == 10) = true := u8_eq (n := 10) (by decide) h10
        have HN := Lib.hid (show tkS s = (tkz (s.data.toList.drop (k + 1)) T.length).map (T ++ ·) by rw [hd.out, HD.out, tkz_blk (by rw [h10]; rfl)])
        clear h10
        go_wp2_with fail
        go_roundw
        case rel => exact ⟨k + 1, T, by omega, by go_num, hT, hown, HN.out, hb⟩
        case measure => simp [intOf]; omega
      have e10 : ((s[k].toNat : Int) == 10) = false := u8_ne (n := 10) (by decide) h10
      have HBK := Lib.hid (blk_eq h32 h10)
      clear h32 h10
      have HF := Lib.hid (show 160 ≤ T.length → tkz (s.data.toList.drop k) T.length = none from fun hn => by rw [HD.out, tkz_full HBK.out hn])
      by_cases hm : mrk s[k] = 0
      · have HMK := Lib.hid hm
        go_wp2_with (go_at_call 29; refine (l16Mark_any _ _).mono ?_; rintro e w' ⟨rfl, rfl⟩; rw [HMK.out])
        go_loop [7] (fun i => ∃ j : Nat, k ≤ j ∧ j ≤ s.size ∧ i = .int .i64 j ∧ Hid (∀ q (hq : q < s.size), k ≤ q → q < j → letU s[q] = true)) (fun i => s.size - (intOf i).toNat)
        case atStart => exact ⟨k, Nat.le_refl _, hk, rfl, fun q _ h1 h2 => absurd h1 (by omega)⟩
        case round =>
          obtain ⟨j, hkj, hj, rfl, hle⟩ := hrel
          by_cases hjl : j < s.size
          · cases hlj : ltrB (s[j].toNat : Int)
            · have HE2 := Lib.hid (tkz_end hkj hj hlt hle.out (fun _ => hlj) HBK.out HMK.out T.length)
              have hxs : (s.extract k j).size ≤ 9223372036854775807 := by simp; omega
              cases hw : wordOk (s.extract k j)
              · have HN := Lib.hid (tks_none hd.out (HE2.out.1 hw))
                have HFW := Lib.hid (fmtT_bad hw)
                go_wp2_with (go_at_call 30; refine (l16Letter_any _ _).mono ?_; rintro e w' ⟨rfl, rfl⟩)
                refine (FormatToken_spec _ _ _ hxs).mono ?_
                rintro e w1 ⟨rfl, b1, s1⟩
                rw [HFW.out]
                have b2 : Below wr.heap.size wr w1 := ((Below.refl _ _).alloc (Nat.le_refl _) _).trans (b1.mono (by simp))
                have hb1 := hb.out.trans (b2.mono hbs)
                have hb1s := hb1.size
                have HB1 := Lib.hid hb1
                clear b1 s1 b2 hb1
                go_wp2_with fail
                go_ret2
                exact ⟨_, _, [], by rw [HN.out]; rfl, by rw [HN.out]; exact rfl, ⟨rfl, fun h => absurd h (by decide)⟩, HB1.out.alloc hb1s _, by simp; omega⟩
              · have HZ := Lib.hid (HE2.out.2 hw)
                have HFW := Lib.hid (fmtT_w hw)
                have hwz := wordOk_size hw
                have hkj1 : k < j := by have e : (s.extract k j).size ≤ j - k := by simp; omega
                                        omega
                obtain ⟨f, hf0⟩ : ∃ f, f = s.extract k j := ⟨_, rfl⟩
                have hfe : f.toList.isEmpty = false := by rw [hf0]; exact isEmpty_size hwz.1
                have HFF := Lib.hid hf0
                clear hwz hf0 hw HE2
                go_wp2_with (go_at_call 30; refine (l16Letter_any _ _).mono ?_; rintro e w' ⟨rfl, rfl⟩)
                refine (FormatToken_spec _ _ _ hxs).mono ?_
                rintro e w1 ⟨rfl, b1, s1⟩
                rw [HFW.out, ← HFF.out]
                obtain ⟨p0, p1⟩ := cells2 (lay := b1) (boxed1_0 _ _)
                have b2 : Below wr.heap.size wr w1 := ((Below.refl _ _).alloc (Nat.le_refl _) _).trans (b1.mono (by simp))
                have zl : wr.heap.size < w1.heap.size := by simp at s1; omega
                clear b1 s1
                have hown1 := ownsRow_below hown.out b2
                have hb1 := hb.out.trans (b2.mono hbs)
                have hb1s := hb1.size
                have HB1 := Lib.hid hb1
                clear hb1
                by_cases hf : T.length = 160
                · have e160 : ((T.length : Int) == 160) = true := by simp [hf]
                  have HN := Lib.hid (tks_none hd.out (HF.out (by omega)))
                  clear hf
                  go_wp2_with fail
                  go_ret2
                  exact ⟨_, _, [], by rw [HN.out]; rfl, by rw [HN.out]; exact rfl, ⟨rfl, fun h => absurd h (by decide)⟩, HB1.out.alloc hb1s _, by simp; omega⟩
                · have e160 : ((T.length : Int) == 160) = false := by simp; omega
                  have HN := Lib.hid (tks_step hd.out (HZ.out (by omega)))
                  go_wp2_with (at_builtin; refine wpList_append_rd _ rfl _ _ 33 rfl w.heap.size 41 i0 _ 2 24 Tryd.underlying33 hi hz0 hz1 hz2 rfl (by decide) _ _ _ rfl (hown1.alloc _) _ 1 1 _ rfl (rd_lit2 ?c0 rfl) ?c2 ?c3 ?c4 ?c5 ?_)
                  case c0 => first | rfl | simp
                  case c2 => repeat' (first | rfl | apply And.intro)
                  case c3 => simp only [maxLen]; omega
                  case c4 => omega
                  case c5 => first | omega | (simp; omega)
                  intro v6 w6 own6 gr6 _
                  have hb6 := (HB1.out.alloc hb1s _).grown gr6 (by simp; omega) (own_ge hown1)
                  have HB6 := Lib.hid hb6
                  have HO6 := Lib.hid own6
                  clear gr6 hb6 own6
                  go_wp2_with fail
                  go_roundw
                  case rel => exact ⟨j, T ++ [wTk (s.extract k j)], by omega, by go_num, by rw [List.length_append]; show T.length + 1 ≤ 160; omega, by rw [List.length_append, tkcs_append]; exact HO6.out, HN.out, HB6.out⟩
                  case measure => simp [intOf]; omega
            · have HS := Lib.hid (show ∀ q (hq : q < s.size), k ≤ q → q < j + 1 → letU s[q] = true from fun q hq h1 h2 => by
                rcases Nat.lt_or_ge q j with h3 | h3
                · exact hle.out q hq h1 h3
                · obtain rfl : q = j := by omega
                  exact hlj)
              go_wp2_with (go_at_call 30; refine (l16Letter_any _ _).mono ?_; rintro e w' ⟨rfl, rfl⟩)
              go_round
              case rel => exact ⟨j + 1, by omega, by omega, by go_num, HS.out⟩
              case measure => simp [intOf]; omega
          · have HE2 := Lib.hid (tkz_end hkj hj hlt hle.out (fun h => absurd h hjl) HBK.out HMK.out T.length)
            have hxs : (s.extract k j).size ≤ 9223372036854775807 := by simp; omega
            cases hw : wordOk (s.extract k j)
            · have HN := Lib.hid (tks_none hd.out (HE2.out.1 hw))
              have HFW := Lib.hid (fmtT_bad hw)
              go_wp2_with fail
              refine (FormatToken_spec _ _ _ hxs).mono ?_
              rintro e w1 ⟨rfl, b1, s1⟩
              rw [HFW.out]
              have b2 : Below wr.heap.size wr w1 := ((Below.refl _ _).alloc (Nat.le_refl _) _).trans (b1.mono (by simp))
              have hb1 := hb.out.trans (b2.mono hbs)
              have hb1s := hb1.size
              have HB1 := Lib.hid hb1
              clear b1 s1 b2 hb1
              go_wp2_with fail
              go_ret2
              exact ⟨_, _, [], by rw [HN.out]; rfl, by rw [HN.out]; exact rfl, ⟨rfl, fun h => absurd h (by decide)⟩, HB1.out.alloc hb1s _, by simp; omega⟩
            · have HZ := Lib.hid (HE2.out.2 hw)
              have HFW := Lib.hid (fmtT_w hw)
              have hwz := wordOk_size hw
              have hkj1 : k < j := by have e : (s.extract k j).size ≤ j - k := by simp; omega
                                      omega
              obtain ⟨f, hf0⟩ : ∃ f, f = s.extract k j := ⟨_, rfl⟩
              have hfe : f.toList.isEmpty = false := by rw [hf0]; exact isEmpty_size hwz.1
              have HFF := Lib.hid hf0
              clear hwz hf0 hw HE2
              go_wp2_with fail
              refine (FormatToken_spec _ _ _ hxs).mono ?_
              rintro e w1 ⟨rfl, b1, s1⟩
              rw [HFW.out, ← HFF.out]
              obtain ⟨p0, p1⟩ := cells2 (lay := b1) (boxed1_0 _ _)
              have b2 : Below wr.heap.size wr w1 := ((Below.refl _ _).alloc (Nat.le_refl _) _).trans (b1.mono (by simp))
              have zl : wr.heap.size < w1.heap.size := by simp at s1; omega
              clear b1 s1
              have hown1 := ownsRow_below hown.out b2
              have hb1 := hb.out.trans (b2.mono hbs)
              have hb1s := hb1.size
              have HB1 := Lib.hid hb1
              clear hb1
              by_cases hf : T.length = 160
              · have e160 : ((T.length : Int) == 160) = true := by simp [hf]
                have HN := Lib.hid (tks_none hd.out (HF.out (by omega)))
                clear hf
                go_wp2_with fail
                go_ret2
                exact ⟨_, _, [], by rw [HN.out]; rfl, by rw [HN.out]; exact rfl, ⟨rfl, fun h => absurd h (by decide)⟩, HB1.out.alloc hb1s _, by simp; omega⟩
              · have e160 : ((T.length : Int) == 160) = false := by simp; omega
                have HN := Lib.hid (tks_step hd.out (HZ.out (by omega)))
                go_wp2_with (at_builtin; refine wpList_append_rd _ rfl _ _ 33 rfl w.heap.size 41 i0 _ 2 24 Tryd.underlying33 hi hz0 hz1 hz2 rfl (by decide) _ _ _ rfl (hown1.alloc _) _ 1 1 _ rfl (rd_lit2 ?c0 rfl) ?c2 ?c3 ?c4 ?c5 ?_)
                case c0 => first | rfl | simp
                case c2 => repeat' (first | rfl | apply And.intro)
                case c3 => simp only [maxLen]; omega
                case c4 => omega
                case c5 => first | omega | (simp; omega)
                intro v6 w6 own6 gr6 _
                have hb6 := (HB1.out.alloc hb1s _).grown gr6 (by simp; omega) (own_ge hown1)
                have HB6 := Lib.hid hb6
                have HO6 := Lib.hid own6
                clear gr6 hb6 own6
                go_wp2_with fail
                go_roundw
                case rel => exact ⟨j, T ++ [wTk (s.extract k j)], by omega, by go_num, by rw [List.length_append]; show T.length + 1 ≤ 160; omega, by rw [List.length_append, tkcs_append]; exact HO6.out, HN.out, HB6.out⟩
                case measure => simp [intOf]; omega
      · obtain ⟨m, hm0⟩ : ∃ m, m = mrk s[k] := ⟨_, rfl⟩
        have HM := Lib.hid hm0
        have hm3 := mrk_cases s[k]
        rw [← hm0] at hm hm3
        have hm2 : m = 2 ∨ m = 3 ∨ m = 4 := by omega
        have HZ := Lib.hid (show T.length < 160 → tkz (s.data.toList.drop k) T.length = (tkz (s.data.toList.drop (k + 1)) (T.length + 1)).map (pTk m :: ·) from fun hn => by rw [HD.out, hm0, tkz_mrk HBK.out hn (by rw [← hm0]; exact hm)])
        have em : ((m : Int) == 0) = false := by simp; omega
        obtain ⟨f, hf0⟩ : ∃ f, f = fmtT m ⟨#[]⟩ := ⟨_, rfl⟩
        have hfe : f.toList.isEmpty = false := by rw [hf0]; exact isEmpty_size (fmtT_mark hm2)
        have HFF := Lib.hid hf0
        clear hm hm3 hm2 hm0 hf0
        go_wp2_with (first | (go_at_call 29; refine (l16Mark_any _ _).mono ?_; rintro e w' ⟨rfl, rfl⟩; rw [← HM.out]))
        refine (FormatToken_spec _ _ _ (by decide)).mono ?_
        rintro e w1 ⟨rfl, b1, s1⟩
        rw [← HFF.out]
        obtain ⟨p0, p1⟩ := cells2 (lay := b1) (boxed1_0 _ _)
        have b2 : Below wr.heap.size wr w1 := ((Below.refl _ _).alloc (Nat.le_refl _) _).trans (b1.mono (by simp))
        have zl : wr.heap.size < w1.heap.size := by simp at s1; omega
        clear b1 s1
        have hown1 := ownsRow_below hown.out b2
        have hb1 := hb.out.trans (b2.mono hbs)
        have hb1s := hb1.size
        have HB1 := Lib.hid hb1
        clear hb1
        by_cases hf : T.length = 160
        · have e160 : ((T.length : Int) == 160) = true := by simp [hf]
          have HN := Lib.hid (tks_none hd.out (HF.out (by omega)))
          clear hf
          go_wp2_with fail
          go_ret2
          exact ⟨_, _, [], by rw [HN.out]; rfl, by rw [HN.out]; exact rfl, ⟨rfl, fun h => absurd h (by decide)⟩, HB1.out.alloc hb1s _, by simp; omega⟩
        · have e160 : ((T.length : Int) == 160) = false := by simp; omega
          have HN := Lib.hid (tks_step hd.out (HZ.out (by omega)))
          go_wp2_with (at_builtin; refine wpList_append_rd _ rfl _ _ 33 rfl w.heap.size 41 i0 _ 2 24 Tryd.underlying33 hi hz0 hz1 hz2 rfl (by decide) _ _ _ rfl (hown1.alloc _) _ 1 1 _ rfl (rd_lit2 ?c0 rfl) ?c2 ?c3 ?c4 ?c5 ?_)
          case c0 => first | rfl | simp
          case c2 => repeat' (first | rfl | apply And.intro)
          case c3 => simp only [maxLen]; omega
          case c4 => omega
          case c5 => first | omega | (simp; omega)
          intro v6 w6 own6 gr6 _
          have hb6 := (HB1.out.alloc hb1s _).grown gr6 (by simp; omega) (own_ge hown1)
          have HB6 := Lib.hid hb6
          have HO6 := Lib.hid own6
          clear gr6 hb6 own6
          go_wp2_with fail
          go_roundw
          case rel => exact ⟨k + 1, T ++ [pTk m], by omega, by go_num, by rw [List.length_append]; show T.length + 1 ≤ 160; omega, by rw [List.length_append, tkcs_append]; exact HO6.out, HN.out, HB6.out⟩
          case measure => simp [intOf]; omega
    · obtain rfl : k = s.size := by omega
      have HF := Lib.hid (show tkS s = some T by
        rw [hd.out, List.drop_of_length_le (by rw [bytes_len]; exact Nat.le_refl _), tkz_nil]
        simp)
      go_wp2_with fail
      go_ret2
      exact ⟨A0, c0, T, by rw [HF.out]; rfl, by rw [HF.out]; exact rfl, HR.out, hb.out, hbs⟩
end Go.Proofs.YthkbckkghnbonaaDoor
namespace Go.Proofs.YthkbckkghnbonaaDoor
open Go.RowKit
set_option linter.unusedVariables false
/-- What a reading of a text returns. -/
def RetPz (o : Option (List Tk)) (w : World) (e : Ending) (w' : World) : Prop :=
  ∃ Aq nq cq Ab nb cb m, e = .returned (.tuple #[.agg #[.slice Aq nq cq, .slice Ab nb cb], .int .i64 (parseR o).1, .int .i64 (((parseR o).2.1 : Nat) : Int)]) ∧ SlI w' w.heap.size m 1 Aq nq (strs (parseR o).2.2.1) ∧ TrI w' 5 m w'.heap.size Ab nb (parseR o).2.2.2 ∧
    (nq ≤ cq ∧ cq ≤ maxLen) ∧ (w.heap.size ≤ m ∧ m ≤ w'.heap.size) ∧ Below w.heap.size w w'
theorem parse_bad {T : List Tk} {st : Rs} (h : (Lp T 4 (T.length + 1) (headR T).1).1 = st) (hc : st.code ≠ 0) : parseR (some T) = (st.code, st.i, [], []) := by
  have e : bodyT T (headR T).1 = Lp T 4 (T.length + 1) (headR T).1 := rfl
  unfold parseR
  simp only []
  rw [e, h, if_neg hc]
theorem parse_good {T : List Tk} {st : Rs} (h : (Lp T 4 (T.length + 1) (headR T).1).1 = st) (hc : st.code = 0) : parseR (some T) = (0, 0, (headR T).2, (Lp T 4 (T.length + 1) (headR T).1).2) ∧ (headR T).1.code = 0 := by
  have e : bodyT T (headR T).1 = Lp T 4 (T.length + 1) (headR T).1 := rfl
  refine ⟨?_, Classical.byContradiction fun hne => ?_⟩
  · unfold parseR
    simp only []
    rw [e, h, if_pos hc]
  · have e3 : Lp T 4 (T.length + 1) (headR T).1 = ((headR T).1, []) := loopR_code hne
    rw [e3] at h
    exact hne (by rw [show (headR T).1 = st from h]; exact hc)
theorem rdq_lt {w : World} {size n : Nat} {A : Option Addr} {xs : List Value} (h : Rd w size A n xs) : RdQ w (· < w.heap.size) size A n xs :=
  ⟨h.1, fun h0 => by obtain ⟨b, off, e, hb, hc⟩ := h.2 h0; exact ⟨b, off, e, hb, hb, hc⟩⟩
theorem below_alloc1 {w : World} {o : Obj} : Below w.heap.size w (w.alloc o) := (Below.refl _ _).alloc (Nat.le_refl _) _
set_option maxRecDepth 100000 in
set_option maxHeartbeats 4000000 in
theorem ParseProgram_impl (s : ByteArray) (w : World) (hv : LVb w.heap.size w) (hs : s.size ≤ 1099511627776) : Calls Tryd.prog 6 #[.string s] w (RetPz (tkS s) w) := by
  obtain ⟨X, hX⟩ : ∃ X, X = w.heap.size := ⟨_, rfl⟩
  have HX := Lib.hid hX
  obtain ⟨w0, hw0⟩ : ∃ w0, w0 = w.alloc (.cells #[.slice none 0 0, .slice none 0 0] 25) := ⟨_, rfl⟩
  have X0 : w0.heap[X]? = some (.cells #[.slice none 0 0, .slice none 0 0] 25 (0, 0)) := by rw [hw0]; exact heap_topG hX
  have b0 : Below w.heap.size w w0 := by rw [hw0]; exact below_alloc1
  have V0 : LVb w.heap.size w0 := hv.below b0
  have HV := Lib.hid V0
  have HW0 := Lib.hid hw0
  have B0 := Lib.hid b0
  have hz0 := b0.size
  have X0 := Lib.hid X0
  clear hv hX hw0 b0 V0
  cases ht : tkS s with
  | none =>
    have HT := Lib.hid ht
    clear ht
    go_enter Tryd.func6, Tryd.ntmps6
    go_wp2_with fail
    rw [← HW0.out, ← HX.out]
    refine (Tokenize_impl s w0 hs).mono ?_
    rintro e w1 ⟨A, c, T, hT, rfl, hrd, b1, s1⟩
    rw [HT.out]
    have X1 := (b1.block X (lt_of_block X0.out)).trans X0.out
    obtain ⟨p0, p1⟩ := cells2 (lay := Below.refl _ _) X1
    have g0 := free_at (j := 0) X1
    have g1 := free_at (j := 1) X1
    have lX := lt_of_block X1
    have hs1 := b1.size
    have B1 := Lib.hid (B0.out.trans (b1.mono hz0))
    clear hT hrd b1 s1
    go_wp2_with fail
    obtain ⟨w9, hw9⟩ : ∃ w9, w9 = (w1.setCell ⟨X, 0, none⟩ (.slice none 0 0)).setCell ⟨X, 1, none⟩ (.slice none 0 0) := ⟨_, rfl⟩
    have X9 : w9.heap[X]? = some (.cells #[.slice none 0 0, .slice none 0 0] 25 (0, 0)) := by rw [hw9]; exact heap_set_selfG (heap_set_selfG X1 _) _
    have G9 : w1.grownBy w9 (some X) := by rw [hw9]; exact gr_gr (gr_set _) (gr_set _)
    obtain ⟨r0, r1⟩ := cells2 (lay := Below.refl _ _) X9
    have hz9 := G9.size
    rw [← hw9]
    exact bodyPost_ret (v := .tuple #[.agg #[.slice none 0 0, .slice none 0 0], .int .i64 1, .int .i64 0]) (by simp [results, Tryd.results6, go_sem, r0, r1]) rfl ⟨none, 0, 0, none, 0, 0, w.heap.size, rfl, slI_none, trI_nil, ⟨Nat.le_refl _, Nat.zero_le _⟩, ⟨Nat.le_refl _, by omega⟩, B1.out.grown G9 (by omega) (fun k hk => by injection hk with hk; have := HX.out; omega)⟩
  | some T =>
    obtain ⟨hwell, hlen⟩ := tkz_well _ _ _ _ (Nat.le_refl _) ht (by omega)
    have HT := Lib.hid ht
    have HWL := Lib.hid hwell
    clear ht hwell
    go_enter Tryd.func6, Tryd.ntmps6
    go_wp2_with fail
    rw [← HW0.out, ← HX.out]
    refine (Tokenize_impl s w0 hs).mono ?_
    rintro e w1 ⟨A, c, T', hT, rfl, hrd, b1, s1⟩
    rw [HT.out] at hT ⊢
    have hTT : T' = T := hT
    subst hTT
    have X1 := (b1.block X (lt_of_block X0.out)).trans X0.out
    obtain ⟨n, hn⟩ : ∃ n, n = T'.length := ⟨_, rfl⟩
    have hs1 := b1.size
    obtain ⟨R, hR⟩ : ∃ R, R = w1.heap.size := ⟨_, rfl⟩
    have HR := Lib.hid hR
    obtain ⟨w2, hw2⟩ : ∃ w2, w2 = w1.alloc (.cells #[.slice A n c, .int .i64 0, .int .i64 0, .int .i64 0] 46) := ⟨_, rfl⟩
    have b2 : Below w1.heap.size w1 w2 := by rw [hw2]; exact below_alloc1
    have R2 : RdI R A n c T' 0 ⟨0, 0⟩ w2 := by
      refine ⟨by rw [hw2]; exact heap_topG hR, ?_, hn.symm, Nat.zero_le _⟩
      rw [hR, hn]
      exact (rdq_lt hrd).below b2
    have B2 : Below w.heap.size w w2 := (B0.out.trans (b1.mono hz0)).trans (b2.mono (by omega))
    have V2 := Lib.hid (HV.out.below ((b1.mono hz0).trans (b2.mono (by omega))))
    have X2 := Lib.hid ((b2.block X (lt_of_block X1)).trans X1)
    have hz2 : R < w2.heap.size := lt_of_block R2.x
    have hXR : X < R := by rw [hR]; exact lt_of_block X1
    have hXw : X = w.heap.size := HX.out
    have hn160 : n ≤ 160 := by omega
    have HN := Lib.hid hn
    have B2 := Lib.hid B2
    have R2 := Lib.hid R2
    have HW2 := Lib.hid hw2
    rw [← hn]
    clear hT hrd b1 s1 X1 hR hw2 b2 hn hlen hXw
    go_wp2_with fail
    rw [← HR.out, ← HW2.out]
    refine (header_any R n c A T' 0 w2 R2.out hn160).mono ?_
    rintro e w3 ⟨Aq, nq, cq, Q, rfl, hq, hsl, hcq, hcm, hr3, hg3⟩
    have X3 := Lib.hid (heap_gr X2.out hg3 (by omega))
    have V3 := Lib.hid (V2.out.grown hg3 (fun k hk => by injection hk with hk; have := HX.out; omega))
    have hz3 := hg3.size
    obtain ⟨P, hP⟩ : ∃ P, P = w3.heap.size := ⟨_, rfl⟩
    have HP := Lib.hid hP
    obtain ⟨w4, hw4⟩ : ∃ w4, w4 = w3.alloc (.cells #[.slice Aq nq cq, .slice none 0 0] 25) := ⟨_, rfl⟩
    have b4 : Below w3.heap.size w3 w4 := by rw [hw4]; exact below_alloc1
    have P4 : w4.heap[P]? = some (.cells #[.slice Aq nq cq, .slice none 0 0] 25 (0, 0)) := by rw [hw4]; exact heap_topG hP
    have R4 := Lib.hid (hr3.below b4)
    have V4 := Lib.hid (V3.out.below (b4.mono V3.out.le))
    have X4 := Lib.hid ((b4.block X (lt_of_block X3.out)).trans X3.out)
    have SQ := Lib.hid hsl
    have HQ := Lib.hid hq
    have G3 := Lib.hid hg3
    have B4 := Lib.hid b4
    have hz4 : P < w4.heap.size := lt_of_block P4
    have hz34 := b4.size
    have hPR : R < P := by omega
    have hcq := Lib.hid (And.intro hcq hcm)
    have P4 := Lib.hid P4
    have HW4 := Lib.hid hw4
    have hPw : P = w3.heap.size := hP
    clear hr3 hg3 hsl hq hcm hP hw4 b4 hPw
    go_wp2_with fail
    rw [← HP.out, ← HW4.out]
    refine (stmtsI_all 4 (by omega) w.heap.size R n c A T' 0 (headR T').1 w4 R4.out V4.out (by have := HX.out; omega) hn160 HWL.out (by omega)).mono ?_
    rintro e w5 ⟨Ab, nb, cb, l', rfl, hl, htr, hr5, hg5⟩
    obtain ⟨st, hst⟩ : ∃ st, st = (Lp T' 4 (T'.length + 1) (headR T').1).1 := ⟨_, rfl⟩
    rw [← hst] at hr5 hl
    have HST := Lib.hid hst.symm
    have P5 := heap_gr P4.out hg5 (by omega)
    have X5 := heap_gr X4.out hg5 (by omega)
    obtain ⟨p0, p1⟩ := cells2 (lay := Below.refl _ _) P5
    have g0 := free_at (j := 0) P5
    have g1 := free_at (j := 1) P5
    have lP := lt_of_block P5
    have hz5 := hg5.size
    obtain ⟨w6, hw6⟩ : ∃ w6, w6 = w5.setCell ⟨P, 1, none⟩ (.slice Ab nb cb) := ⟨_, rfl⟩
    have G6 : w5.grownBy w6 (some P) := by rw [hw6]; exact gr_set _
    have P6 : w6.heap[P]? = some (.cells #[.slice Aq nq cq, .slice Ab nb cb] 25 (0, 0)) := by rw [hw6]; exact heap_set_selfG P5 _
    have X6 : w6.heap[X]? = some (.cells #[.slice none 0 0, .slice none 0 0] 25 (0, 0)) := heap_gr X5 G6 (by omega)
    have R6 := Lib.hid (hr5.far G6 hPR)
    have hz6 := G6.size
    have hPw := HP.out
    have hXw := HX.out
    have SQ6 := Lib.hid ((slI_gr (SQ.out.keep (fun b _ _ h => B4.out.block b h) B4.out.size) hg5 (by omega)).keep (fun b _ h2 h3 => G6.block b h3 (fun e => by injection e with e; omega)) G6.size)
    have TR6 := Lib.hid (trI_gr htr G6 (by omega))
    have B6 := Lib.hid (((((B2.out.grown G3.out (by omega) (fun k hk => by injection hk with hk; omega)).trans (B4.out.mono (by omega))).grown hg5 (by omega) (fun k hk => by injection hk with hk; omega))).grown G6 (by omega) (fun k hk => by injection hk with hk; omega))
    have HL := Lib.hid hl
    have HW6 := Lib.hid hw6
    have P6 := Lib.hid P6
    have X6 := Lib.hid X6
    clear hr5 hl hst P5 X5 hg5 hw6 G6 hPw hXw htr
    go_upto_region 7 with (fail)
    rw [← HW6.out]
    clear p0 p1 g0 g1 lP
    obtain ⟨⟨k0, k1, ko, k2⟩, ⟨f1, f3, f2⟩, lR⟩ := R6.out.cells
    obtain ⟨p0, p1⟩ := cells2 (lay := Below.refl _ _) P6.out
    obtain ⟨x0, x1⟩ := cells2 (lay := Below.refl _ _) X6.out
    have g0 := free_at (j := 0) X6.out
    have g1 := free_at (j := 1) X6.out
    have lX := lt_of_block X6.out
    by_cases hc : st.code = 0
    · rw [hc] at k2
      obtain ⟨he, hh⟩ := parse_good HST.out hc
      have HE := Lib.hid he
      have hlq := HL.out hc
      have hqq := HQ.out hh
      have HLQ := Lib.hid hlq
      have HQQ := Lib.hid hqq
      clear he hh hlq hqq
      obtain ⟨w9, hw9⟩ : ∃ w9, w9 = (w6.setCell ⟨X, 0, none⟩ (.slice Aq nq cq)).setCell ⟨X, 1, none⟩ (.slice Ab nb cb) := ⟨_, rfl⟩
      have X9 : w9.heap[X]? = some (.cells #[.slice Aq nq cq, .slice Ab nb cb] 25 (0, 0)) := by rw [hw9]; exact heap_set_selfG (heap_set_selfG X6.out _) _
      have G9 : w6.grownBy w9 (some X) := by rw [hw9]; exact gr_gr (gr_set _) (gr_set _)
      obtain ⟨r0, r1⟩ := cells2 (lay := Below.refl _ _) X9
      have hz9 := G9.size
      have HW9 := Lib.hid hw9
      clear hw9
      go_wp2_with fail
      rw [← HW9.out]
      refine bodyPost_ret (v := .tuple #[.agg #[.slice Aq nq cq, .slice Ab nb cb], .int .i64 0, .int .i64 0]) (by simp [results, Tryd.results6, go_sem, r0, r1]) rfl ?_
      unfold RetPz
      rw [HE.out, ← HQQ.out, ← HLQ.out]
      have hXw := HX.out
      exact ⟨Aq, nq, cq, Ab, nb, cb, w4.heap.size, rfl, (slI_gr SQ6.out G9 (by omega)).wide (by omega) (by omega), (trI_gr TR6.out G9 (by omega)).wide (Nat.le_refl _) (by omega), hcq.out, ⟨by omega, by omega⟩, B6.out.grown G9 (by omega) (fun k hk => by injection hk with hk; omega)⟩
    · have d0 : (st.code == 0) = false := by simp [hc]
      have HE := Lib.hid (parse_bad HST.out hc)
      obtain ⟨w9, hw9⟩ : ∃ w9, w9 = (w6.setCell ⟨X, 0, none⟩ (.slice none 0 0)).setCell ⟨X, 1, none⟩ (.slice none 0 0) := ⟨_, rfl⟩
      have X9 : w9.heap[X]? = some (.cells #[.slice none 0 0, .slice none 0 0] 25 (0, 0)) := by rw [hw9]; exact heap_set_selfG (heap_set_selfG X6.out _) _
      have G9 : w6.grownBy w9 (some X) := by rw [hw9]; exact gr_gr (gr_set _) (gr_set _)
      obtain ⟨r0, r1⟩ := cells2 (lay := Below.refl _ _) X9
      have hz9 := G9.size
      have HW9 := Lib.hid hw9
      clear hw9
      go_upto_region 8 with (fail)
      go_region_law (fail)
      all_goals
        go_wp2_with fail
        rw [← HW9.out]
        refine bodyPost_ret (v := .tuple #[.agg #[.slice none 0 0, .slice none 0 0], .int .i64 st.code, .int .i64 st.i]) (by simp [results, Tryd.results6, go_sem, r0, r1]) rfl ?_
        unfold RetPz
        rw [HE.out]
        have hXw := HX.out
        have B9 := B6.out.grown G9 (by omega) (fun k hk => by injection hk with hk; omega)
        exact ⟨none, 0, 0, none, 0, 0, w.heap.size, rfl, slI_none, trI_nil, ⟨Nat.le_refl _, Nat.zero_le _⟩, ⟨Nat.le_refl _, by show w.heap.size ≤ w9.heap.size; omega⟩, ⟨B9.os, B9.tape, B9.output, B9.size, B9.block⟩⟩
end Go.Proofs.YthkbckkghnbonaaDoor
namespace Go.Proofs.YthkbckkghnbonaaDoor
open Go.RowKit
set_option linter.unusedVariables false
theorem stmtsS_all : ∀ e : Nat, e ≤ 4 → StmtsS e := by
  intro e
  induction e with
  | zero => intro _; exact l18Stmts_of 0 (by omega) (l18Stmt_of 0 (by omega) (l18Body_of 0 (by omega) inner_zeroS))
  | succ e ih => intro he; exact l18Stmts_of (e + 1) he (l18Stmt_of (e + 1) he (l18Body_of (e + 1) he (inner_succS e (by omega) (ih (by omega)))))
set_option maxRecDepth 100000 in
set_option maxHeartbeats 4000000 in
theorem ParseProgram_spec (s : ByteArray) (w : World) (hs : s.size ≤ 1099511627776) : Calls Tryd.prog 5 #[.string s] w (RetPz (tkS s) w) := by
  obtain ⟨X, hX⟩ : ∃ X, X = w.heap.size := ⟨_, rfl⟩
  have HX := Lib.hid hX
  obtain ⟨w0, hw0⟩ : ∃ w0, w0 = w.alloc (.cells #[.slice none 0 0, .slice none 0 0] 25) := ⟨_, rfl⟩
  have X0 : w0.heap[X]? = some (.cells #[.slice none 0 0, .slice none 0 0] 25 (0, 0)) := by rw [hw0]; exact heap_topG hX
  have b0 : Below w.heap.size w w0 := by rw [hw0]; exact below_alloc1
  have HW0 := Lib.hid hw0
  have B0 := Lib.hid b0
  have hz0 := b0.size
  have X0 := Lib.hid X0
  clear hX hw0 b0
  cases ht : tkS s with
  | none =>
    have HT := Lib.hid ht
    clear ht
    go_enter Tryd.func5, Tryd.ntmps5
    go_wp2_with fail
    rw [← HW0.out, ← HX.out]
    refine (Tokenize_spec s w0 hs).mono ?_
    rintro e w1 ⟨A, c, T, hT, rfl, hrd, b1, s1⟩
    rw [HT.out]
    have X1 := (b1.block X (lt_of_block X0.out)).trans X0.out
    obtain ⟨p0, p1⟩ := cells2 (lay := Below.refl _ _) X1
    have g0 := free_at (j := 0) X1
    have g1 := free_at (j := 1) X1
    have lX := lt_of_block X1
    have hs1 := b1.size
    have B1 := Lib.hid (B0.out.trans (b1.mono hz0))
    clear hT hrd b1 s1
    go_wp2_with fail
    obtain ⟨w9, hw9⟩ : ∃ w9, w9 = (w1.setCell ⟨X, 0, none⟩ (.slice none 0 0)).setCell ⟨X, 1, none⟩ (.slice none 0 0) := ⟨_, rfl⟩
    have X9 : w9.heap[X]? = some (.cells #[.slice none 0 0, .slice none 0 0] 25 (0, 0)) := by rw [hw9]; exact heap_set_selfG (heap_set_selfG X1 _) _
    have G9 : w1.grownBy w9 (some X) := by rw [hw9]; exact gr_gr (gr_set _) (gr_set _)
    obtain ⟨r0, r1⟩ := cells2 (lay := Below.refl _ _) X9
    have hz9 := G9.size
    rw [← hw9]
    exact bodyPost_ret (v := .tuple #[.agg #[.slice none 0 0, .slice none 0 0], .int .i64 1, .int .i64 0]) (by simp [results, Tryd.results5, go_sem, r0, r1]) rfl ⟨none, 0, 0, none, 0, 0, w.heap.size, rfl, slI_none, trI_nil, ⟨Nat.le_refl _, Nat.zero_le _⟩, ⟨Nat.le_refl _, by omega⟩, B1.out.grown G9 (by omega) (fun k hk => by injection hk with hk; have := HX.out; omega)⟩
  | some T =>
    obtain ⟨hwell, hlen⟩ := tkz_well _ _ _ _ (Nat.le_refl _) ht (by omega)
    have HT := Lib.hid ht
    have HWL := Lib.hid hwell
    clear ht hwell
    go_enter Tryd.func5, Tryd.ntmps5
    go_wp2_with fail
    rw [← HW0.out, ← HX.out]
    refine (Tokenize_spec s w0 hs).mono ?_
    rintro e w1 ⟨A, c, T', hT, rfl, hrd, b1, s1⟩
    rw [HT.out] at hT ⊢
    have hTT : T' = T := hT
    subst hTT
    have X1 := (b1.block X (lt_of_block X0.out)).trans X0.out
    obtain ⟨n, hn⟩ : ∃ n, n = T'.length := ⟨_, rfl⟩
    have hs1 := b1.size
    obtain ⟨R, hR⟩ : ∃ R, R = w1.heap.size := ⟨_, rfl⟩
    have HR := Lib.hid hR
    obtain ⟨w2, hw2⟩ : ∃ w2, w2 = w1.alloc (.cells #[.slice A n c, .int .i64 0, .int .i64 0] 38) := ⟨_, rfl⟩
    have b2 : Below w1.heap.size w1 w2 := by rw [hw2]; exact below_alloc1
    have R2 : RdS R A n c T' ⟨0, 0⟩ w2 := by
      refine ⟨by rw [hw2]; exact heap_topG hR, ?_, hn.symm, Nat.zero_le _⟩
      rw [hR, hn]
      exact (rdq_lt hrd).below b2
    have B2 : Below w.heap.size w w2 := (B0.out.trans (b1.mono hz0)).trans (b2.mono (by omega))
    have X2 := Lib.hid ((b2.block X (lt_of_block X1)).trans X1)
    have hz2 : R < w2.heap.size := lt_of_block R2.x
    have hXR : X < R := by rw [hR]; exact lt_of_block X1
    have hXw : X = w.heap.size := HX.out
    have hn160 : n ≤ 160 := by omega
    have HN := Lib.hid hn
    have B2 := Lib.hid B2
    have R2 := Lib.hid R2
    have HW2 := Lib.hid hw2
    rw [← hn]
    clear hT hrd b1 s1 X1 hR hw2 b2 hn hlen hXw
    by_cases hk : kindT T' 0 = 1 ∧ (textT T' 0).toList = [113, 117, 98, 105, 116, 115]
    rotate_left
    · have HHN := Lib.hid (headR_no hk)
      have HE := Lib.hid (parse_bad (T := T') (st := ⟨0, 2⟩) (by rw [headR_no hk]; show (Lp T' 4 (T'.length + 1) ⟨0, 2⟩).1 = _; rw [show Lp T' 4 (T'.length + 1) ⟨0, 2⟩ = (⟨0, 2⟩, []) from loopR_code (by decide)]) (by decide))
      obtain ⟨x0, x1⟩ := cells2 (lay := Below.refl _ _) X2.out
      have g0 := free_at (j := 0) X2.out
      have g1 := free_at (j := 1) X2.out
      have lX := lt_of_block X2.out
      obtain ⟨w9, hw9⟩ : ∃ w9, w9 = ((w2.setCell ⟨X, 0, none⟩ (.slice none 0 0)).setCell ⟨X, 1, none⟩ (.slice none 0 0)) := ⟨_, rfl⟩
      have X9 : w9.heap[X]? = some (.cells #[.slice none 0 0, .slice none 0 0] 25 (0, 0)) := by rw [hw9]; exact heap_set_selfG (heap_set_selfG X2.out _) _
      have G9 : w2.grownBy w9 (some X) := by rw [hw9]; exact gr_gr (gr_set _) (gr_set _)
      obtain ⟨r0, r1⟩ := cells2 (lay := Below.refl _ _) X9
      have hz9 := G9.size
      have HW9 := Lib.hid hw9
      clear hw9
      by_cases hk1 : kindT T' 0 = 1
      · have hlt : 0 < T'.length := kindT_lt (by rw [hk1]; decide)
        have hn0 : 0 < n := by have := HN.out; omega
        obtain ⟨bT, oT, rfl, hbR, hbl, t0, t1⟩ := R2.out.tok hn0
        have t1' : w2.cell? ⟨bT, oT + 1, none⟩ = some (.string (textT T' 0)) := by have := t1; simpa using this
        have e1 : ((textT T' 0).toList == [113, 117, 98, 105, 116, 115]) = false := by rw [beq_eq_false_iff_ne]; exact fun e => hk ⟨hk1, e⟩
        have HK1 := Lib.hid hk1
        clear t0 t1 hk hk1
        go_upto_region 5 with (fail)
        rw [← HR.out, ← HW2.out]
        go_wp2_with (go_at_call 13; refine (l18Kind_any R n c _ T' ⟨0, 0⟩ w2 R2.out (by omega)).mono ?_; rintro e w' ⟨rfl, mm, rfl⟩; rw [HK1.out])
        refine bodyPost_ret (v := .tuple #[.agg #[.slice none 0 0, .slice none 0 0], .int .i64 2, .int .i64 0]) (by
          have q0 : ∀ j u, w9.cell? ⟨X, j, none⟩ = some u → (((w2.drewN mm).setCell ⟨X, 0, none⟩ (.slice none 0 0)).setCell ⟨X, 1, none⟩ (.slice none 0 0)).cell? ⟨X, j, none⟩ = some u := fun j u h => by rw [HW9.out] at h; exact h
          have s0 := q0 0 _ r0
          have s1 := q0 1 _ r1
          simp [results, Tryd.results5, go_sem, s0, s1]) rfl ?_
        unfold RetPz
        rw [HE.out]
        have hXw := HX.out
        have B9 := B2.out.grown G9 (by omega) (fun k hk => by injection hk with hk; omega)
        rw [HW9.out] at B9
        exact ⟨none, 0, 0, none, 0, 0, w.heap.size, rfl, slI_none, trI_nil, ⟨Nat.le_refl _, Nat.zero_le _⟩, ⟨Nat.le_refl _, B9.size⟩, ⟨B9.os, B9.tape, B9.output, B9.size, B9.block⟩⟩
      · have d1 : (kindT T' 0 == 1) = false := by simp [hk1]
        have d2 : (kindT T' 0 != 1) = true := by simp [hk1]
        clear hk hk1
        go_upto_region 5 with (fail)
        rw [← HR.out, ← HW2.out]
        go_wp2_with (go_at_call 13; refine (l18Kind_any R n c _ T' ⟨0, 0⟩ w2 R2.out (by omega)).mono ?_; rintro e w' ⟨rfl, mm, rfl⟩)
        refine bodyPost_ret (v := .tuple #[.agg #[.slice none 0 0, .slice none 0 0], .int .i64 2, .int .i64 0]) (by
          have q0 : ∀ j u, w9.cell? ⟨X, j, none⟩ = some u → (((w2.drewN mm).setCell ⟨X, 0, none⟩ (.slice none 0 0)).setCell ⟨X, 1, none⟩ (.slice none 0 0)).cell? ⟨X, j, none⟩ = some u := fun j u h => by rw [HW9.out] at h; exact h
          have s0 := q0 0 _ r0
          have s1 := q0 1 _ r1
          simp [results, Tryd.results5, go_sem, s0, s1]) rfl ?_
        unfold RetPz
        rw [HE.out]
        have hXw := HX.out
        have B9 := B2.out.grown G9 (by omega) (fun k hk => by injection hk with hk; omega)
        rw [HW9.out] at B9
        exact ⟨none, 0, 0, none, 0, 0, w.heap.size, rfl, slI_none, trI_nil, ⟨Nat.le_refl _, Nat.zero_le _⟩, ⟨Nat.le_refl _, B9.size⟩, ⟨B9.os, B9.tape, B9.output, B9.size, B9.block⟩⟩
    have HH := Lib.hid hk
    obtain ⟨hk1, hk2⟩ := hk
    have hlt : 0 < T'.length := kindT_lt (by rw [hk1]; decide)
    have hn0 : 0 < n := by have := HN.out; omega
    obtain ⟨bT, oT, rfl, hbR, hbl, t0, t1⟩ := R2.out.tok hn0
    have t1' : w2.cell? ⟨bT, oT + 1, none⟩ = some (.string (textT T' 0)) := by have := t1; simpa using this
    have e1 : ((textT T' 0).toList == [113, 117, 98, 105, 116, 115]) = true := by rw [hk2]; rfl
    have HK1 := Lib.hid hk1
    obtain ⟨⟨k0, k1, k2⟩, f1, f2, lR2⟩ := R2.out.cells
    clear t0 t1 hk1 hk2
    go_upto_region 5 with (fail)
    rw [← HR.out, ← HW2.out]
    go_upto_region 8 with (go_at_call 13; refine (l18Kind_any R n c _ T' ⟨0, 0⟩ w2 R2.out (by omega)).mono ?_; rintro e w' ⟨rfl, mm, rfl⟩; rw [HK1.out])
    refine wp_name (fun wh hwh => ?_)
    have Rh := Lib.hid (show RdS R _ n c T' ⟨1, 0⟩ wh by rw [hwh]; exact (R2.out.drewN _).atv (i := 1) (v := 1) hlt rfl)
    have Gh : w2.grownBy wh (some R) := by rw [hwh]; exact gr_gr (gr_drewN (gr_refl _ _) _) (gr_set _)
    have Xh := Lib.hid (heap_gr X2.out Gh (by omega))
    have hzh := Gh.size
    have Gh := Lib.hid Gh
    clear hwh k0 k1 k2 f1 f2 lR2 t1' e1 hbl
    go_wp2_with fail
    refine (l18Names_any R n c _ T' wh Rh.out hn160 HH.out).mono ?_
    rintro e w3 ⟨Aq, nq, cq, Q, rfl, hq, hsl, hcq, hcm, hr3, hg3⟩
    have X3 := Lib.hid (heap_gr Xh.out hg3 (by omega))
    have hz3 := hg3.size
    obtain ⟨P, hP⟩ : ∃ P, P = w3.heap.size := ⟨_, rfl⟩
    have HP := Lib.hid hP
    obtain ⟨w4, hw4⟩ : ∃ w4, w4 = w3.alloc (.cells #[.slice Aq nq cq, .slice none 0 0] 25) := ⟨_, rfl⟩
    have b4 : Below w3.heap.size w3 w4 := by rw [hw4]; exact below_alloc1
    have P4 : w4.heap[P]? = some (.cells #[.slice Aq nq cq, .slice none 0 0] 25 (0, 0)) := by rw [hw4]; exact heap_topG hP
    have R4 := Lib.hid (hr3.below b4)
    have X4 := Lib.hid ((b4.block X (lt_of_block X3.out)).trans X3.out)
    have SQ := Lib.hid hsl
    have HQ := Lib.hid hq
    have G3 := Lib.hid (gr_gr Gh.out hg3)
    have B4 := Lib.hid b4
    have hz4 : P < w4.heap.size := lt_of_block P4
    have hz34 := b4.size
    have hPR : R < P := by omega
    have hcq := Lib.hid (And.intro hcq hcm)
    have P4 := Lib.hid P4
    have HW4 := Lib.hid hw4
    have hPw : P = w3.heap.size := hP
    clear hr3 hg3 hsl hq hcm hP hw4 b4 hPw
    go_wp2_with fail
    rw [← HP.out, ← HW4.out]
    refine (stmtsS_all 4 (by omega) R n c _ T' (headR T').1 0 w4 R4.out hn160 HWL.out (by omega)).mono ?_
    rintro e w5 ⟨Ab, nb, cb, l', rfl, hl, htr, hr5, hg5⟩
    obtain ⟨st, hst⟩ : ∃ st, st = (Lp T' 4 (T'.length + 1) (headR T').1).1 := ⟨_, rfl⟩
    rw [← hst] at hr5 hl
    have HST := Lib.hid hst.symm
    have P5 := heap_gr P4.out hg5 (by omega)
    have X5 := heap_gr X4.out hg5 (by omega)
    obtain ⟨p0, p1⟩ := cells2 (lay := Below.refl _ _) P5
    have g0 := free_at (j := 0) P5
    have g1 := free_at (j := 1) P5
    have lP := lt_of_block P5
    have hz5 := hg5.size
    obtain ⟨w6, hw6⟩ : ∃ w6, w6 = w5.setCell ⟨P, 1, none⟩ (.slice Ab nb cb) := ⟨_, rfl⟩
    have G6 : w5.grownBy w6 (some P) := by rw [hw6]; exact gr_set _
    have P6 : w6.heap[P]? = some (.cells #[.slice Aq nq cq, .slice Ab nb cb] 25 (0, 0)) := by rw [hw6]; exact heap_set_selfG P5 _
    have X6 : w6.heap[X]? = some (.cells #[.slice none 0 0, .slice none 0 0] 25 (0, 0)) := heap_gr X5 G6 (by omega)
    have R6 := Lib.hid (hr5.own G6 (fun k hk => by injection hk with hk; omega))
    have hz6 := G6.size
    have hPw := HP.out
    have hXw := HX.out
    have SQ6 := Lib.hid ((slI_gr (SQ.out.keep (fun b _ _ h => B4.out.block b h) B4.out.size) hg5 (by omega)).keep (fun b _ h2 h3 => G6.block b h3 (fun e => by injection e with e; omega)) G6.size)
    have TR6 := Lib.hid (trI_gr htr G6 (by omega))
    have B6 := Lib.hid (((((B2.out.grown G3.out (by omega) (fun k hk => by injection hk with hk; omega)).trans (B4.out.mono (by omega))).grown hg5 (by omega) (fun k hk => by injection hk with hk; omega))).grown G6 (by omega) (fun k hk => by injection hk with hk; omega))
    have HL := Lib.hid hl
    have HW6 := Lib.hid hw6
    have P6 := Lib.hid P6
    have X6 := Lib.hid X6
    clear hr5 hl hst P5 X5 hg5 hw6 G6 hPw hXw htr
    go_upto_region 10 with (fail)
    rw [← HW6.out]
    clear p0 p1 g0 g1 lP
    obtain ⟨⟨k0, k1, k2⟩, f1, f2, lR⟩ := R6.out.cells
    obtain ⟨p0, p1⟩ := cells2 (lay := Below.refl _ _) P6.out
    obtain ⟨x0, x1⟩ := cells2 (lay := Below.refl _ _) X6.out
    have g0 := free_at (j := 0) X6.out
    have g1 := free_at (j := 1) X6.out
    have lX := lt_of_block X6.out
    by_cases hc : st.code = 0
    · rw [hc] at k2
      obtain ⟨he, hh⟩ := parse_good HST.out hc
      have HE := Lib.hid he
      have hlq := HL.out hc
      have hqq := HQ.out hh
      have HLQ := Lib.hid hlq
      have HQQ := Lib.hid hqq
      clear he hh hlq hqq
      obtain ⟨w9, hw9⟩ : ∃ w9, w9 = (w6.setCell ⟨X, 0, none⟩ (.slice Aq nq cq)).setCell ⟨X, 1, none⟩ (.slice Ab nb cb) := ⟨_, rfl⟩
      have X9 : w9.heap[X]? = some (.cells #[.slice Aq nq cq, .slice Ab nb cb] 25 (0, 0)) := by rw [hw9]; exact heap_set_selfG (heap_set_selfG X6.out _) _
      have G9 : w6.grownBy w9 (some X) := by rw [hw9]; exact gr_gr (gr_set _) (gr_set _)
      obtain ⟨r0, r1⟩ := cells2 (lay := Below.refl _ _) X9
      have hz9 := G9.size
      have HW9 := Lib.hid hw9
      clear hw9
      go_wp2_with fail
      rw [← HW9.out]
      refine bodyPost_ret (v := .tuple #[.agg #[.slice Aq nq cq, .slice Ab nb cb], .int .i64 0, .int .i64 0]) (by simp [results, Tryd.results5, go_sem, r0, r1]) rfl ?_
      unfold RetPz
      rw [HE.out, ← HQQ.out, ← HLQ.out]
      have hXw := HX.out
      exact ⟨Aq, nq, cq, Ab, nb, cb, w4.heap.size, rfl, (slI_gr SQ6.out G9 (by omega)).wide (by omega) (by omega), (trI_gr TR6.out G9 (by omega)).wide (Nat.le_refl _) (by omega), hcq.out, ⟨by omega, by omega⟩, B6.out.grown G9 (by omega) (fun k hk => by injection hk with hk; omega)⟩
    · have d0 : (st.code == 0) = false := by simp [hc]
      have HE := Lib.hid (parse_bad HST.out hc)
      obtain ⟨w9, hw9⟩ : ∃ w9, w9 = (w6.setCell ⟨X, 0, none⟩ (.slice none 0 0)).setCell ⟨X, 1, none⟩ (.slice none 0 0) := ⟨_, rfl⟩
      have X9 : w9.heap[X]? = some (.cells #[.slice none 0 0, .slice none 0 0] 25 (0, 0)) := by rw [hw9]; exact heap_set_selfG (heap_set_selfG X6.out _) _
      have G9 : w6.grownBy w9 (some X) := by rw [hw9]; exact gr_gr (gr_set _) (gr_set _)
      obtain ⟨r0, r1⟩ := cells2 (lay := Below.refl _ _) X9
      have hz9 := G9.size
      have HW9 := Lib.hid hw9
      clear hw9
      go_upto_region 11 with (fail)
      go_region_law (fail)
      all_goals
        go_wp2_with fail
        rw [← HW9.out]
        refine bodyPost_ret (v := .tuple #[.agg #[.slice none 0 0, .slice none 0 0], .int .i64 st.code, .int .i64 st.i]) (by simp [results, Tryd.results5, go_sem, r0, r1]) rfl ?_
        unfold RetPz
        rw [HE.out]
        have hXw := HX.out
        have B9 := B6.out.grown G9 (by omega) (fun k hk => by injection hk with hk; omega)
        exact ⟨none, 0, 0, none, 0, 0, w.heap.size, rfl, slI_none, trI_nil, ⟨Nat.le_refl _, Nat.zero_le _⟩, ⟨Nat.le_refl _, by show w.heap.size ≤ w9.heap.size; omega⟩, ⟨B9.os, B9.tape, B9.output, B9.size, B9.block⟩⟩
end Go.Proofs.YthkbckkghnbonaaDoor
namespace Go.Proofs.YthkbckkghnbonaaDoor
open Go.RowKit
set_option linter.unusedVariables false
theorem validT_mem {d : Nat} {l : List (Tr (d + 1))} {t : Nat} {s : Tr (d + 1)} (h : validT (d + 1) l = true) (hs : l[t]? = some s) : vOne d (validT d) (hdT s) (bdT s) = true := List.all_eq_true.1 h s (List.mem_of_getElem? hs)
theorem vOne_facts {d : Nat} {k : Int} {word : ByteArray} {args : List ByteArray} {count : Int} {bd : List (Tr d)} (h : vOne d (validT d) ⟨k, word, args, count⟩ bd = true) : (1 ≤ k ∧ k ≤ 7) ∧ (k = 2 → 1 ≤ count ∧ count ≤ 9) ∧ validT d bd = true := by
  unfold vOne headV at h
  simp only [Bool.and_eq_true] at h
  obtain ⟨⟨h1, _, _, _, _, h2⟩, _, h3⟩ := h
  refine ⟨inB_iff.1 h1, fun hk => ?_, h3⟩
  unfold okCount at h2
  rw [if_pos hk] at h2
  exact inB_iff.1 h2
theorem own_low {w : World} {B B' e size n : Nat} {v : Value} {xs : List Value} (h : w.ownsRow B e size v n xs) (hB : B' ≤ B) : w.ownsRow B' e size v n xs := by
  refine ⟨h.1, ?_⟩
  rcases h.2 with h2 | ⟨g, cap, cur, h1, h2, h3⟩
  · exact .inl h2
  · exact .inr ⟨g, cap, cur, h1, Nat.le_trans hB h2, h3⟩
end Go.Proofs.YthkbckkghnbonaaDoor
namespace Go.Proofs.YthkbckkghnbonaaDoor
open Go.RowKit
set_option linter.unusedVariables false
/-- A call that hands back these tokens in new memory. -/
def RetTk (w : World) (L : List Tk) : Ending → World → Prop := RetRow 41 2 w L.length (tkcs L)
theorem retTk_of {w w' : World} {L : List Tk} {v : Value} {n : Nat} {xs : List Value} (he : xs = tkcs L) (ho : w'.ownsRow w.heap.size 41 2 v n xs) (hb : Below w.heap.size w w') (hs : w.heap.size ≤ w'.heap.size) : RetTk w L (.returned v) w' := by
  subst he
  have hn : L.length = n := by have := ho.1; rw [tkcs_len] at this; omega
  exact ⟨v, rfl, by rw [hn]; exact ho, hb, hs⟩
/-- The statements of a body, and the tokens of each. -/
def EltsT (f : Nat) (w : World) (Ab : Option Addr) (nb : Nat) (rs : List (List Tk)) : Prop := ∀ t, t < nb → ∃ (b off : Nat) (k : Int) (wd : ByteArray) (Aa : Option Addr) (na ca : Nat) (ct : Int) (Ab' : Option Addr) (nb' cb' : Nat) (r : List Tk),
  Ab = some ⟨b, off, none⟩ ∧ b < w.heap.size ∧ (w.cell? ⟨b, off + t * 5, none⟩ = some (.int .i64 k) ∧ w.cell? ⟨b, off + t * 5 + 1, none⟩ = some (.string wd) ∧ w.cell? ⟨b, off + t * 5 + 2, none⟩ = some (.slice Aa na ca) ∧ w.cell? ⟨b, off + t * 5 + 3, none⟩ = some (.int .i64 ct) ∧ w.cell? ⟨b, off + t * 5 + 4, none⟩ = some (.slice Ab' nb' cb')) ∧
  rs[t]? = some r ∧ ∀ w', Below w.heap.size w w' → Calls Tryd.prog f #[.agg #[.int .i64 k, .string wd, .slice Aa na ca, .int .i64 ct, .slice Ab' nb' cb']] w' (RetTk w' r)
theorem map_step {α : Type} {f : ByteArray → α} {l : List ByteArray} {t : Nat} {s : ByteArray} (h : l[t]? = some s) : (l.take (t + 1)).map f = (l.take t).map f ++ [f s] := by
  rw [List.take_add_one, h]
  simp
set_option maxRecDepth 100000 in
set_option maxHeartbeats 1000000 in
theorem l19Words_any (A : Option Addr) (n c : Nat) (l : List ByteArray) (w : World) (h : Rd w 1 A n (strs l)) (hl : l.length = n) (hn : n ≤ 1048576) :
    Calls Tryd.prog 71 #[.slice A n c] w (RetRow 41 2 w n (tkcs (l.map wTk))) := by
  obtain ⟨i0, hi, hz0, hz1, hz2⟩ := info_parts info_TkE
  have H := Lib.hid h
  have HL := Lib.hid hl
  clear h hl
  go_enter Tryd.func71, Tryd.ntmps71
  go_wp2
  go_loopw [3, 4] (fun v i wr => ∃ t : Nat, t ≤ n ∧ i = .int .i64 t ∧ wr.ownsRow w.heap.size 41 2 v t (tkcs ((l.take t).map wTk)) ∧ Below w.heap.size w wr) (fun _ i _ => n - (intOf i).toNat)
  case atStart => exact ⟨0, Nat.zero_le _, rfl, own_empty w _ 2, (by repeat (first | exact Below.refl _ _ | assumption | (refine Below.trans ?_ (Below.mono (by assumption) (by first | omega | (simp; done) | (simp; omega)))) | (with_reducible refine Below.drew ?_) | (with_reducible refine Below.alloc ?_ (by first | omega | (simp; done) | (simp; omega)) _) | (with_reducible refine Below.setCell ?_ (by first | omega | (simp; done) | (simp; omega)) _)))⟩
  case round =>
    obtain ⟨t, ht, rfl, hown, hb⟩ := hrel
    have hbs := hb.size
    by_cases hlt : t < n
    · obtain ⟨s, hs⟩ : ∃ s, l[t]? = some s := ⟨_, List.getElem?_eq_getElem (by have := HL.out; omega)⟩
      obtain ⟨b, off, rfl, hbl, hc⟩ := H.out.2 (by omega)
      have q0 : wr.cell? ⟨b, off + t, none⟩ = some (.string s) := (hb.cell (by exact hbl)).trans (hc t _ (strs_at hs))
      have HS := Lib.hid (map_step (f := wTk) hs)
      obtain ⟨L, hL⟩ : ∃ L, L = (l.take t).map wTk := ⟨_, rfl⟩
      rw [← hL] at hown HS
      clear hc hs hL
      go_wp2_with fail
      refine (l19Word_any s _).mono ?_
      rintro e w1 ⟨rfl, b1, s1⟩
      have hown1 := ownsRow_below hown b1
      have hb1 := hb.trans (b1.mono hbs)
      have hb1s := hb1.size
      clear hown
      go_wp2_with (at_builtin; refine wpList_append_rd _ rfl _ _ 33 rfl w.heap.size 41 i0 _ 2 24 Tryd.underlying33 hi hz0 hz1 hz2 rfl (by decide) _ _ _ rfl (hown1.alloc _) _ 1 1 _ rfl (rd_lit2 ?c0 rfl) ?c2 ?c3 ?c4 ?c5 ?_)
      case c0 => first | rfl | simp
      case c2 => repeat' (first | rfl | apply And.intro)
      case c3 => simp only [maxLen]; omega
      case c4 => omega
      case c5 => simp; omega
      intro v3 w3 own3 gr3 _
      have b3 := (hb1.alloc hb1s _).grown gr3 (by simp; omega) (own_ge hown1)
      clear hown1 gr3
      go_wp2_with fail
      go_roundw
      case rel =>
        refine ⟨t + 1, by omega, by go_num, ?_, b3⟩
        rw [HS.out, tkcs_append]
        exact own3
      case measure => simp [intOf]; omega
    · obtain rfl : t = n := by omega
      go_wp2_with fail
      go_ret
      exact ⟨_, rfl, by rw [List.take_of_length_le (by rw [HL.out]; exact Nat.le_refl _)] at hown; exact hown, hb, hb.size⟩
end Go.Proofs.YthkbckkghnbonaaDoor
