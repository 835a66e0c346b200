/- What the calls that this law reaches answer, part 16 of 16. -/
import Derived.Test.YthkbckkghnbonaaGreatDoorJParse15
import Derived.Test.YthkbckkghnbonaaGreatDoorJParse12
import Derived.Test.YthkbckkghnbonaaGreatDoorJParse11
import Derived.Test.YthkbckkghnbonaaGreatDoorJParse1
import Derived.Test.YthkbckkghnbonaaGreatDoorJParse10
import Derived.Test.YthkbckkghnbonaaGreatDoorJParse2
import Derived.Test.YthkbckkghnbonaaGreatDoorProg
namespace Go.Proofs.YthkbckkghnbonaaGreatDoor
open Go.RowKit
set_option linter.unusedVariables false
theorem rlS_end {R n c hi e c0 : Nat} {A A0 : Option Addr} {T : List Tk} {s0 st : Rs} {l L : List (Tr (e + 1))} {w wr : World} (hE : s0 = st ∧ (st.code = 0 → l = L)) (hown : OwnI wr w.heap.size hi e (.slice A0 l.length c0) l) (hrd : RdS R A n c T st wr) (hgr : w.grownBy wr (some R)) (q : Nat) :
    RlS R A n c T (e + 1) s0 L w (.returned (.slice A0 l.length c0)) (wr.drewN q) := by
  rw [hE.1]
  exact ⟨A0, l.length, c0, l, rfl, hE.2, TrI.keep (w := wr) (w' := wr.drewN q) (Nat.le_refl _) (hown.tr rfl) (fun _ _ _ _ => rfl), hrd.drewN q, gr_drewN hgr q⟩
def StmtsS (e : Nat) : Prop := ∀ (R n c : Nat) (A : Option Addr) (T : List Tk) (s : Rs) (q : Int) (w : World), RdS R A n c T s w → n ≤ 160 → (∀ t ∈ T, wellTk t) → q = 4 - e →
  Calls Tryz.prog 87 #[.pointer (some ⟨R, 0, none⟩), .int .i64 q] w (RlS R A n c T (e + 1) (Lp T e (T.length + 1) s).1 (Lp T e (T.length + 1) s).2 w)
set_option maxRecDepth 100000 in
set_option maxHeartbeats 8000000 in
theorem l18Stmts_of (e : Nat) (he : e ≤ 4) (hs0 : StmtS e) : StmtsS e := by
  intro R n c A T s o w h hn hT0 hk
  obtain ⟨i0, hi, hz0, hz1, hz2⟩ := info_parts info_Stmt
  have hnT := h.l
  have lR := h.cells.2.2.2
  have hsi := h.i
  have H := Lib.hid h
  have IS := Lib.hid hs0
  have hT := Lib.hid hT0
  have KD := Lib.hid hk
  have hk1 : 0 ≤ o := by omega
  have hk2 : o ≤ 4 := by omega
  have HN := Lib.hid hnT
  clear h hs0 hT0 hk hnT
  go_enter Tryz.func87, Tryz.ntmps87
  go_wp2_with fail
  obtain ⟨w0, hw0⟩ : ∃ w0, w0 = w.alloc (.cells #[] 66) := ⟨_, rfl⟩
  rw [← hw0]
  have b0 : Below w.heap.size w w0 := by rw [hw0]; exact (by repeat (first | exact Below.refl _ _ | assumption | (refine Below.trans ?_ (Below.mono (by assumption) (by first | omega | (simp; done) | (simp; omega)))) | (with_reducible refine Below.drew ?_) | (with_reducible refine Below.alloc ?_ (by first | omega | (simp; done) | (simp; omega)) _) | (with_reducible refine Below.setCell ?_ (by first | omega | (simp; done) | (simp; omega)) _)))
  have OW := Lib.hid (show OwnI w0 w.heap.size w.heap.size e (.slice (some ⟨w.heap.size, 0, none⟩) 0 0) [] by rw [hw0]; exact ownI_empty w e)
  have H0 := Lib.hid (H.out.below b0)
  have G0 := Lib.hid (only_of_below b0 (some R))
  clear hw0 b0 H
  go_loopg [5] (msr n s) (fun k v wr => ∃ (l : List (Tr (e + 1))) (st : Rs) (f hi : Nat), k = msr n st ∧ l.length ≤ st.i + 1 ∧ st.i ≤ n ∧ Hid (st.code = 0 → l.length ≤ st.i) ∧ Hid (OwnI wr w.heap.size hi e v l) ∧ Hid (RdS R A n c T st wr) ∧ Hid (w.grownBy wr (some R)) ∧ Hid (EqL T e s f st l))
  case atStart => exact ⟨[], s, T.length + 1, w.heap.size, rfl, Nat.zero_le _, by have := HN.out; omega, fun _ => Nat.zero_le _, OW.out, H0.out, G0.out, Lib.hid eqL_start⟩
  case round =>
    obtain ⟨l, st, f, h9, hgk, hll1, hin, hll0, hown, hrd, hgr, heq⟩ := hrel
    have HGK := Lib.hid hgk
    clear hgk
    obtain ⟨A0, c0, rfl, _, _⟩ := hown.out.slice
    obtain ⟨⟨k0, k1, k2⟩, f1, f2, lR1⟩ := hrd.out.cells
    by_cases h0 : st.code = 0
    · have HC := Lib.hid h0
      have hll : l.length ≤ st.i := hll0.out h0
      have RC := Lib.hid (show RdS R A n c T ⟨st.i, 0⟩ wr by rw [← h0]; exact hrd.out)
      rw [h0] at k2
      by_cases hlt : st.i < n
      · have hbn : decide ((st.i : Int) < (n : Int)) = true := decide_eq_true (by omega)
        have hlT : st.i < T.length := by have := HN.out; omega
        obtain ⟨K, hK⟩ : ∃ K, K = kindT T st.i := ⟨_, rfl⟩
        have HK := Lib.hid hK
        have KQ := Lib.hid (show ∀ q : Nat, Calls Tryz.prog 85 #[.pointer (some ⟨R, 0, none⟩)] (wr.drewN q) (fun e w' => e = .returned (.int .i64 K) ∧ ∃ m, w' = (wr.drewN q).drewN m) from fun q => by rw [hK]; exact l18Kind_any R n c _ T st _ (hrd.out.drewN q) (by omega))
        clear h0 hK
        by_cases h4 : K = 4
        · subst h4
          by_cases h44 : e = 4
          · have hop : decide (0 < o) = false := decide_eq_false (by have := KD.out; omega)
            go_wp2_with fail
            go_quiet ((go_at_call 85; exact quiet_any (KQ.out _)))
            go_upto_region 3 with (fail)
            refine wp_name (fun wz hwz => ?_)
            have Rwz := Lib.hid (show RdS R A n c T ⟨st.i, 0⟩ wz by rw [hwz]; exact (RC.out).drewN _)
            have Gwz := Lib.hid (show w.grownBy wz (some R) by rw [hwz]; exact gr_drewN (hgr.out) _)
            have Owz := Lib.hid (show OwnI wz w.heap.size h9 e (.slice A0 l.length c0) l by rw [hwz]; exact ownI_drewN (hown.out) _)
            clear hwz k0 k1 k2 f1 f2 lR1
            obtain ⟨⟨k0, k1, k2⟩, f1, f2, lR1⟩ := Rwz.out.cells
            simp only [] at k1 k2
            go_wp2_with (first | (go_at_call 85; refine (l18Kind_any R n c _ T ⟨st.i, 0⟩ wz Rwz.out (by omega)).mono ?_; rintro e9 w' ⟨rfl, mm, rfl⟩; rw [← HK.out]) | (go_at_call 130; refine (l18Fail_any R n c _ T ⟨st.i, 0⟩ 5 _ (Rwz.out.drewN _)).mono ?_; rintro e1 w1 ⟨rfl, hr1, hg1⟩))
            have hgz : wz.grownBy w1 (some R) := gr_gr (gr_drewN (gr_refl _ _) _) hg1
            have hE := eqL_end (eqL_bad l heq.out HC.out hlT (fun h => h.2 h44) (fun h => by have := HK.out; omega)) (.inl (show (5 : Int) ≠ 0 by decide))
            go_ret
            exact rlS_end hE (Owz.out.grown hgz (fun k hk => by injection hk with hk; omega)) (show RdS R A n c T ⟨st.i, 5⟩ w1 from hr1) (gr_gr Gwz.out hgz) 0
          · have hE := eqL_end heq.out (.inr (.inr ⟨HK.out.symm, h44⟩))
            have hop : decide (0 < o) = true := decide_eq_true (by have := KD.out; omega)
            go_wp2_with fail
            go_quiet ((go_at_call 85; exact quiet_any (KQ.out _)))
            go_wp2_with fail
            go_ret
            exact rlS_end hE hown.out hrd.out hgr.out _
        · have h4b : (K == 4) = false := by simp [h4]
          by_cases h1 : K = 1
          · subst h1
            go_wp2_with fail
            go_quiet ((go_at_call 85; exact quiet_any (KQ.out _)))
            go_upto_region 3 with (fail)
            refine wp_name (fun wz hwz => ?_)
            have Rwz := Lib.hid (show RdS R A n c T ⟨st.i, 0⟩ wz by rw [hwz]; exact (RC.out).drewN _)
            have Gwz := Lib.hid (show w.grownBy wz (some R) by rw [hwz]; exact gr_drewN (hgr.out) _)
            have Owz := Lib.hid (show OwnI wz w.heap.size h9 e (.slice A0 l.length c0) l by rw [hwz]; exact ownI_drewN (hown.out) _)
            clear hwz k0 k1 k2 f1 f2 lR1
            obtain ⟨⟨k0, k1, k2⟩, f1, f2, lR1⟩ := Rwz.out.cells
            simp only [] at k1 k2
            have SC := Lib.hid (show ∀ mm : Nat, Calls Tryz.prog 132 #[.pointer (some ⟨R, 0, none⟩), .int .i64 o] (wz.drewN mm) (RsS R A n c T e (sX T e st.i) (stmtR T (innerR T e) ⟨st.i, 0⟩).2 (wz.drewN mm)) from fun mm => IS.out R n c A T st.i o (wz.drewN mm) (Rwz.out.drewN mm) hn hT.out hlt KD.out)
            have hzy := Gwz.out.size
            have hh9 : h9 ≤ wz.heap.size := by obtain ⟨_, _, ⟨_, h⟩, _⟩ := Owz.out; exact h
            have HLT := Lib.hid Owz.out.lt
            go_wp2_with (go_at_call 85; refine (l18Kind_any R n c _ T ⟨st.i, 0⟩ wz Rwz.out (by omega)).mono ?_; rintro e9 w' ⟨rfl, mm, rfl⟩; rw [← HK.out])
            refine (SC.out mm).mono ?_
            rintro e1 w1 ⟨x0, x1, x2, x3, x4, st2, rfl, hst, hsti, hr1, hg1⟩
            have hgw : wz.grownBy w1 (some R) := gr_gr (gr_drewN (gr_refl _ _) mm) hg1
            have hs1 := hgw.size
            obtain ⟨xs, hox, hpush⟩ := (Owz.out.grown hgw (fun k hk => by injection hk with hk; omega)).add HLT.out hh9 hs1 (Nat.le_refl _) hsti
            have PU := Lib.hid hpush
            have HONE := Lib.hid hsti.ones
            have HGE := Lib.hid (own_ge hox)
            have HR1 := Lib.hid hr1
            have HG1 := Lib.hid (gr_gr Gwz.out hgw)
            have hs2 : w.heap.size ≤ w1.heap.size := by omega
            obtain ⟨s2, hs2e⟩ : ∃ s2, s2 = sX T e st.i := ⟨_, rfl⟩
            have hst0 : st = ⟨st.i, 0⟩ := by have := HC.out; cases st; simp at this; rw [this]
            have heq2 : EqL T e s f ⟨st.i, 0⟩ l := by rw [← hst0]; exact heq.out
            have hgo := stmtR_goes (innerR_goes (T := T) e) (s := ⟨st.i, 0⟩) hlT
            have E6 := Lib.hid (show ∃ g, EqL T e s g s2 (l ++ [st2]) by
              rw [hs2e]
              cases hb : begW (textT T st.i)
              · have e2 : sX T e st.i = ⟨st.i, 5⟩ := if_neg (by rw [hb]; decide)
                rw [e2]
                exact ⟨0, eqL_bad (st := ⟨st.i, 0⟩) _ heq2 rfl hlT (fun h => h4 (HK.out.trans h.1)) (fun h => by rw [hb] at h; exact absurd h.2 (by decide))⟩
              · have e2 : sX T e st.i = (stmtR T (innerR T e) ⟨st.i, 0⟩).1 := if_pos hb
                rw [e2] at hst ⊢
                exact eqL_step heq2 rfl hlT HK.out.symm hb hst)
            have hi2 : st.i ≤ s2.i ∧ s2.i ≤ n ∧ (s2.code = 0 → st.i + 1 ≤ s2.i) ∧ msr n s2 < gk := by
              rw [hs2e, HGK.out]
              cases hb : begW (textT T st.i)
              · have e2 : sX T e st.i = ⟨st.i, 5⟩ := if_neg (by rw [hb]; decide)
                rw [e2]
                exact ⟨Nat.le_refl _, hin, fun h => absurd (show (5 : Int) = 0 from h) (by decide), msr_fail HC.out⟩
              · have e2 : sX T e st.i = (stmtR T (innerR T e) ⟨st.i, 0⟩).1 := if_pos hb
                rw [e2]
                exact ⟨Nat.le_trans (Nat.le_succ _) hgo.1, by rw [← HN.out]; exact hgo.2, fun _ => hgo.1, msr_step hgo.1 hlt⟩
            rw [← hs2e] at HR1
            have HI2 := Lib.hid hi2
            clear hs2e hst0 heq2 hgo hi2 hst hsti hr1 hg1 hgw hpush
            go_wp2_with (at_builtin; refine wpList_append_rd _ rfl _ _ 25 rfl w.heap.size 66 i0 _ 5 80 Tryz.underlying25 hi hz0 hz1 hz2 rfl (by decide) _ _ _ rfl (hox.alloc _) _ 1 1 _ rfl (rd_lit1 ?c0 rfl) HONE.out ?c3 ?c4 ?c5 ?_)
            try (case c0 => first | rfl | simp)
            case c3 => simp only [maxLen]; omega
            case c4 => omega
            case c5 => first | omega | (simp; omega)
            intro v6 w6 own6 gr6 hat
            have H6 := Lib.hid ((HR1.out.below ((Below.refl _ _).alloc (Nat.le_refl _) _)).own gr6 (fun k hk => by have := HGE.out k hk; omega))
            have G6 := Lib.hid (gr_own (gr_below HG1.out ((Below.refl _ _).alloc (Nat.le_refl _) _)) gr6 HGE.out)
            have O6 := Lib.hid (PU.out _ _ _ own6 ((Below.refl _ _).alloc (Nat.le_refl _) _) gr6 (hat.imp id fun e => e.trans (by simp)))
            clear gr6 own6 hat hox
            go_wp2_with fail
            go_roundg (msr n s2)
            case rel =>
              obtain ⟨g, hg⟩ := E6.out
              obtain ⟨i1, i2, i3, i4⟩ := HI2.out
              exact ⟨l ++ [st2], s2, g, w1.heap.size, rfl, by rw [List.length_append]; show l.length + 1 ≤ _; omega, i2, fun h => by rw [List.length_append]; have := i3 h; show l.length + 1 ≤ _; omega, O6.out, H6.out, G6.out, hg⟩
            case measure => exact HI2.out.2.2.2
          · have h1b : (K == 1) = false := by simp [h1]
            have h1c : (kindT T st.i == 1) = false := by rw [← HK.out]; exact h1b
            go_wp2_with fail
            go_quiet ((go_at_call 85; exact quiet_any (KQ.out _)))
            go_upto_region 3 with (fail)
            refine wp_name (fun wz hwz => ?_)
            have Rwz := Lib.hid (show RdS R A n c T ⟨st.i, 0⟩ wz by rw [hwz]; exact (RC.out).drewN _)
            have Gwz := Lib.hid (show w.grownBy wz (some R) by rw [hwz]; exact gr_drewN (hgr.out) _)
            have Owz := Lib.hid (show OwnI wz w.heap.size h9 e (.slice A0 l.length c0) l by rw [hwz]; exact ownI_drewN (hown.out) _)
            clear hwz k0 k1 k2 f1 f2 lR1
            obtain ⟨⟨k0, k1, k2⟩, f1, f2, lR1⟩ := Rwz.out.cells
            simp only [] at k1 k2
            go_wp2_with (first | (go_at_call 85; refine (l18Kind_any R n c _ T ⟨st.i, 0⟩ wz Rwz.out (by omega)).mono ?_; rintro e9 w' ⟨rfl, mm, rfl⟩; rw [← HK.out]) | (go_at_call 130; refine (l18Fail_any R n c _ T ⟨st.i, 0⟩ 5 _ (Rwz.out.drewN _)).mono ?_; rintro e1 w1 ⟨rfl, hr1, hg1⟩))
            have hgz : wz.grownBy w1 (some R) := gr_gr (gr_drewN (gr_refl _ _) _) hg1
            have hE := eqL_end (eqL_bad l heq.out HC.out hlT (fun h => h4 (HK.out.trans h.1)) (fun h => h1 (HK.out.trans h.1))) (.inl (show (5 : Int) ≠ 0 by decide))
            go_ret
            exact rlS_end hE (Owz.out.grown hgz (fun k hk => by injection hk with hk; omega)) (show RdS R A n c T ⟨st.i, 5⟩ w1 from hr1) (gr_gr Gwz.out hgz) 0
      · have hin2 : st.i = n := by omega
        have hbn : decide ((st.i : Int) < (n : Int)) = false := decide_eq_false (by omega)
        have hE := eqL_end heq.out (.inr (.inl (by have := HN.out; omega)))
        clear hin2
        go_wp2_with fail
        go_quiet (fail)
        go_wp2_with fail
        go_ret
        exact rlS_end hE hown.out hrd.out hgr.out _
    · have hE := eqL_end heq.out (.inl h0)
      have d0 : (st.code == 0) = false := by simp [h0]
      go_wp2_with fail
      go_quiet (fail)
      go_wp2_with fail
      go_ret
      exact rlS_end hE hown.out hrd.out hgr.out _
set_option maxRecDepth 100000 in
set_option maxHeartbeats 1000000 in
theorem inner_zeroS : InnerS 0 := by
  intro R n c A T s k w h hn hT0 hc hk
  have h0 : s.code ≠ 0 := hc rfl
  obtain ⟨⟨k0, k1, k2⟩, f1, f2, lR⟩ := h.cells
  have H := Lib.hid h
  have d0 : (s.code == 0) = false := by simp [h0]
  clear h hc hk h0
  go_enter Tryz.func87, Tryz.ntmps87
  go_wp2_with fail
  refine wp_loop_rounds 1 ?_
  rw [rounds_succ]
  go_wp2_with fail
  have B0 : Below w.heap.size w (w.alloc (.cells #[] 66)) := (Below.refl _ _).alloc (Nat.le_refl _) _
  obtain ⟨⟨p0, p1, p2⟩, e1, e2, lR1⟩ := (H.out.below B0).cells
  go_quiet (fail)
  go_wp2_with fail
  go_ret
  exact ⟨_, 0, 0, [], rfl, fun _ => rfl, trI_nil, (H.out.below B0).drewN _, gr_drewN (gr_below (gr_refl _ _) B0) _⟩
theorem inner_succS (e : Nat) (he : e ≤ 3) (h : StmtsS e) : InnerS (e + 1) := by
  intro R n c A T s k w h1 h4 h5 _ h6
  have e1 : innerR T (e + 1) s = Lp T e (T.length + 1) s := by
    have hd : decide (e = 4) = false := decide_eq_false (by omega)
    unfold Lp
    rw [hd]
    rfl
  rw [e1]
  exact h R n c A T s k w h1 h4 h5 (by omega)
end Go.Proofs.YthkbckkghnbonaaGreatDoor
namespace Go.Proofs.YthkbckkghnbonaaGreatDoor
open Go.RowKit
set_option linter.unusedVariables false
def HqS (T : List Tk) (st : Rs) (Q : List ByteArray) : Prop := (Q = [] ∧ st = ⟨1, 0⟩) ∨ (1 ≤ Q.length ∧ ∃ m, m ≤ 3 ∧ HqL T m st Q)
theorem hqS_full {T : List Tk} {st : Rs} {Q : List ByteArray} (h : HqS T st Q) (h4 : Q.length = 4) (h1 : st.code = 0 ∧ kindT T st.i = 1) : (headR T).1 = ⟨st.i, 10⟩ := by
  rcases h with ⟨rfl, _⟩ | ⟨_, m, _, hm, he⟩
  · simp at h4
  · have : m = 0 := by omega
    subst this
    rw [he, qR_full h1]
theorem hqS_more {T : List Tk} {st : Rs} {Q : List ByteArray} (hh : kindT T 0 = 1 ∧ (textT T 0).toList = [113, 117, 98, 105, 116, 115]) (h : HqS T st Q) (h4 : Q.length ≠ 4) (h1 : st.code = 0 ∧ kindT T st.i = 1) : HqS T (takeR T st 1 3).1 (Q ++ [(takeR T st 1 3).2]) := by
  right
  rcases h with ⟨rfl, rfl⟩ | ⟨h0, m, hm3, hm⟩
  · exact ⟨by simp, 3, Nat.le_refl _, rfl, headR_yes hh⟩
  · obtain ⟨m, rfl⟩ : ∃ m', m = m' + 1 := ⟨m - 1, by have := hm.1; omega⟩
    exact ⟨by rw [List.length_append]; omega, m, by omega, hqL_more hm h1⟩
theorem hqS_end {T : List Tk} {st : Rs} {Q : List ByteArray} (h : HqS T st Q) (hQ : 1 ≤ Q.length) (hno : ¬ (st.code = 0 ∧ kindT T st.i = 1)) : headR T = ((takeR T st 2 4).1, Q) := by
  rcases h with ⟨rfl, _⟩ | ⟨_, m, _, hm⟩
  · simp at hQ
  · rw [hm.2, qR_end hno, List.append_nil]
theorem hqS_none {T : List Tk} {st : Rs} (hh : kindT T 0 = 1 ∧ (textT T 0).toList = [113, 117, 98, 105, 116, 115]) (h : HqS T st []) (hno : ¬ (st.code = 0 ∧ kindT T st.i = 1)) : (headR T).1 = (takeR T (failR st 3) 2 4).1 ∧ (headR T).1.code ≠ 0 := by
  rcases h with ⟨_, rfl⟩ | ⟨h, _⟩
  · have e : (headR T).1 = (takeR T (failR ⟨1, 0⟩ 3) 2 4).1 := by
      rw [headR_yes hh, takeR_no hno, qR_end (fun h => absurd h.1 (failR_ne (by decide)))]
    refine ⟨e, ?_⟩
    rw [e, takeR_keep (failR_ne (by decide))]
    exact failR_ne (by decide)
  · simp at h
def RhS (R : Nat) (A : Option Addr) (n c : Nat) (T : List Tk) (s : Rs) (Q : List ByteArray) (w : World) (e : Ending) (w' : World) : Prop :=
  ∃ A' n' c' Q', e = .returned (.slice A' n' c') ∧ (s.code = 0 → Q' = Q) ∧ SlI w' w.heap.size w'.heap.size 1 A' n' (strs Q') ∧ n' ≤ c' ∧ c' ≤ maxLen ∧ RdS R A n c T s w' ∧ w.grownBy w' (some R)
set_option maxRecDepth 100000 in
set_option maxHeartbeats 4000000 in
theorem l18Names_any (R n c : Nat) (A : Option Addr) (T : List Tk) (w : World) (h : RdS R A n c T ⟨1, 0⟩ w) (hn : n ≤ 160) (hh0 : kindT T 0 = 1 ∧ (textT T 0).toList = [113, 117, 98, 105, 116, 115]) : Calls Tryz.prog 86 #[.pointer (some ⟨R, 0, none⟩)] w (RhS R A n c T (headR T).1 (headR T).2 w) := by
  obtain ⟨i0, hi, hz0, hz1, hz2⟩ := info_parts info_str
  have lR0 := h.cells.2.2.2
  have hn1 : 1 ≤ n := by have h1 := h.i; have h2 := h.l; simp only [] at h1; omega
  have H := Lib.hid h
  have HH := Lib.hid hh0
  clear h hh0
  go_enter Tryz.func86, Tryz.ntmps86
  go_wp2_with fail
  obtain ⟨w0, hw0⟩ : ∃ w0, w0 = w.alloc (.cells #[] 9) := ⟨_, rfl⟩
  rw [← hw0]
  have b0 : Below w.heap.size w w0 := by rw [hw0]; exact (by repeat (first | exact Below.refl _ _ | assumption | (refine Below.trans ?_ (Below.mono (by assumption) (by first | omega | (simp; done) | (simp; omega)))) | (with_reducible refine Below.drew ?_) | (with_reducible refine Below.alloc ?_ (by first | omega | (simp; done) | (simp; omega)) _) | (with_reducible refine Below.setCell ?_ (by first | omega | (simp; done) | (simp; omega)) _)))
  have OW := Lib.hid (show w0.ownsRow w.heap.size 9 1 (.slice (some ⟨w.heap.size, 0, none⟩) 0 0) 0 [] by rw [hw0]; exact own_empty _ _ _)
  have H0 := Lib.hid (H.out.below b0)
  have G0 := Lib.hid (only_of_below b0 (some R))
  clear hw0 b0
  go_loopg [3] (msr n ⟨1, 0⟩) (fun k v wr => ∃ (Q : List ByteArray) (st : Rs), k = msr n st ∧ st.i ≤ n ∧ Hid (Q.length ≤ 4) ∧ Hid (wr.ownsRow w.heap.size 9 1 v Q.length (strs Q)) ∧ Hid (RdS R A n c T st wr) ∧ Hid (w.grownBy wr (some R)) ∧ Hid (HqS T st Q))
  case atStart => exact ⟨[], ⟨1, 0⟩, rfl, hn1, Nat.zero_le _, OW.out, H0.out, G0.out, .inl ⟨rfl, rfl⟩⟩
  case round =>
    obtain ⟨Q, st, hgk, hin, hql, hown, hrd, hgr, heq⟩ := hrel
    have HGK := Lib.hid hgk
    clear hgk
    obtain ⟨A0, c0, rfl, hc0, hcm, _⟩ := rd_of_own hown.out
    have HC0 := Lib.hid hc0
    have HCM := Lib.hid hcm
    obtain ⟨⟨k0, k1, k2⟩, f1, f2, lR⟩ := hrd.out.cells
    obtain ⟨q, hq⟩ : ∃ q, q = Q.length := ⟨_, rfl⟩
    rw [← hq] at hql hown HC0
    have HQ := Lib.hid hq
    rw [← hq]
    clear hq hc0 hcm
    by_cases h01 : st.code = 0 ∧ kindT T st.i = 1
    · obtain ⟨h0, h1⟩ := h01
      have hlt : st.i < T.length := kindT_lt (by rw [h1]; decide)
      have hltn : st.i < n := by have := hrd.out.l; omega
      have HK1 := Lib.hid h1
      have h01 := Lib.hid (And.intro h0 h1)
      have HC := Lib.hid h0
      rw [h0] at k2
      clear h0 h1
      by_cases hq4 : q = 4
      · have HE := Lib.hid (hqS_full heq.out (by rw [← HQ.out]; exact hq4) h01.out)
        have HF := Lib.hid (failR_0 HC.out 10)
        have hq4b : ((q : Int) == 4) = true := by simp [hq4]
        clear hq4
        go_wp2_with (first | (go_at_call 85; refine (l18Kind_any R n c _ T st _ hrd.out (by omega)).mono ?_; rintro e w' ⟨rfl, mm, rfl⟩; rw [HK1.out]) | (go_at_call 130; refine (l18Fail_any R n c _ T st 10 _ (hrd.out.drewN _)).mono ?_; rintro e w2 ⟨rfl, hr, hg⟩))
        have hgw : wr.grownBy w2 (some R) := gr_gr (gr_drewN (gr_refl _ _) _) hg
        have ow2 := own_drawG hown.out hgw lR0
        go_ret
        refine ⟨A0, q, c0, Q, rfl, fun h => ?_, (slI_of_own ow2).wide (Nat.le_refl _) (Nat.le_refl _), HC0.out, HCM.out, ?_, gr_gr hgr.out hgw⟩
        · rw [HE.out] at h
          exact absurd (show (10 : Int) = 0 from h) (by decide)
        · rw [HE.out, ← HF.out]
          exact hr
      · have hq4b : ((q : Int) == 4) = false := by simp; omega
        have hq3 : q ≤ 3 := by have := hql.out; omega
        have HQN := Lib.hid (hqS_more HH.out heq.out (by rw [← HQ.out]; exact hq4) h01.out)
        go_wp2_with (go_at_call 85; refine (l18Kind_any R n c _ T st _ hrd.out (by omega)).mono ?_; rintro e w' ⟨rfl, mm, rfl⟩; rw [HK1.out])
        refine (l18Take_any R n c _ T st 1 3 _ (hrd.out.drewN mm) (by omega) (by decide)).mono ?_
        rintro e w2 ⟨rfl, hr, hg⟩
        have hown2 := own_drawG (own_drewNG hown.out mm) hg lR0
        have hgw : wr.grownBy w2 (some R) := gr_gr (gr_drewN (gr_refl _ _) mm) hg
        have hs2 := (gr_gr hgr.out hgw).size
        have H2 := Lib.hid hr
        have G2 := Lib.hid (gr_gr hgr.out hgw)
        have HGE := Lib.hid (own_ge hown2)
        have hi2 : (takeR T st 1 3).1.i ≤ n := by have := hr.i; have := hr.l; omega
        have HMS := Lib.hid (show msr n (takeR T st 1 3).1 < msr n st by rw [takeR_yes h01.out.1 h01.out.2]; exact msr_step (Nat.le_refl _) hltn)
        clear hr hg hgw
        go_wp2_with (at_builtin; refine wpList_append_rd _ rfl _ _ 24 rfl w.heap.size 9 i0 _ 1 16 Tryz.underlying24 hi hz0 hz1 hz2 rfl (by decide) _ _ _ rfl (hown2.alloc _) _ 1 1 _ rfl (rd_lit1 ?c0 rfl) (one_strN _) ?c3 ?c4 ?c5 ?_)
        try (case c0 => first | rfl | simp)
        case c3 => simp only [maxLen]; omega
        case c4 => omega
        case c5 => first | omega | (simp; omega)
        intro v6 w6 own6 gr6 hat
        have H6 := Lib.hid ((H2.out.below ((Below.refl _ _).alloc (Nat.le_refl _) _)).own gr6 (fun k hk => by have := HGE.out k hk; omega))
        have G6 := Lib.hid (gr_own (gr_below G2.out ((Below.refl _ _).alloc (Nat.le_refl _) _)) gr6 HGE.out)
        have O6 := Lib.hid own6
        clear gr6 own6 hat hown2
        go_wp2_with fail
        go_roundg (msr n (takeR T st 1 3).1)
        case rel => exact ⟨Q ++ [(takeR T st 1 3).2], (takeR T st 1 3).1, rfl, hi2, by rw [List.length_append, ← HQ.out]; show q + 1 ≤ 4; omega, by rw [List.length_append, ← HQ.out, strs_snoc1]; exact O6.out, H6.out, G6.out, HQN.out⟩
        case measure => rw [HGK.out]; exact HMS.out
    · have HNO := Lib.hid h01
      obtain ⟨wz, hwz⟩ : ∃ wz : World, wz = wr := ⟨_, rfl⟩
      by_cases hq0 : q = 0
      · have hQ0 : Q = [] := List.eq_nil_of_length_eq_zero (by rw [← HQ.out]; exact hq0)
        have hs0 := hqS_none HH.out (by rw [← hQ0]; exact heq.out) h01
        have HE := Lib.hid hs0
        have hq0b : ((q : Int) == 0) = true := by simp [hq0]
        clear hs0 hq0 hQ0 hwz
        by_cases h0 : st.code = 0
        · have d1 : (kindT T st.i == 1) = false := by simp; exact fun h => h01 ⟨h0, h⟩
          rw [h0] at k2
          clear h01
          go_wp2_with (first | (go_at_call 85; refine (l18Kind_any R n c _ T st _ hrd.out (by omega)).mono ?_; rintro e w' ⟨rfl, mm, rfl⟩) | (go_at_call 130; refine (l18Fail_any R n c _ T st 3 _ (hrd.out.drewN _)).mono ?_; rintro e w2 ⟨rfl, hr, hg⟩))
          refine (l18Take_any R n c _ T _ 2 4 _ hr (by omega) (by decide)).mono ?_
          rintro e w3 ⟨rfl, hr3, hg3⟩
          have hgw : wr.grownBy w3 (some R) := gr_gr (gr_gr (gr_drewN (gr_refl _ _) _) hg) hg3
          have ow3 := own_drawG hown.out hgw lR0
          go_wp2_with fail
          go_ret
          exact ⟨A0, q, c0, Q, rfl, fun h => absurd h HE.out.2, (slI_of_own ow3).wide (Nat.le_refl _) (Nat.le_refl _), HC0.out, HCM.out, by rw [HE.out.1]; exact hr3, gr_gr hgr.out hgw⟩
        · have d1 : (st.code == 0) = false := by simp [h0]
          clear h01
          go_wp2_with (go_at_call 130; refine (l18Fail_any R n c _ T st 3 _ hrd.out).mono ?_; rintro e w2 ⟨rfl, hr, hg⟩)
          refine (l18Take_any R n c _ T _ 2 4 _ hr (by omega) (by decide)).mono ?_
          rintro e w3 ⟨rfl, hr3, hg3⟩
          have hgw : wr.grownBy w3 (some R) := gr_gr hg hg3
          have ow3 := own_drawG hown.out hgw lR0
          go_wp2_with fail
          go_ret
          exact ⟨A0, q, c0, Q, rfl, fun h => absurd h HE.out.2, (slI_of_own ow3).wide (Nat.le_refl _) (Nat.le_refl _), HC0.out, HCM.out, by rw [HE.out.1]; exact hr3, gr_gr hgr.out hgw⟩
      · have hq0b : ((q : Int) == 0) = false := by simp; omega
        have HE := Lib.hid (hqS_end heq.out (by rw [← HQ.out]; omega) h01)
        clear hwz
        by_cases h0 : st.code = 0
        · have d1 : (kindT T st.i == 1) = false := by simp; exact fun h => h01 ⟨h0, h⟩
          rw [h0] at k2
          clear h01
          go_wp2_with (go_at_call 85; refine (l18Kind_any R n c _ T st _ hrd.out (by omega)).mono ?_; rintro e w' ⟨rfl, mm, rfl⟩)
          refine (l18Take_any R n c _ T st 2 4 _ (hrd.out.drewN mm) (by omega) (by decide)).mono ?_
          rintro e w3 ⟨rfl, hr3, hg3⟩
          have hgw : wr.grownBy w3 (some R) := gr_gr (gr_drewN (gr_refl _ _) _) hg3
          have ow3 := own_drawG hown.out hgw lR0
          go_wp2_with fail
          go_ret
          rw [HE.out]
          exact ⟨A0, q, c0, Q, rfl, fun _ => rfl, (slI_of_own ow3).wide (Nat.le_refl _) (Nat.le_refl _), HC0.out, HCM.out, hr3, gr_gr hgr.out hgw⟩
        · have d1 : (st.code == 0) = false := by simp [h0]
          clear h01
          go_wp2_with fail
          refine (l18Take_any R n c _ T st 2 4 _ hrd.out (by omega) (by decide)).mono ?_
          rintro e w3 ⟨rfl, hr3, hg3⟩
          have ow3 := own_drawG hown.out hg3 lR0
          go_wp2_with fail
          go_ret
          rw [HE.out]
          exact ⟨A0, q, c0, Q, rfl, fun _ => rfl, (slI_of_own ow3).wide (Nat.le_refl _) (Nat.le_refl _), HC0.out, HCM.out, hr3, gr_gr hgr.out hg3⟩
end Go.Proofs.YthkbckkghnbonaaGreatDoor
namespace Go.Proofs.YthkbckkghnbonaaGreatDoor
open Go.RowKit
set_option linter.unusedVariables false
theorem stmtsS_all : ∀ e : Nat, e ≤ 4 → StmtsS e := by
  intro e
  induction e with
  | zero => intro _; exact l18Stmts_of 0 (by omega) (l18Stmt_of 0 (by omega) (l18Body_of 0 (by omega) inner_zeroS))
  | succ e ih => intro he; exact l18Stmts_of (e + 1) he (l18Stmt_of (e + 1) he (l18Body_of (e + 1) he (inner_succS e (by omega) (ih (by omega)))))
set_option maxRecDepth 100000 in
set_option maxHeartbeats 4000000 in
theorem ParseProgram_spec (s : ByteArray) (w : World) (hs : s.size ≤ 1099511627776) : Calls Tryz.prog 31 #[.string s] w (RetPz (tkS s) w) := by
  obtain ⟨X, hX⟩ : ∃ X, X = w.heap.size := ⟨_, rfl⟩
  have HX := Lib.hid hX
  obtain ⟨w0, hw0⟩ : ∃ w0, w0 = w.alloc (.cells #[.slice none 0 0, .slice none 0 0] 27) := ⟨_, rfl⟩
  have X0 : w0.heap[X]? = some (.cells #[.slice none 0 0, .slice none 0 0] 27 (0, 0)) := by rw [hw0]; exact heap_topG hX
  have b0 : Below w.heap.size w w0 := by rw [hw0]; exact below_alloc1
  have HW0 := Lib.hid hw0
  have B0 := Lib.hid b0
  have hz0 := b0.size
  have X0 := Lib.hid X0
  clear hX hw0 b0
  cases ht : tkS s with
  | none =>
    have HT := Lib.hid ht
    clear ht
    go_enter Tryz.func31, Tryz.ntmps31
    go_wp2_with fail
    rw [← HW0.out, ← HX.out]
    refine (Tokenize_spec s w0 hs).mono ?_
    rintro e w1 ⟨A, c, T, hT, rfl, hrd, b1, s1⟩
    rw [HT.out]
    have X1 := (b1.block X (lt_of_block X0.out)).trans X0.out
    obtain ⟨p0, p1⟩ := cells2 (lay := Below.refl _ _) X1
    have g0 := free_at (j := 0) X1
    have g1 := free_at (j := 1) X1
    have lX := lt_of_block X1
    have hs1 := b1.size
    have B1 := Lib.hid (B0.out.trans (b1.mono hz0))
    clear hT hrd b1 s1
    go_wp2_with fail
    obtain ⟨w9, hw9⟩ : ∃ w9, w9 = (w1.setCell ⟨X, 0, none⟩ (.slice none 0 0)).setCell ⟨X, 1, none⟩ (.slice none 0 0) := ⟨_, rfl⟩
    have X9 : w9.heap[X]? = some (.cells #[.slice none 0 0, .slice none 0 0] 27 (0, 0)) := by rw [hw9]; exact heap_set_selfG (heap_set_selfG X1 _) _
    have G9 : w1.grownBy w9 (some X) := by rw [hw9]; exact gr_gr (gr_set _) (gr_set _)
    obtain ⟨r0, r1⟩ := cells2 (lay := Below.refl _ _) X9
    have hz9 := G9.size
    rw [← hw9]
    exact bodyPost_ret (v := .tuple #[.agg #[.slice none 0 0, .slice none 0 0], .int .i64 1, .int .i64 0]) (by simp [results, Tryz.results31, go_sem, r0, r1]) rfl ⟨none, 0, 0, none, 0, 0, w.heap.size, rfl, slI_none, trI_nil, ⟨Nat.le_refl _, Nat.zero_le _⟩, ⟨Nat.le_refl _, by omega⟩, B1.out.grown G9 (by omega) (fun k hk => by injection hk with hk; have := HX.out; omega)⟩
  | some T =>
    obtain ⟨hwell, hlen⟩ := tkz_well _ _ _ _ (Nat.le_refl _) ht (by omega)
    have HT := Lib.hid ht
    have HWL := Lib.hid hwell
    clear ht hwell
    go_enter Tryz.func31, Tryz.ntmps31
    go_wp2_with fail
    rw [← HW0.out, ← HX.out]
    refine (Tokenize_spec s w0 hs).mono ?_
    rintro e w1 ⟨A, c, T', hT, rfl, hrd, b1, s1⟩
    rw [HT.out] at hT ⊢
    have hTT : T' = T := hT
    subst hTT
    have X1 := (b1.block X (lt_of_block X0.out)).trans X0.out
    obtain ⟨n, hn⟩ : ∃ n, n = T'.length := ⟨_, rfl⟩
    have hs1 := b1.size
    obtain ⟨R, hR⟩ : ∃ R, R = w1.heap.size := ⟨_, rfl⟩
    have HR := Lib.hid hR
    obtain ⟨w2, hw2⟩ : ∃ w2, w2 = w1.alloc (.cells #[.slice A n c, .int .i64 0, .int .i64 0] 114) := ⟨_, rfl⟩
    have b2 : Below w1.heap.size w1 w2 := by rw [hw2]; exact below_alloc1
    have R2 : RdS R A n c T' ⟨0, 0⟩ w2 := by
      refine ⟨by rw [hw2]; exact heap_topG hR, ?_, hn.symm, Nat.zero_le _⟩
      rw [hR, hn]
      exact (rdq_lt hrd).below b2
    have B2 : Below w.heap.size w w2 := (B0.out.trans (b1.mono hz0)).trans (b2.mono (by omega))
    have X2 := Lib.hid ((b2.block X (lt_of_block X1)).trans X1)
    have hz2 : R < w2.heap.size := lt_of_block R2.x
    have hXR : X < R := by rw [hR]; exact lt_of_block X1
    have hXw : X = w.heap.size := HX.out
    have hn160 : n ≤ 160 := by omega
    have HN := Lib.hid hn
    have B2 := Lib.hid B2
    have R2 := Lib.hid R2
    have HW2 := Lib.hid hw2
    rw [← hn]
    clear hT hrd b1 s1 X1 hR hw2 b2 hn hlen hXw
    by_cases hk : kindT T' 0 = 1 ∧ (textT T' 0).toList = [113, 117, 98, 105, 116, 115]
    rotate_left
    · have HHN := Lib.hid (headR_no hk)
      have HE := Lib.hid (parse_bad (T := T') (st := ⟨0, 2⟩) (by rw [headR_no hk]; show (Lp T' 4 (T'.length + 1) ⟨0, 2⟩).1 = _; rw [show Lp T' 4 (T'.length + 1) ⟨0, 2⟩ = (⟨0, 2⟩, []) from loopR_code (by decide)]) (by decide))
      obtain ⟨x0, x1⟩ := cells2 (lay := Below.refl _ _) X2.out
      have g0 := free_at (j := 0) X2.out
      have g1 := free_at (j := 1) X2.out
      have lX := lt_of_block X2.out
      obtain ⟨w9, hw9⟩ : ∃ w9, w9 = ((w2.setCell ⟨X, 0, none⟩ (.slice none 0 0)).setCell ⟨X, 1, none⟩ (.slice none 0 0)) := ⟨_, rfl⟩
      have X9 : w9.heap[X]? = some (.cells #[.slice none 0 0, .slice none 0 0] 27 (0, 0)) := by rw [hw9]; exact heap_set_selfG (heap_set_selfG X2.out _) _
      have G9 : w2.grownBy w9 (some X) := by rw [hw9]; exact gr_gr (gr_set _) (gr_set _)
      obtain ⟨r0, r1⟩ := cells2 (lay := Below.refl _ _) X9
      have hz9 := G9.size
      have HW9 := Lib.hid hw9
      clear hw9
      by_cases hk1 : kindT T' 0 = 1
      · have hlt : 0 < T'.length := kindT_lt (by rw [hk1]; decide)
        have hn0 : 0 < n := by have := HN.out; omega
        obtain ⟨bT, oT, rfl, hbR, hbl, t0, t1⟩ := R2.out.tok hn0
        have t1' : w2.cell? ⟨bT, oT + 1, none⟩ = some (.string (textT T' 0)) := by have := t1; simpa using this
        have e1 : ((textT T' 0).toList == [113, 117, 98, 105, 116, 115]) = false := by rw [beq_eq_false_iff_ne]; exact fun e => hk ⟨hk1, e⟩
        have HK1 := Lib.hid hk1
        clear t0 t1 hk hk1
        go_upto_region 5 with (fail)
        rw [← HR.out, ← HW2.out]
        go_wp2_with (go_at_call 85; refine (l18Kind_any R n c _ T' ⟨0, 0⟩ w2 R2.out (by omega)).mono ?_; rintro e w' ⟨rfl, mm, rfl⟩; rw [HK1.out])
        refine bodyPost_ret (v := .tuple #[.agg #[.slice none 0 0, .slice none 0 0], .int .i64 2, .int .i64 0]) (by
          have q0 : ∀ j u, w9.cell? ⟨X, j, none⟩ = some u → (((w2.drewN mm).setCell ⟨X, 0, none⟩ (.slice none 0 0)).setCell ⟨X, 1, none⟩ (.slice none 0 0)).cell? ⟨X, j, none⟩ = some u := fun j u h => by rw [HW9.out] at h; exact h
          have s0 := q0 0 _ r0
          have s1 := q0 1 _ r1
          simp [results, Tryz.results31, go_sem, s0, s1]) rfl ?_
        unfold RetPz
        rw [HE.out]
        have hXw := HX.out
        have B9 := B2.out.grown G9 (by omega) (fun k hk => by injection hk with hk; omega)
        rw [HW9.out] at B9
        exact ⟨none, 0, 0, none, 0, 0, w.heap.size, rfl, slI_none, trI_nil, ⟨Nat.le_refl _, Nat.zero_le _⟩, ⟨Nat.le_refl _, B9.size⟩, ⟨B9.os, B9.tape, B9.output, B9.size, B9.block⟩⟩
      · have d1 : (kindT T' 0 == 1) = false := by simp [hk1]
        have d2 : (kindT T' 0 != 1) = true := by simp [hk1]
        clear hk hk1
        go_upto_region 5 with (fail)
        rw [← HR.out, ← HW2.out]
        go_wp2_with (go_at_call 85; refine (l18Kind_any R n c _ T' ⟨0, 0⟩ w2 R2.out (by omega)).mono ?_; rintro e w' ⟨rfl, mm, rfl⟩)
        refine bodyPost_ret (v := .tuple #[.agg #[.slice none 0 0, .slice none 0 0], .int .i64 2, .int .i64 0]) (by
          have q0 : ∀ j u, w9.cell? ⟨X, j, none⟩ = some u → (((w2.drewN mm).setCell ⟨X, 0, none⟩ (.slice none 0 0)).setCell ⟨X, 1, none⟩ (.slice none 0 0)).cell? ⟨X, j, none⟩ = some u := fun j u h => by rw [HW9.out] at h; exact h
          have s0 := q0 0 _ r0
          have s1 := q0 1 _ r1
          simp [results, Tryz.results31, go_sem, s0, s1]) rfl ?_
        unfold RetPz
        rw [HE.out]
        have hXw := HX.out
        have B9 := B2.out.grown G9 (by omega) (fun k hk => by injection hk with hk; omega)
        rw [HW9.out] at B9
        exact ⟨none, 0, 0, none, 0, 0, w.heap.size, rfl, slI_none, trI_nil, ⟨Nat.le_refl _, Nat.zero_le _⟩, ⟨Nat.le_refl _, B9.size⟩, ⟨B9.os, B9.tape, B9.output, B9.size, B9.block⟩⟩
    have HH := Lib.hid hk
    obtain ⟨hk1, hk2⟩ := hk
    have hlt : 0 < T'.length := kindT_lt (by rw [hk1]; decide)
    have hn0 : 0 < n := by have := HN.out; omega
    obtain ⟨bT, oT, rfl, hbR, hbl, t0, t1⟩ := R2.out.tok hn0
    have t1' : w2.cell? ⟨bT, oT + 1, none⟩ = some (.string (textT T' 0)) := by have := t1; simpa using this
    have e1 : ((textT T' 0).toList == [113, 117, 98, 105, 116, 115]) = true := by rw [hk2]; rfl
    have HK1 := Lib.hid hk1
    obtain ⟨⟨k0, k1, k2⟩, f1, f2, lR2⟩ := R2.out.cells
    clear t0 t1 hk1 hk2
    go_upto_region 5 with (fail)
    rw [← HR.out, ← HW2.out]
    go_upto_region 8 with (go_at_call 85; refine (l18Kind_any R n c _ T' ⟨0, 0⟩ w2 R2.out (by omega)).mono ?_; rintro e w' ⟨rfl, mm, rfl⟩; rw [HK1.out])
    refine wp_name (fun wh hwh => ?_)
    have Rh := Lib.hid (show RdS R _ n c T' ⟨1, 0⟩ wh by rw [hwh]; exact (R2.out.drewN _).atv (i := 1) (v := 1) hlt rfl)
    have Gh : w2.grownBy wh (some R) := by rw [hwh]; exact gr_gr (gr_drewN (gr_refl _ _) _) (gr_set _)
    have Xh := Lib.hid (heap_gr X2.out Gh (by omega))
    have hzh := Gh.size
    have Gh := Lib.hid Gh
    clear hwh k0 k1 k2 f1 f2 lR2 t1' e1 hbl
    go_wp2_with fail
    refine (l18Names_any R n c _ T' wh Rh.out hn160 HH.out).mono ?_
    rintro e w3 ⟨Aq, nq, cq, Q, rfl, hq, hsl, hcq, hcm, hr3, hg3⟩
    have X3 := Lib.hid (heap_gr Xh.out hg3 (by omega))
    have hz3 := hg3.size
    obtain ⟨P, hP⟩ : ∃ P, P = w3.heap.size := ⟨_, rfl⟩
    have HP := Lib.hid hP
    obtain ⟨w4, hw4⟩ : ∃ w4, w4 = w3.alloc (.cells #[.slice Aq nq cq, .slice none 0 0] 27) := ⟨_, rfl⟩
    have b4 : Below w3.heap.size w3 w4 := by rw [hw4]; exact below_alloc1
    have P4 : w4.heap[P]? = some (.cells #[.slice Aq nq cq, .slice none 0 0] 27 (0, 0)) := by rw [hw4]; exact heap_topG hP
    have R4 := Lib.hid (hr3.below b4)
    have X4 := Lib.hid ((b4.block X (lt_of_block X3.out)).trans X3.out)
    have SQ := Lib.hid hsl
    have HQ := Lib.hid hq
    have G3 := Lib.hid (gr_gr Gh.out hg3)
    have B4 := Lib.hid b4
    have hz4 : P < w4.heap.size := lt_of_block P4
    have hz34 := b4.size
    have hPR : R < P := by omega
    have hcq := Lib.hid (And.intro hcq hcm)
    have P4 := Lib.hid P4
    have HW4 := Lib.hid hw4
    have hPw : P = w3.heap.size := hP
    clear hr3 hg3 hsl hq hcm hP hw4 b4 hPw
    go_wp2_with fail
    rw [← HP.out, ← HW4.out]
    refine (stmtsS_all 4 (by omega) R n c _ T' (headR T').1 0 w4 R4.out hn160 HWL.out (by omega)).mono ?_
    rintro e w5 ⟨Ab, nb, cb, l', rfl, hl, htr, hr5, hg5⟩
    obtain ⟨st, hst⟩ : ∃ st, st = (Lp T' 4 (T'.length + 1) (headR T').1).1 := ⟨_, rfl⟩
    rw [← hst] at hr5 hl
    have HST := Lib.hid hst.symm
    have P5 := heap_gr P4.out hg5 (by omega)
    have X5 := heap_gr X4.out hg5 (by omega)
    obtain ⟨p0, p1⟩ := cells2 (lay := Below.refl _ _) P5
    have g0 := free_at (j := 0) P5
    have g1 := free_at (j := 1) P5
    have lP := lt_of_block P5
    have hz5 := hg5.size
    obtain ⟨w6, hw6⟩ : ∃ w6, w6 = w5.setCell ⟨P, 1, none⟩ (.slice Ab nb cb) := ⟨_, rfl⟩
    have G6 : w5.grownBy w6 (some P) := by rw [hw6]; exact gr_set _
    have P6 : w6.heap[P]? = some (.cells #[.slice Aq nq cq, .slice Ab nb cb] 27 (0, 0)) := by rw [hw6]; exact heap_set_selfG P5 _
    have X6 : w6.heap[X]? = some (.cells #[.slice none 0 0, .slice none 0 0] 27 (0, 0)) := heap_gr X5 G6 (by omega)
    have R6 := Lib.hid (hr5.own G6 (fun k hk => by injection hk with hk; omega))
    have hz6 := G6.size
    have hPw := HP.out
    have hXw := HX.out
    have SQ6 := Lib.hid ((slI_gr (SQ.out.keep (fun b _ _ h => B4.out.block b h) B4.out.size) hg5 (by omega)).keep (fun b _ h2 h3 => G6.block b h3 (fun e => by injection e with e; omega)) G6.size)
    have TR6 := Lib.hid (trI_gr htr G6 (by omega))
    have B6 := Lib.hid (((((B2.out.grown G3.out (by omega) (fun k hk => by injection hk with hk; omega)).trans (B4.out.mono (by omega))).grown hg5 (by omega) (fun k hk => by injection hk with hk; omega))).grown G6 (by omega) (fun k hk => by injection hk with hk; omega))
    have HL := Lib.hid hl
    have HW6 := Lib.hid hw6
    have P6 := Lib.hid P6
    have X6 := Lib.hid X6
    clear hr5 hl hst P5 X5 hg5 hw6 G6 hPw hXw htr
    go_upto_region 10 with (fail)
    rw [← HW6.out]
    clear p0 p1 g0 g1 lP
    obtain ⟨⟨k0, k1, k2⟩, f1, f2, lR⟩ := R6.out.cells
    obtain ⟨p0, p1⟩ := cells2 (lay := Below.refl _ _) P6.out
    obtain ⟨x0, x1⟩ := cells2 (lay := Below.refl _ _) X6.out
    have g0 := free_at (j := 0) X6.out
    have g1 := free_at (j := 1) X6.out
    have lX := lt_of_block X6.out
    by_cases hc : st.code = 0
    · rw [hc] at k2
      obtain ⟨he, hh⟩ := parse_good HST.out hc
      have HE := Lib.hid he
      have hlq := HL.out hc
      have hqq := HQ.out hh
      have HLQ := Lib.hid hlq
      have HQQ := Lib.hid hqq
      clear he hh hlq hqq
      obtain ⟨w9, hw9⟩ : ∃ w9, w9 = (w6.setCell ⟨X, 0, none⟩ (.slice Aq nq cq)).setCell ⟨X, 1, none⟩ (.slice Ab nb cb) := ⟨_, rfl⟩
      have X9 : w9.heap[X]? = some (.cells #[.slice Aq nq cq, .slice Ab nb cb] 27 (0, 0)) := by rw [hw9]; exact heap_set_selfG (heap_set_selfG X6.out _) _
      have G9 : w6.grownBy w9 (some X) := by rw [hw9]; exact gr_gr (gr_set _) (gr_set _)
      obtain ⟨r0, r1⟩ := cells2 (lay := Below.refl _ _) X9
      have hz9 := G9.size
      have HW9 := Lib.hid hw9
      clear hw9
      go_wp2_with fail
      rw [← HW9.out]
      refine bodyPost_ret (v := .tuple #[.agg #[.slice Aq nq cq, .slice Ab nb cb], .int .i64 0, .int .i64 0]) (by simp [results, Tryz.results31, go_sem, r0, r1]) rfl ?_
      unfold RetPz
      rw [HE.out, ← HQQ.out, ← HLQ.out]
      have hXw := HX.out
      exact ⟨Aq, nq, cq, Ab, nb, cb, w4.heap.size, rfl, (slI_gr SQ6.out G9 (by omega)).wide (by omega) (by omega), (trI_gr TR6.out G9 (by omega)).wide (Nat.le_refl _) (by omega), hcq.out, ⟨by omega, by omega⟩, B6.out.grown G9 (by omega) (fun k hk => by injection hk with hk; omega)⟩
    · have d0 : (st.code == 0) = false := by simp [hc]
      have HE := Lib.hid (parse_bad HST.out hc)
      obtain ⟨w9, hw9⟩ : ∃ w9, w9 = (w6.setCell ⟨X, 0, none⟩ (.slice none 0 0)).setCell ⟨X, 1, none⟩ (.slice none 0 0) := ⟨_, rfl⟩
      have X9 : w9.heap[X]? = some (.cells #[.slice none 0 0, .slice none 0 0] 27 (0, 0)) := by rw [hw9]; exact heap_set_selfG (heap_set_selfG X6.out _) _
      have G9 : w6.grownBy w9 (some X) := by rw [hw9]; exact gr_gr (gr_set _) (gr_set _)
      obtain ⟨r0, r1⟩ := cells2 (lay := Below.refl _ _) X9
      have hz9 := G9.size
      have HW9 := Lib.hid hw9
      clear hw9
      go_upto_region 11 with (fail)
      go_region_law (fail)
      all_goals
        go_wp2_with fail
        rw [← HW9.out]
        refine bodyPost_ret (v := .tuple #[.agg #[.slice none 0 0, .slice none 0 0], .int .i64 st.code, .int .i64 st.i]) (by simp [results, Tryz.results31, go_sem, r0, r1]) rfl ?_
        unfold RetPz
        rw [HE.out]
        have hXw := HX.out
        have B9 := B6.out.grown G9 (by omega) (fun k hk => by injection hk with hk; omega)
        exact ⟨none, 0, 0, none, 0, 0, w.heap.size, rfl, slI_none, trI_nil, ⟨Nat.le_refl _, Nat.zero_le _⟩, ⟨Nat.le_refl _, by show w.heap.size ≤ w9.heap.size; omega⟩, ⟨B9.os, B9.tape, B9.output, B9.size, B9.block⟩⟩
end Go.Proofs.YthkbckkghnbonaaGreatDoor
namespace Go.Proofs.YthkbckkghnbonaaGreatDoor
open Go.RowKit
set_option linter.unusedVariables false
theorem small8_of {T : List Tk} (h : ∀ t ∈ T, wellTk t) : Small8 T := fun t ht => by
  rcases h t ht with ⟨_, h⟩ | ⟨_, h⟩
  · exact (wordOk_size h).2
  · rw [h]; exact Nat.zero_le _
theorem szS_8 : ∀ l : List ByteArray, (∀ x ∈ l, x.size ≤ 8) → szS l ≤ 8 * l.length := by
  intro l
  induction l with
  | nil => intro _; exact Nat.zero_le _
  | cons x l ih =>
    intro h
    have h1 := h x (by simp)
    have h2 := ih (fun y hy => h y (by simp [hy]))
    rw [szS, List.length_cons]
    omega
/-- What is read of a text is small. -/
theorem parse_small (s : ByteArray) : (parseR (tkS s)).2.2.1.length ≤ 1048576 ∧ szS (parseR (tkS s)).2.2.1 ≤ 1048576 ∧ szT 5 (parseR (tkS s)).2.2.2 ≤ 1048576 := by
  cases ht : tkS s with
  | none => exact ⟨Nat.zero_le _, Nat.zero_le _, by show szT 5 [] ≤ _; rw [szT_nil]; omega⟩
  | some T =>
    obtain ⟨hw, hl⟩ := tkz_well _ _ _ _ (Nat.le_refl _) ht (by omega)
    have h8 := small8_of hw
    have hd := headR_ok h8 (by cases T; exact .inr rfl; exact .inl (by simp))
    have hb := bodyT_light h8 (headR T).1 hd.1
    unfold parseR
    simp only []
    split
    · have h2 := szS_8 _ hd.2.2
      have h3 := hd.2.1
      exact ⟨by show (headR T).2.length ≤ _; omega, by show szS (headR T).2 ≤ _; omega, by show szT 5 (bodyT T (headR T).1).2 ≤ _; omega⟩
    · exact ⟨Nat.zero_le _, Nat.zero_le _, by show szT 5 [] ≤ _; rw [szT_nil]; omega⟩
def nmzF (c : Int) (qs : List ByteArray) (l : List (Tr 5)) : ByteArray × Bool := if c = 0 ∧ progV 5 qs l = true then (ftx (pTks 5 qs l), true) else (⟨#[]⟩, false)
/-- A text, normalized. -/
def nmz (s : ByteArray) : ByteArray × Bool := nmzF (parseR (tkS s)).1 (parseR (tkS s)).2.2.1 (parseR (tkS s)).2.2.2
set_option maxRecDepth 100000 in
set_option maxHeartbeats 2000000 in
theorem NormalizeSource_impl (s : ByteArray) (w : World) (hv : LVb w.heap.size w) (hs : s.size ≤ 1048576) : Calls Tryz.prog 35 #[.string s] w fun e w' => e = .returned (.tuple #[.string (nmz s).1, .bool (nmz s).2]) ∧ Below w.heap.size w w' := by
  obtain ⟨hz1, hz2, hz3⟩ := parse_small s
  have HP := ParseProgram_impl s w hv (by omega)
  have HM := Lib.hid (show nmz s = nmzF (parseR (tkS s)).1 (parseR (tkS s)).2.2.1 (parseR (tkS s)).2.2.2 from rfl)
  unfold RetPz at HP
  obtain ⟨c, hc⟩ : ∃ c, c = (parseR (tkS s)).1 := ⟨_, rfl⟩
  obtain ⟨i, hi⟩ : ∃ i, i = (parseR (tkS s)).2.1 := ⟨_, rfl⟩
  obtain ⟨qs, hq⟩ : ∃ qs, qs = (parseR (tkS s)).2.2.1 := ⟨_, rfl⟩
  obtain ⟨l, hl⟩ : ∃ l, l = (parseR (tkS s)).2.2.2 := ⟨_, rfl⟩
  rw [← hc, ← hq, ← hl] at HP HM
  rw [← hi] at HP
  rw [← hq] at hz1 hz2
  rw [← hl] at hz3
  have HP := Lib.hid HP
  have HV := Lib.hid hv
  clear hc hi hq hl hv
  go_enter Tryz.func35, Tryz.ntmps35
  go_wp2_with fail
  refine HP.out.mono ?_
  rintro e w1 ⟨Aq, nq, cq, Ab, nb, cb, m, rfl, hsl, htr, _, hm, b1⟩
  obtain rfl : nq = qs.length := by have := hsl.1; rw [strs_length] at this; omega
  have RA := Lib.hid hsl.rdq
  have RB := Lib.hid htr.rdt
  have B1 := Lib.hid b1
  have HV1 := Lib.hid (HV.out.below b1)
  clear hsl htr hm b1
  go_upto_region 2 with (fail)
  refine wp_name (fun w2 hw2 => ?_)
  have b2 : Below w1.heap.size w1 w2 := by rw [hw2]; exact below_alloc1
  have RA2 := Lib.hid (RA.out.below b2)
  have RB2 := Lib.hid (RB.out.below b2)
  have HV2 := Lib.hid (HV1.out.below (b2.mono HV1.out.le))
  have B2 := Lib.hid (B1.out.trans (b2.mono B1.out.size))
  have P2 : w2.heap[w1.heap.size]? = some (.cells #[.slice Aq qs.length cq, .slice Ab nb cb] 27 (0, 0)) := by rw [hw2]; exact heap_topG rfl
  obtain ⟨p0, p1⟩ := cells2 (lay := Below.refl _ _) P2
  have lP := lt_of_block P2
  have P2 := Lib.hid P2
  have hzz := B2.out.size
  clear hw2 b2
  by_cases hc0 : c = 0
  · subst hc0
    cases hv : progV 5 qs l
    · have HF : Hid (nmz s = (⟨#[]⟩, false)) := by show nmz s = _; rw [HM.out]; unfold nmzF; rw [hv]; rfl
      go_wp2_with (go_at_call 11; refine (IsValidProgram_impl 5 w.heap.size m Aq cq qs l Ab nb cb w2 RA2.out RB2.out (HV2.out.gn') (by omega) (by omega) (by omega)).mono ?_; rw [hv]; rintro e w3 ⟨rfl, b3, s3⟩)
      go_ret2
      exact ⟨by rw [HF.out]; rfl, B2.out.trans (b3.mono hzz)⟩
    · have HF : Hid (nmz s = (ftx (pTks 5 qs l), true)) := by show nmz s = _; rw [HM.out]; unfold nmzF; rw [hv]; rfl
      go_upto_region 4 with (go_at_call 11; refine (IsValidProgram_impl 5 w.heap.size m Aq cq qs l Ab nb cb w2 RA2.out RB2.out (HV2.out.gn') (by omega) (by omega) (by omega)).mono ?_; rw [hv]; rintro e w3 ⟨rfl, b3, s3⟩)
      obtain ⟨p0, p1⟩ := cells2 (lay := b3) P2.out
      go_wp2_with fail
      refine (FormatProgram_impl 5 w.heap.size m Aq cq qs l Ab nb cb w3 (RA2.out.below b3) (RB2.out.below b3) (HV2.out.gn'.below b3) (by omega) (by omega) (by omega)).mono ?_
      rintro e w4 ⟨rfl, b4, s4⟩
      go_wp2_with fail
      go_ret2
      exact ⟨by rw [HF.out]; rfl, (B2.out.trans (b3.mono hzz)).trans (b4.mono (by omega))⟩
  · have d0 : (c == 0) = false := by simp [hc0]
    have HF : Hid (nmz s = (⟨#[]⟩, false)) := by show nmz s = _; rw [HM.out]; unfold nmzF; rw [if_neg (fun h => hc0 h.1)]
    go_wp2_with fail
    go_ret2
    exact ⟨by rw [HF.out]; rfl, B2.out⟩
end Go.Proofs.YthkbckkghnbonaaGreatDoor
namespace Go.Proofs.YthkbckkghnbonaaGreatDoor
open Go.RowKit

def syntaxNames : List (List UInt8) := [[111, 107], [108, 101, 120, 105, 99, 97, 108], [104, 101, 97, 100, 101, 114], [110, 97, 109, 101], [115, 101, 109, 105, 99, 111, 108, 111, 110], [115, 116, 97, 116, 101, 109, 101, 110, 116], [110, 117, 109, 98, 101, 114], [111, 112, 101, 110, 45, 98, 114, 97, 99, 101], [99, 108, 111, 115, 101, 45, 98, 114, 97, 99, 101], [110, 101, 115, 116, 105, 110, 103], [116, 111, 111, 45, 108, 111, 110, 103]]
def syntaxName (n : Int) : List UInt8 := if inB n 0 10 then syntaxNames.getD n.toNat [] else [63]
theorem syntaxName_out {n : Int} (h : inB n 0 10 = false) : syntaxName n = [63] := by simp [syntaxName, h]
theorem in010 {n : Int} (h : inB n 0 10 = true) : n = 0 ∨ n = 1 ∨ n = 2 ∨ n = 3 ∨ n = 4 ∨ n = 5 ∨ n = 6 ∨ n = 7 ∨ n = 8 ∨ n = 9 ∨ n = 10 := by
  have := inB_iff.1 h; omega
set_option maxRecDepth 100000 in
set_option maxHeartbeats 1000000 in
theorem SyntaxErrorName_impl (n : Int) (w : World) : Calls Tryz.prog 33 #[.int .i64 n] w fun e w' => e = .returned (.string ⟨(syntaxName n).toArray⟩) ∧ Below w.heap.size w w' := by
  cases hb : inB n 0 10
  · rw [syntaxName_out hb]
    go_enter Tryz.func33, Tryz.ntmps33
    go_wp2_with (go_at_call 44; refine (in_any _ _ _ _).mono ?_; rintro e w' ⟨rfl, rfl⟩)
    go_ret
    exact ⟨rfl, Below.refl _ _⟩
  · rcases in010 hb with rfl | rfl | rfl | rfl | rfl | rfl | rfl | rfl | rfl | rfl | rfl
    all_goals
      go_enter Tryz.func33, Tryz.ntmps33
      go_wp2_with (go_at_call 44; refine (in_any _ _ _ _).mono ?_; rintro e w' ⟨rfl, rfl⟩)
      go_ret
      exact ⟨rfl, (Below.refl _ _).alloc (Nat.le_refl _) _⟩
set_option maxRecDepth 100000 in
set_option maxHeartbeats 1000000 in
theorem SyntaxErrorName_spec (n : Int) (w : World) : Calls Tryz.prog 34 #[.int .i64 n] w fun e w' => e = .returned (.string ⟨(syntaxName n).toArray⟩) ∧ Below w.heap.size w w' := by
  cases hb : inB n 0 10
  · rw [syntaxName_out hb]
    go_enter Tryz.func34, Tryz.ntmps34
    go_wp2_with (go_at_call 47; refine (l1In_any _ _ _ _).mono ?_; rintro e w' ⟨rfl, rfl⟩)
    go_ret
    exact ⟨rfl, Below.refl _ _⟩
  · rcases in010 hb with rfl | rfl | rfl | rfl | rfl | rfl | rfl | rfl | rfl | rfl | rfl
    all_goals
      go_enter Tryz.func34, Tryz.ntmps34
      go_wp2_with (go_at_call 47; refine (l1In_any _ _ _ _).mono ?_; rintro e w' ⟨rfl, rfl⟩)
      go_ret
      exact ⟨rfl, (Below.refl _ _).alloc (Nat.le_refl _) _⟩
end Go.Proofs.YthkbckkghnbonaaGreatDoor
namespace Go.Proofs.YthkbckkghnbonaaGreatDoor
open Go.RowKit
set_option linter.unusedVariables false
def EqsSaid_spec (d : Nat) : Prop := ∀ (lo lo' : Nat) (A A' : Option Addr) (n n' c c' : Nat) (l l' : List (Tr d)) (w : World), RdT w lo d A n l → RdT w lo' d A' n' l' → szT d l ≤ 1048576 → szT d l' ≤ 1048576 →
  Calls Tryz.prog 56 #[.slice A n c, .slice A' n' c'] w fun e w' => e = .returned (.bool (eqTs d l l')) ∧ ∃ m, w' = w.drewN m
set_option maxRecDepth 100000 in
set_option maxHeartbeats 4000000 in
theorem EqualStmts_spec : ∀ (d : Nat), EqsSaid_spec d := by
  intro d
  induction d with
  | zero =>
    intro lo lo' A A' n n' c c' l l' w h h' _ _
    obtain rfl := szT_zero_len h
    obtain rfl := szT_zero_len h'
    go_enter Tryz.func56, Tryz.ntmps56
    go_wp2
    refine wp_loop_rounds 1 ?_
    rw [rounds_succ]
    go_wp2
    go_ret
    exact ⟨rfl, 0, rfl⟩
  | succ d ih =>
    intro lo lo' A A' n n' c c' l l' w h h' hsz hsz'
    have hln := h.len
    have hln' := h'.len
    rw [eqTs_succ]
    by_cases hnn : n = n'
    · subst hnn
      have hn : n ≤ 1048576 := by rw [szT_succ] at hsz; omega
      have HQ := Lib.hid hsz
      have HQ' := Lib.hid hsz'
      have HL := Lib.hid hln
      have HL' := Lib.hid hln'
      have H := Lib.hid h
      have H' := Lib.hid h'
      clear h hln hsz h' hln' hsz'
      go_enter Tryz.func56, Tryz.ntmps56
      go_wp2
      go_loopw [5] (fun i wr => ∃ t : Nat, t ≤ n ∧ i = .int .i64 t ∧ EqUpto eqE l l' t ∧ ∃ m, wr = w.drewN m) (fun i _ => n - (intOf i).toNat)
      case atStart => exact ⟨0, Nat.zero_le _, rfl, eqUpto_zero, 0, rfl⟩
      case round =>
        obtain ⟨t, ht, rfl, hup, dq, rfl⟩ := hrel
        by_cases hlt : t < n
        · obtain ⟨b, off, s, Aa, ca, Ab, nb, cb, rfl, hbl, hs, hcs, hra, hrb⟩ := H.out.at_ hlt
          obtain ⟨b', off', s', Aa', ca', Ab', nb', cb', rfl, hbl', hs', hcs', hra', hrb'⟩ := H'.out.at_ hlt
          obtain ⟨q0, q1, q2, q3, q4⟩ := hcs
          obtain ⟨p0, p1, p2, p3, p4⟩ := hcs'
          have hme := szT_mem hs
          have hme' := szT_mem hs'
          have hz1 : (hdT s).args.length ≤ 1048576 := by have := HQ.out; rw [szT_succ] at this; unfold szE at hme; omega
          have hz2 : szT d (bdT s) ≤ 1048576 := by have := HQ.out; rw [szT_succ] at this; unfold szE at hme; omega
          have hz2' : szT d (bdT s') ≤ 1048576 := by have := HQ'.out; rw [szT_succ] at this; unfold szE at hme'; omega
          have HU : Hid (∀ he : eqE s s' = true, EqUpto eqE l l' (t + 1)) := Lib.hid (fun he => eqUpto_step hup hs hs' he)
          have HF : Hid (∀ he : eqE s s' = false, eqBy eqE l l' = false) := Lib.hid (fun he => eqBy_f hs hs' he)
          clear hs hs' hme hme' hup
          have HE1 := Lib.hid (@eqE_k d s s')
          have HE2 := Lib.hid (@eqE_w d s s')
          have HE3 := Lib.hid (@eqE_a d s s')
          have HE4 := Lib.hid (@eqE_c d s s')
          have HE5 := Lib.hid (@eqE_b d s s')
          have HET := Lib.hid (@eqE_t d s s')
          obtain ⟨⟨k, wd, ar, ct⟩, hhd⟩ : ∃ x, x = hdT s := ⟨_, rfl⟩
          obtain ⟨⟨k', wd', ar', ct'⟩, hhd'⟩ : ∃ x, x = hdT s' := ⟨_, rfl⟩
          rw [← hhd] at HE1 HE2 HE3 HE4 HET q0 q1 q2 q3 hra hz1
          rw [← hhd'] at HE1 HE2 HE3 HE4 HET p0 p1 p2 p3 hra'
          obtain ⟨bd, hbd⟩ : ∃ x, x = bdT s := ⟨_, rfl⟩
          obtain ⟨bd', hbd'⟩ : ∃ x, x = bdT s' := ⟨_, rfl⟩
          rw [← hbd] at HE5 HET hrb hz2
          rw [← hbd'] at HE5 HET hrb' hz2'
          dsimp only at HE1 HE2 HE3 HE4 HET q0 q1 q2 q3 hra hz1 p0 p1 p2 p3 hra'
          clear hhd hhd' hbd hbd' HQ HQ' H H' HL HL'
          obtain ⟨m, hm⟩ : ∃ m, m = ar.length := ⟨_, rfl⟩
          obtain ⟨m', hm'⟩ : ∃ m, m = ar'.length := ⟨_, rfl⟩
          rw [← hm] at q2 hra hz1
          rw [← hm'] at p2 hra'
          have HM := Lib.hid hm
          have HM' := Lib.hid hm'
          clear hm hm'
          have HA := Lib.hid hra
          have HA' := Lib.hid hra'
          have HB := Lib.hid hrb
          have HB' := Lib.hid hrb'
          clear hra hra' hrb hrb'
          by_cases hk : k = k'
          rotate_left
          · have hne : (k != k') = true := by rw [bne_iff_ne]; exact hk
            have HX := Lib.hid (HF.out (HE1.out hk))
            go_wp2_with fail
            (try simp only [List.append])
            go_quiet (fail)
            go_wp2_with fail
            go_ret
            exact ⟨by rw [HX.out]; rfl, (by first | exact ⟨_, rfl⟩ | exact drewN2 _ _ _)⟩
          subst hk
          cases hw : eqSt wd wd'
          · have hne : (wd.toList == wd'.toList) = false := hw
            have HX := Lib.hid (HF.out (HE2.out hw))
            go_wp2_with fail
            (try simp only [List.append])
            go_quiet (fail)
            go_wp2_with fail
            go_ret
            exact ⟨by rw [HX.out]; rfl, (by first | exact ⟨_, rfl⟩ | exact drewN2 _ _ _)⟩
          have hww := eqSt_eq hw
          have HW := Lib.hid hw
          subst hww
          clear hw
          by_cases hc : ct = ct'
          rotate_left
          · have hne : (ct != ct') = true := by rw [bne_iff_ne]; exact hc
            have HX := Lib.hid (HF.out (HE4.out hc))
            go_wp2_with fail
            (try simp only [List.append])
            go_quiet (fail)
            go_wp2_with fail
            go_ret
            exact ⟨by rw [HX.out]; rfl, (by first | exact ⟨_, rfl⟩ | exact drewN2 _ _ _)⟩
          subst hc
          cases ha : eqBy eqSt ar ar'
          · have HAA := Lib.hid ha
            clear ha
            have HX := Lib.hid (HF.out (HE3.out HAA.out))
            have CT : Hid (∀ j, Calls Tryz.prog 55 #[.slice Aa m ca, .slice Aa' m' ca'] (w.drewN j) fun e w' => e = .returned (.bool false) ∧ ∃ q, w' = (w.drewN j).drewN q) := Lib.hid (fun j => (l17Texts_any _ _ _ _ _ _ ar ar' _ HM.out.symm HM'.out.symm (by omega) (HA.out.rd.drewN j) (HA'.out.rd.drewN j)).mono fun e w1 h => ⟨by rw [h.1, HAA.out], h.2⟩)
            go_wp2_with fail
            (try simp only [List.append])
            go_quiet (first | (go_at_call 55; exact quiet_anyAdd (CT.out _)))
            go_wp2_with fail
            go_ret
            exact ⟨by rw [HX.out]; rfl, (by first | exact ⟨_, rfl⟩ | exact drewN2 _ _ _)⟩
          have HAA := Lib.hid ha
          clear ha
          cases hb2 : eqTs d bd bd'
          · have HBB := Lib.hid hb2
            clear hb2
            have HX := Lib.hid (HF.out (HE5.out HBB.out))
            have CT : Hid (∀ j, Calls Tryz.prog 55 #[.slice Aa m ca, .slice Aa' m' ca'] (w.drewN j) fun e w' => e = .returned (.bool true) ∧ ∃ q, w' = (w.drewN j).drewN q) := Lib.hid (fun j => (l17Texts_any _ _ _ _ _ _ ar ar' _ HM.out.symm HM'.out.symm (by omega) (HA.out.rd.drewN j) (HA'.out.rd.drewN j)).mono fun e w1 h => ⟨by rw [h.1, HAA.out], h.2⟩)
            have CR : Hid (∀ j, Calls Tryz.prog 56 #[.slice Ab nb cb, .slice Ab' nb' cb'] (w.drewN j) fun e w' => e = .returned (.bool false) ∧ ∃ q, w' = (w.drewN j).drewN q) := Lib.hid (fun j => (ih lo lo' _ _ _ _ _ _ bd bd' _ (HB.out.drewN j) (HB'.out.drewN j) hz2 hz2').mono fun e w1 h => ⟨by rw [h.1, HBB.out], h.2⟩)
            go_wp2_with fail
            (try simp only [List.append])
            go_quiet (first | (go_at_call 55; exact quiet_anyAdd (CT.out _)) | (go_at_call 56; exact quiet_anyAdd (CR.out _)))
            go_wp2_with fail
            go_ret
            exact ⟨by rw [HX.out]; rfl, (by first | exact ⟨_, rfl⟩ | exact drewN2 _ _ _)⟩
          have HBB := Lib.hid hb2
          clear hb2
          have HX := Lib.hid (HU.out (HET.out rfl HW.out HAA.out rfl HBB.out))
          have CT : Hid (∀ j, Calls Tryz.prog 55 #[.slice Aa m ca, .slice Aa' m' ca'] (w.drewN j) fun e w' => e = .returned (.bool true) ∧ ∃ q, w' = (w.drewN j).drewN q) := Lib.hid (fun j => (l17Texts_any _ _ _ _ _ _ ar ar' _ HM.out.symm HM'.out.symm (by omega) (HA.out.rd.drewN j) (HA'.out.rd.drewN j)).mono fun e w1 h => ⟨by rw [h.1, HAA.out], h.2⟩)
          have CR : Hid (∀ j, Calls Tryz.prog 56 #[.slice Ab nb cb, .slice Ab' nb' cb'] (w.drewN j) fun e w' => e = .returned (.bool true) ∧ ∃ q, w' = (w.drewN j).drewN q) := Lib.hid (fun j => (ih lo lo' _ _ _ _ _ _ bd bd' _ (HB.out.drewN j) (HB'.out.drewN j) hz2 hz2').mono fun e w1 h => ⟨by rw [h.1, HBB.out], h.2⟩)
          go_wp2_with fail
          (try simp only [List.append])
          go_quiet (first | (go_at_call 55; exact quiet_anyAdd (CT.out _)) | (go_at_call 56; exact quiet_anyAdd (CR.out _)))
          go_wp2_with fail
          go_roundw
          case rel => exact ⟨t + 1, by omega, by go_num, HX.out, (by first | exact ⟨_, rfl⟩ | exact drewN2 _ _ _)⟩
          case measure => simp [intOf]; omega
        · obtain rfl : t = n := by omega
          have HF := Lib.hid (eqBy_t (by rw [HL.out, HL'.out]) hup (by rw [HL.out]; exact Nat.le_refl _))
          go_wp2_with fail
          go_ret
          exact ⟨by rw [HF.out]; rfl, dq, rfl⟩
    · have HF := Lib.hid (eqBy_len (f := eqE) (l := l) (l' := l') (by rw [hln, hln']; exact hnn))
      have hne : ((n : Int) != (n' : Int)) = true := by rw [bne_iff_ne]; omega
      clear h h' hln hln' hsz hsz' ih
      go_enter Tryz.func56, Tryz.ntmps56
      go_wp2
      go_ret
      exact ⟨by rw [HF.out]; rfl, 0, rfl⟩
end Go.Proofs.YthkbckkghnbonaaGreatDoor
namespace Go.Proofs.YthkbckkghnbonaaGreatDoor
open Go.RowKit
set_option linter.unusedVariables false
def eqPg {d : Nat} (qs qs' : List ByteArray) (l l' : List (Tr d)) : Bool := eqBy eqSt qs qs' && eqTs d l l'
set_option maxRecDepth 100000 in
set_option maxHeartbeats 2000000 in
theorem EqualProgram_spec (d lo lo' : Nat) (m nb m' nb' : Nat) (qs qs' : List ByteArray) (l l' : List (Tr d)) (Aq : Option Addr) (cq : Nat) (Ab : Option Addr) (cb : Nat) (Aq' : Option Addr) (cq' : Nat) (Ab' : Option Addr) (cb' : Nat) (w : World)
    (hra : Rd w 1 Aq m (strs qs)) (hrb : RdT w lo d Ab nb l) (hra' : Rd w 1 Aq' m' (strs qs')) (hrb' : RdT w lo' d Ab' nb' l') (hm : qs.length = m) (hm' : qs'.length = m') (h1 : m ≤ 1048576) (h2 : szT d l ≤ 1048576) (h2' : szT d l' ≤ 1048576) :
    Calls Tryz.prog 14 #[.agg #[.slice Aq m cq, .slice Ab nb cb], .agg #[.slice Aq' m' cq', .slice Ab' nb' cb']] w fun e w' =>
      e = .returned (.bool (eqPg qs qs' l l')) ∧ Below w.heap.size w w' ∧ w.heap.size ≤ w'.heap.size := by
  have HM := Lib.hid hm
  have HM' := Lib.hid hm'
  have HA := Lib.hid hra
  have HB := Lib.hid hrb
  have HA' := Lib.hid hra'
  have HB' := Lib.hid hrb'
  clear hm hm' hra hrb hra' hrb'
  go_enter Tryz.func14, Tryz.ntmps14
  go_wp2_with fail
  obtain ⟨w0, hw0⟩ : ∃ w0, w0 = (w.alloc (.cells #[.slice Aq m cq, .slice Ab nb cb] 27)).alloc (.cells #[.slice Aq' m' cq', .slice Ab' nb' cb'] 27) := ⟨_, rfl⟩
  rw [← hw0]
  have X0 := Lib.hid (show w0.heap[w.heap.size]? = some (.cells #[.slice Aq m cq, .slice Ab nb cb] 27 (0, 0)) by rw [hw0]; exact boxed2_0 _ _ _)
  have X1 := Lib.hid (show w0.heap[w.heap.size + 1]? = some (.cells #[.slice Aq' m' cq', .slice Ab' nb' cb'] 27 (0, 0)) by rw [hw0]; exact boxed2_1 _ _ _)
  have b0 : Below w.heap.size w w0 := by rw [hw0]; exact (by repeat (first | exact Below.refl _ _ | assumption | (refine Below.trans ?_ (Below.mono (by assumption) (by first | omega | (simp; done) | (simp; omega)))) | (with_reducible refine Below.drew ?_) | (with_reducible refine Below.alloc ?_ (by first | omega | (simp; done) | (simp; omega)) _) | (with_reducible refine Below.setCell ?_ (by first | omega | (simp; done) | (simp; omega)) _)))
  have s0 : w.heap.size ≤ w0.heap.size := b0.size
  clear hw0
  refine (l17Texts_any _ _ _ _ _ _ qs qs' _ HM.out HM'.out (by omega) (HA.out.below b0) (HA'.out.below b0)).mono ?_
  rintro e w1 ⟨rfl, hq1⟩
  obtain ⟨b1, s1⟩ := below_quiet hq1
  clear hq1
  obtain ⟨_, p4⟩ := boxcells2 (lay := b1) X0.out
  obtain ⟨_, q4⟩ := boxcells2 (lay := b1) X1.out
  have b01 : Below w.heap.size w w1 := b0.trans (b1.mono s0)
  cases hs : eqBy eqSt qs qs'
  · have HF : Hid (eqPg qs qs' l l' = false) := Lib.hid (by simp [eqPg, hs])
    clear hs
    go_wp2_with fail
    go_ret
    exact ⟨by rw [HF.out]; rfl, b01, by omega⟩
  · have HF : Hid (eqPg qs qs' l l' = eqTs d l l') := Lib.hid (by simp [eqPg, hs])
    clear hs
    go_wp2_with fail
    refine (EqualStmts_spec d lo lo' _ _ _ _ _ _ l l' _ (HB.out.below b01) (HB'.out.below b01) h2 h2').mono ?_
    rintro e w2 ⟨rfl, hq2⟩
    obtain ⟨b2, s2⟩ := below_quiet hq2
    clear hq2
    go_wp2_with fail
    go_ret
    exact ⟨by rw [HF.out]; rfl, b01.trans (b2.mono (by omega)), by omega⟩
end Go.Proofs.YthkbckkghnbonaaGreatDoor
namespace Go.Proofs.YthkbckkghnbonaaGreatDoor
open Go.ChangeShapes Go.WideShapes Go.RowKit Go.Deep
theorem cells_byte : Tryz.prog.cellsOf 5 = 1 := by kernel_rfl
theorem trod_byte {H : Type} {enc : TypeId × Value → H} {w : World} {base : Nat} {spare : Nat → Bool} {held : Bool} (n : Nat) (cs : List Value) (y : DataW H × List MemPlace) (h : DataW.trod enc Tryz.prog w base spare held n 5 cs = some y) : ∃ g : Fin 256, cs = bcell g := by
  obtain ⟨a, e, h1, h2⟩ := DataW.trod_int Tryz.underlying5 h
  simp [Lit.wf, IntKind.min, IntKind.max, IntKind.signed, IntKind.bits] at h2
  exact ⟨⟨a.toNat, by omega⟩, by rw [e]; simp [bcell]; omega⟩
end Go.Proofs.YthkbckkghnbonaaGreatDoor
namespace Go.Proofs.YthkbckkghnbonaaGreatDoor
open Go.RowKit
set_option maxRecDepth 100000 in
theorem big_law (A : Option Addr) (n c : Nat) (w : World) (hn : n ≤ 9223372036854775807) : Calls Tryz.prog 7 #[.slice A n c] w fun e w' => e = .returned (.bool (decide (1048576 < n))) ∧ w = w' := by
  by_cases h : 1048576 < n
  · go_enter Tryz.func7, Tryz.ntmps7
    go_wp2_with fail
    go_ret
    exact ⟨by simp [h]; omega, rfl⟩
  · go_enter Tryz.func7, Tryz.ntmps7
    go_wp2_with fail
    go_ret
    exact ⟨by simp [h]; omega, rfl⟩
end Go.Proofs.YthkbckkghnbonaaGreatDoor
