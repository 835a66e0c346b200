/- What the calls that this law reaches answer, part 5 of 12. -/
import Derived.Test.YthkbckkghnbonaaDoorJParseProgram4
import Derived.Test.YthkbckkghnbonaaDoorJParseProgram2
namespace Go.Proofs.YthkbckkghnbonaaDoor
open Go.RowKit
set_option linter.unusedVariables false
/-- The whole list of statements, read from s on with f rounds. -/
def Lp (T : List Tk) (e f : Nat) (s : Rs) : Rs × List (Tr (e + 1)) := loopR T (decide (e = 4)) (stmtR T (innerR T e)) f s
/-- So much has been read (l, to the state st), f rounds are left. -/
def EqL (T : List Tk) (e : Nat) (s0 : Rs) (f : Nat) (st : Rs) (l : List (Tr (e + 1))) : Prop :=
  (st.code = 0 → T.length + 1 ≤ f + st.i) ∧ (Lp T e (T.length + 1) s0).1 = (Lp T e f st).1 ∧ ((Lp T e (T.length + 1) s0).1.code = 0 → (Lp T e (T.length + 1) s0).2 = l ++ (Lp T e f st).2)
section
variable {T : List Tk} {e f : Nat} {s0 st : Rs} {l : List (Tr (e + 1))}
theorem eqL_start : EqL T e s0 (T.length + 1) s0 [] := ⟨fun _ => Nat.le_add_right _ _, rfl, fun _ => rfl⟩
theorem eqL_end (h : EqL T e s0 f st l) (hx : st.code ≠ 0 ∨ T.length ≤ st.i ∨ (kindT T st.i = 4 ∧ e ≠ 4)) : (Lp T e (T.length + 1) s0).1 = st ∧ (st.code = 0 → l = (Lp T e (T.length + 1) s0).2) := by
  have e1 : Lp T e f st = (st, []) := by
    unfold Lp
    rcases hx with hx | hx | hx
    · exact loopR_code hx
    · exact loopR_end (.inl hx)
    · exact loopR_end (.inr ⟨hx.1, decide_eq_false hx.2⟩)
  have e2 : (Lp T e (T.length + 1) s0).1 = st := by rw [h.2.1, e1]
  refine ⟨e2, fun h0 => ?_⟩
  have := h.2.2 (by rw [e2]; exact h0)
  rw [e1] at this
  simpa using this.symm
theorem eqL_bad (l' : List (Tr (e + 1))) (h : EqL T e s0 f st l) (h0 : st.code = 0) (h1 : st.i < T.length) (h2 : ¬ (kindT T st.i = 4 ∧ e ≠ 4)) (h3 : ¬ (kindT T st.i = 1 ∧ begW (textT T st.i) = true)) : EqL T e s0 0 ⟨st.i, 5⟩ l' := by
  obtain ⟨g, rfl⟩ : ∃ g, f = g + 1 := ⟨f - 1, by have := h.1 h0; omega⟩
  have e1 : Lp T e (g + 1) st = (⟨st.i, 5⟩, []) := loopR_bad h0 h1 (fun hh => h2 ⟨hh.1, by have := hh.2; simpa using this⟩) h3
  have e2 : (Lp T e (T.length + 1) s0).1 = ⟨st.i, 5⟩ := by rw [h.2.1, e1]
  exact ⟨fun h => absurd (show (5 : Int) = 0 from h) (by decide), e2, fun h => absurd (show (5 : Int) = 0 by rw [e2] at h; exact h) (by decide)⟩
theorem eqL_step {st2 : Tr (e + 1)} (h : EqL T e s0 f st l) (h0 : st.code = 0) (h1 : st.i < T.length) (h2 : kindT T st.i = 1) (h3 : begW (textT T st.i) = true) (h4 : (stmtR T (innerR T e) st).1.code = 0 → st2 = (stmtR T (innerR T e) st).2) :
    ∃ g, EqL T e s0 g (stmtR T (innerR T e) st).1 (l ++ [st2]) := by
  obtain ⟨g, rfl⟩ : ∃ g, f = g + 1 := ⟨f - 1, by have := h.1 h0; omega⟩
  have e1 : Lp T e (g + 1) st = ((Lp T e g (stmtR T (innerR T e) st).1).1, (stmtR T (innerR T e) st).2 :: (Lp T e g (stmtR T (innerR T e) st).1).2) := loopR_step h0 h1 h2 h3
  have hi := (stmtR_goes (innerR_goes (T := T) e) h1).1
  refine ⟨g, fun _ => by have := h.1 h0; omega, by rw [h.2.1, e1], fun hc => ?_⟩
  have hc2 : (stmtR T (innerR T e) st).1.code = 0 := by
    refine Classical.byContradiction fun hne => ?_
    have e3 : Lp T e g (stmtR T (innerR T e) st).1 = ((stmtR T (innerR T e) st).1, []) := loopR_code hne
    rw [h.2.1, e1, e3] at hc
    exact hne hc
  have := h.2.2 hc
  rw [e1] at this
  rw [this, h4 hc2]
  simp
end
def msr (n : Nat) (st : Rs) : Nat := 2 * (n - st.i) + (if st.code = 0 then 1 else 0)
theorem msr_fail {n : Nat} {st : Rs} (h : st.code = 0) : msr n ⟨st.i, 5⟩ < msr n st := by
  have e1 : msr n ⟨st.i, 5⟩ = 2 * (n - st.i) + 0 := rfl
  unfold msr at e1 ⊢
  rw [e1, if_pos h]
  omega
theorem msr_step {n : Nat} {st st2 : Rs} (h : st.i + 1 ≤ st2.i) (h1 : st.i < n) : msr n st2 < msr n st := by
  unfold msr
  split <;> split <;> omega
end Go.Proofs.YthkbckkghnbonaaDoor
namespace Go.Proofs.YthkbckkghnbonaaDoor
open Go.RowKit
set_option linter.unusedVariables false
theorem lvb_drewN {B : Nat} {w : World} (h : LVb B w) (k : Nat) : LVb B (w.drewN k) := h.below (below_drewN (Below.refl _ _) k)
theorem lvb_drew {B : Nat} {w : World} (h : LVb B w) : LVb B w.drew := h.below ⟨rfl, rfl, rfl, Nat.le_refl _, fun _ _ => rfl⟩
theorem ownI_drewN {w : World} {base hi d : Nat} {v : Value} {l : List (Tr (d + 1))} (h : OwnI w base hi d v l) (k : Nat) : OwnI (w.drewN k) base hi d v l := h.below (below_drewN (Below.refl _ _) k)
theorem rdI_drew {R n c : Nat} {A : Option Addr} {T : List Tk} {o : Int} {s : Rs} {W : World} (h : RdI R A n c T o s W) : RdI R A n c T o s W.drew := ⟨h.x, h.t, h.l, h.i⟩
theorem rlI_end {R n c hi e c0 : Nat} {A A0 : Option Addr} {T : List Tk} {o : Int} {s0 st : Rs} {l L : List (Tr (e + 1))} {w wr : World} (hE : s0 = st ∧ (st.code = 0 → l = L)) (hown : OwnI wr w.heap.size hi e (.slice A0 l.length c0) l) (hrd : RdI R A n c T o st wr) (hgr : w.grownBy wr (some R)) (q : Nat) :
    RlI R A n c T o (e + 1) s0 L w (.returned (.slice A0 l.length c0)) (wr.drewN q) := by
  rw [hE.1]
  exact ⟨A0, l.length, c0, l, rfl, hE.2, TrI.keep (w := wr) (w' := wr.drewN q) (Nat.le_refl _) (hown.tr rfl) (fun _ _ _ _ => rfl), hrd.drewN q, gr_drewN hgr q⟩
def StmtsI (e : Nat) : Prop := ∀ (B R n c : Nat) (A : Option Addr) (T : List Tk) (o : Int) (s : Rs) (w : World), RdI R A n c T o s w → LVb B w → B ≤ R → n ≤ 160 → (∀ t ∈ T, wellTk t) → o = 4 - e →
  Calls Tryd.prog 18 #[.pointer (some ⟨R, 0, none⟩)] w (RlI R A n c T o (e + 1) (Lp T e (T.length + 1) s).1 (Lp T e (T.length + 1) s).2 w)
set_option maxRecDepth 100000 in
set_option maxHeartbeats 4000000 in
theorem statements_of (e : Nat) (he : e ≤ 4) (hs0 : StmtI e) : StmtsI e := by
  intro B R n c A T o s w h hv hBR hn hT0 hk
  obtain ⟨i0, hi, hz0, hz1, hz2⟩ := info_parts info_Stmt
  have hnT := h.l
  have lR := h.cells.2.2
  have hsi := h.i
  have H := Lib.hid h
  have HV := Lib.hid hv
  have IS := Lib.hid hs0
  have hT := Lib.hid hT0
  have KD := Lib.hid hk
  have hk1 : 0 ≤ o := by omega
  have hk2 : o ≤ 4 := by omega
  have HN := Lib.hid hnT
  clear h hv hs0 hT0 hk hnT
  go_enter Tryd.func18, Tryd.ntmps18
  go_wp2_with fail
  obtain ⟨w0, hw0⟩ : ∃ w0, w0 = w.alloc (.cells #[] 61) := ⟨_, rfl⟩
  rw [← hw0]
  have b0 : Below w.heap.size w w0 := by rw [hw0]; exact (by repeat (first | exact Below.refl _ _ | assumption | (refine Below.trans ?_ (Below.mono (by assumption) (by first | omega | (simp; done) | (simp; omega)))) | (with_reducible refine Below.drew ?_) | (with_reducible refine Below.alloc ?_ (by first | omega | (simp; done) | (simp; omega)) _) | (with_reducible refine Below.setCell ?_ (by first | omega | (simp; done) | (simp; omega)) _)))
  have OW := Lib.hid (show OwnI w0 w.heap.size w.heap.size e (.slice (some ⟨w.heap.size, 0, none⟩) 0 0) [] by rw [hw0]; exact ownI_empty w e)
  have H0 := Lib.hid (H.out.below b0)
  have G0 := Lib.hid (only_of_below b0 (some R))
  have V0 := Lib.hid (HV.out.below (b0.mono HV.out.le))
  clear hw0 b0 H HV
  go_loopg [3] (msr n s) (fun k v wr => ∃ (l : List (Tr (e + 1))) (st : Rs) (f hi : Nat), k = msr n st ∧ l.length ≤ st.i ∧ st.i ≤ n ∧ Hid (OwnI wr w.heap.size hi e v l) ∧ Hid (RdI R A n c T o st wr) ∧ Hid (w.grownBy wr (some R)) ∧ Hid (LVb B wr) ∧ Hid (EqL T e s f st l))
  case atStart => exact ⟨[], s, T.length + 1, w.heap.size, rfl, Nat.zero_le _, by have := HN.out; omega, OW.out, H0.out, G0.out, V0.out, Lib.hid eqL_start⟩
  case round =>
    obtain ⟨l, st, f, h9, hgk, hll, hin, hown, hrd, hgr, hlv, heq⟩ := hrel
    have HGK := Lib.hid hgk
    clear hgk
    obtain ⟨A0, c0, rfl, _, _⟩ := hown.out.slice
    obtain ⟨⟨k0, k1, ko, k2⟩, ⟨f1, f3, f2⟩, lR1⟩ := hrd.out.cells
    by_cases h0 : st.code = 0
    · have HC := Lib.hid h0
      have RC := Lib.hid (show RdI R A n c T o ⟨st.i, 0⟩ wr by rw [← h0]; exact hrd.out)
      rw [h0] at k2
      by_cases hlt : st.i < n
      · have hbn : ((st.i : Int) == (n : Int)) = false := by simp; omega
        have hlT : st.i < T.length := by have := HN.out; omega
        obtain ⟨K, hK⟩ : ∃ K, K = kindT T st.i := ⟨_, rfl⟩
        have HK := Lib.hid hK
        have KQ := Lib.hid (show ∀ q : Nat, Calls Tryd.prog 37 #[.pointer (some ⟨R, 0, none⟩)] (wr.drewN q) (fun e w' => e = .returned (.int .i64 K) ∧ ∃ m, w' = (wr.drewN q).drewN m) from fun q => by rw [hK]; exact kind_any R n c _ T o st _ (hrd.out.drewN q) (by omega))
        clear h0 hK
        by_cases h4 : K = 4
        · subst h4
          by_cases h44 : e = 4
          · have hop : decide (0 < o) = false := decide_eq_false (by have := KD.out; omega)
            go_wp2_with fail
            go_quiet ((go_at_call 37; exact quiet_any (KQ.out _)))
            go_upto_region 6 with (fail)
            refine wp_name (fun wz hwz => ?_)
            have Rwz := Lib.hid (show RdI R A n c T o ⟨st.i, 0⟩ wz by rw [hwz]; exact (RC.out).drewN _)
            have Gwz := Lib.hid (show w.grownBy wz (some R) by rw [hwz]; exact gr_drewN (hgr.out) _)
            have Vwz := Lib.hid (show LVb B wz by rw [hwz]; exact lvb_drewN (hlv.out) _)
            have Owz := Lib.hid (show OwnI wz w.heap.size h9 e (.slice A0 l.length c0) l by rw [hwz]; exact ownI_drewN (hown.out) _)
            have KQwz := Lib.hid (show ∀ q : Nat, Calls Tryd.prog 37 #[.pointer (some ⟨R, 0, none⟩)] (wz.drewN q) (fun e w' => e = .returned (.int .i64 4) ∧ ∃ m, w' = (wz.drewN q).drewN m) from fun q => by rw [HK.out]; exact kind_any R n c _ T o ⟨st.i, 0⟩ _ (Rwz.out.drewN q) (by omega))
            clear hwz k0 k1 ko k2 f1 f2 f3 lR1 KQ
            obtain ⟨⟨k0, k1, ko, k2⟩, ⟨f1, f3, f2⟩, lR1⟩ := Rwz.out.cells
            simp only [] at k1 k2
            go_quiet ((go_at_call 37; exact quiet_any (KQwz.out _)))
            go_wp2_with (go_at_call 38; refine (fail_any R n c _ T o ⟨st.i, 0⟩ 5 _ (Rwz.out.drewN _)).mono ?_; rintro e1 w1 ⟨rfl, hr1, hg1⟩)
            have hg1 := hg1
            have HR1 := Lib.hid (show RdI R _ n c T o ⟨st.i, 5⟩ w1 from hr1)
            have hgz : wz.grownBy w1 (some R) := gr_gr (gr_drewN (gr_refl _ _) _) hg1
            have HG1 := Lib.hid (gr_gr Gwz.out hgz)
            have HO1 := Lib.hid (Owz.out.grown hgz (fun k hk => by injection hk with hk; omega))
            have HV1 := Lib.hid (Vwz.out.grown hgz (fun k hk => by injection hk with hk; omega))
            have HE1 := Lib.hid (eqL_bad l heq.out HC.out hlT (fun h => h.2 h44) (fun h => by have := HK.out; omega))
            clear hr1 hg1 hgz
            go_roundg (msr n ⟨st.i, 5⟩)
            case rel => exact ⟨l, ⟨st.i, 5⟩, 0, h9, rfl, hll, hin, HO1.out, HR1.out, HG1.out, HV1.out, HE1.out⟩
            case measure => rw [HGK.out]; exact msr_fail HC.out
          · have hE := eqL_end heq.out (.inr (.inr ⟨HK.out.symm, h44⟩))
            have hop : decide (0 < o) = true := decide_eq_true (by have := KD.out; omega)
            go_wp2_with fail
            go_quiet ((go_at_call 37; exact quiet_any (KQ.out _)))
            go_wp2_with fail
            go_ret
            exact rlI_end hE (hown.out) hrd.out hgr.out _
        · have h4b : (K == 4) = false := by simp [h4]
          by_cases h1 : K = 1
          · subst h1
            go_wp2_with fail
            go_quiet ((go_at_call 37; exact quiet_any (KQ.out _)))
            go_upto_region 6 with (fail)
            refine wp_name (fun wz hwz => ?_)
            have Rwz := Lib.hid (show RdI R A n c T o ⟨st.i, 0⟩ wz by rw [hwz]; exact (RC.out).drewN _)
            have Gwz := Lib.hid (show w.grownBy wz (some R) by rw [hwz]; exact gr_drewN (hgr.out) _)
            have Vwz := Lib.hid (show LVb B wz by rw [hwz]; exact lvb_drewN (hlv.out) _)
            have Owz := Lib.hid (show OwnI wz w.heap.size h9 e (.slice A0 l.length c0) l by rw [hwz]; exact ownI_drewN (hown.out) _)
            have KQwz := Lib.hid (show ∀ q : Nat, Calls Tryd.prog 37 #[.pointer (some ⟨R, 0, none⟩)] (wz.drewN q) (fun e w' => e = .returned (.int .i64 1) ∧ ∃ m, w' = (wz.drewN q).drewN m) from fun q => by rw [HK.out]; exact kind_any R n c _ T o ⟨st.i, 0⟩ _ (Rwz.out.drewN q) (by omega))
            clear hwz k0 k1 ko k2 f1 f2 f3 lR1 KQ
            obtain ⟨⟨k0, k1, ko, k2⟩, ⟨f1, f3, f2⟩, lR1⟩ := Rwz.out.cells
            simp only [] at k1 k2
            obtain ⟨bT, oT, rfl, hbR, hbl, q0, q1⟩ := Rwz.out.tok hlt
            try simp only [] at q1
            cases hbw : begW (textT T st.i)
            · have HBW := Lib.hid hbw
              have BQ := Lib.hid (show ∀ q : Nat, Calls Tryd.prog 41 #[.string (textT T st.i)] (wz.drewN q) (fun e w' => e = .returned (.bool false) ∧ wz.drewN q = w') from fun q => by rw [← hbw]; exact begins_any _ _ (Vwz.out.gn'.drewN _))
              clear hbw
              go_quiet (first | (go_at_call 37; exact quiet_any (KQwz.out _)) | (go_at_call 41; exact quiet_left (BQ.out _)))
              go_wp2_with (go_at_call 38; refine (fail_any R n c _ T o ⟨st.i, 0⟩ 5 _ (Rwz.out.drewN _)).mono ?_; rintro e1 w1 ⟨rfl, hr1, hg1⟩)
              have hg1 := hg1
              have HR1 := Lib.hid (show RdI R _ n c T o ⟨st.i, 5⟩ w1 from hr1)
              have hgz : wz.grownBy w1 (some R) := gr_gr (gr_drewN (gr_refl _ _) _) hg1
              have HG1 := Lib.hid (gr_gr Gwz.out hgz)
              have HO1 := Lib.hid (Owz.out.grown hgz (fun k hk => by injection hk with hk; omega))
              have HV1 := Lib.hid (Vwz.out.grown hgz (fun k hk => by injection hk with hk; omega))
              have HE1 := Lib.hid (eqL_bad l heq.out HC.out hlT (fun h => by have := HK.out; omega) (fun h => by rw [HBW.out] at h; exact absurd h.2 (by decide)))
              clear hr1 hg1 hgz
              go_roundg (msr n ⟨st.i, 5⟩)
              case rel => exact ⟨l, ⟨st.i, 5⟩, 0, h9, rfl, hll, hin, HO1.out, HR1.out, HG1.out, HV1.out, HE1.out⟩
              case measure => rw [HGK.out]; exact msr_fail HC.out
            · have HBW := Lib.hid hbw
              have BQ := Lib.hid (show ∀ q : Nat, Calls Tryd.prog 41 #[.string (textT T st.i)] (wz.drewN q) (fun e w' => e = .returned (.bool true) ∧ wz.drewN q = w') from fun q => by rw [← hbw]; exact begins_any _ _ (Vwz.out.gn'.drewN _))
              clear hbw
              go_quiet (first | (go_at_call 37; exact quiet_any (KQwz.out _)) | (go_at_call 41; exact quiet_left (BQ.out _)))
              have hbw := HBW.out
              clear HBW q0 q1 hbR hbl
              go_upto_region 7 with (fail)
              refine wp_name (fun wy hwz => ?_)
              have Rwy := Lib.hid (show RdI R _ n c T o ⟨st.i, 0⟩ wy by rw [hwz]; exact (Rwz.out).drewN _)
              have Gwy := Lib.hid (show w.grownBy wy (some R) by rw [hwz]; exact gr_drewN (Gwz.out) _)
              have Vwy := Lib.hid (show LVb B wy by rw [hwz]; exact lvb_drewN (Vwz.out) _)
              have Owy := Lib.hid (show OwnI wy w.heap.size h9 e (.slice A0 l.length c0) l by rw [hwz]; exact ownI_drewN (Owz.out) _)
              have KQwy := Lib.hid (show ∀ q : Nat, Calls Tryd.prog 37 #[.pointer (some ⟨R, 0, none⟩)] (wy.drewN q) (fun e w' => e = .returned (.int .i64 1) ∧ ∃ m, w' = (wy.drewN q).drewN m) from fun q => by rw [HK.out]; exact kind_any R n c _ T o ⟨st.i, 0⟩ _ (Rwy.out.drewN q) (by omega))
              clear hwz k0 k1 ko k2 f1 f2 f3 lR1 
              obtain ⟨⟨k0, k1, ko, k2⟩, ⟨f1, f3, f2⟩, lR1⟩ := Rwy.out.cells
              simp only [] at k1 k2
              have hbl1 : st.i < n := hlt
              obtain ⟨b8, o8, eA, hbR, hbl, q0, q1⟩ := Rwy.out.tok hlt
              injection eA with eA
              injection eA with e8 e9
              subst e8 e9
              try simp only [] at q1
              have hnb : bT ≠ R := by omega
              have HLT := Lib.hid Owy.out.lt
              have hzy := Gwy.out.size
              have hh9 : h9 ≤ wy.heap.size := by obtain ⟨_, _, ⟨_, h⟩, _⟩ := Owy.out; exact h
              have HBW := Lib.hid hbw
              have hst0 : st = ⟨st.i, 0⟩ := by have := HC.out; cases st; simp at this; rw [this]
              have heq2 := Lib.hid (show EqL T e s f ⟨st.i, 0⟩ l by rw [← hst0]; exact heq.out)
              have hgo := stmtR_goes (innerR_goes (T := T) e) (s := ⟨st.i, 0⟩) hlT
              obtain ⟨s2, hs2e⟩ : ∃ s2, s2 = (stmtR T (innerR T e) ⟨st.i, 0⟩).1 := ⟨_, rfl⟩
              have hgo1 : st.i + 1 ≤ s2.i := by rw [hs2e]; exact hgo.1
              have hgo2 : s2.i ≤ n := by rw [hs2e, ← HN.out]; exact hgo.2
              have HS2 := Lib.hid hs2e
              have hms : msr n s2 < gk := by rw [HGK.out]; exact msr_step hgo1 hlt
              clear hst0 hgo hs2e
              have SC := Lib.hid (show Calls Tryd.prog 42 #[.pointer (some ⟨R, 0, none⟩), .string (textT T st.i)] wy.drew (fun e1 w1 => ∃ x0 x1 x2 x3 x4 st2 xs, e1 = .returned (.agg #[x0, x1, x2, x3, x4]) ∧ w1.ownsRow w.heap.size 61 5 (.slice A0 l.length c0) l.length xs ∧ w.heap.size ≤ w1.heap.size ∧ Hid (∀ u ∈ [x0, x1, x2, x3, x4], u.oneCell' = true) ∧
                  Hid (RdI R _ n c T o (stmtR T (innerR T e) ⟨st.i, 0⟩).1 w1) ∧ Hid (w.grownBy w1 (some R)) ∧ Hid (LVb B w1) ∧ Hid ((stmtR T (innerR T e) ⟨st.i, 0⟩).1.code = 0 → st2 = (stmtR T (innerR T e) ⟨st.i, 0⟩).2) ∧ Hid (∀ k, (Value.slice A0 l.length c0).ownBlock = some k → w.heap.size ≤ k) ∧
                  Hid (∀ (wa w6 : World) (v6 : Value), w6.ownsRow w.heap.size 61 5 v6 (l.length + 1) (xs ++ [x0, x1, x2, x3, x4]) → Below w1.heap.size w1 wa → wa.grownBy w6 (Value.slice A0 l.length c0).ownBlock → (v6.ownBlock = (Value.slice A0 l.length c0).ownBlock ∨ v6.ownBlock = some wa.heap.size) → OwnI w6 w.heap.size w1.heap.size e v6 (l ++ [st2]))) by
                refine (IS.out B R n c _ T o st.i wy.drew (rdI_drew Rwy.out) (lvb_drew Vwy.out) hBR hn hT.out hlt HBW.out KD.out).mono ?_
                rintro e1 w1 ⟨x0, x1, x2, x3, x4, st2, rfl, hst, hsti, hr1, hg1⟩
                have hgw : wy.grownBy w1 (some R) := ⟨hg1.os, hg1.tape, hg1.output, hg1.size, hg1.block⟩
                have hs1 := hgw.size
                obtain ⟨xs, hox, hpush⟩ := (Owy.out.grown hgw (fun k hk => by injection hk with hk; omega)).add HLT.out hh9 hs1 (Nat.le_refl _) hsti
                exact ⟨x0, x1, x2, x3, x4, st2, xs, rfl, hox, by omega, hsti.ones, hr1, gr_gr Gwy.out hgw, Vwy.out.grown hgw (fun k hk => by injection hk with hk; omega), hst, own_ge hox, hpush⟩)
              clear hbw q0
              go_region_law (first
                | (go_simp; go_at_call 42; (with_reducible refine SC.out.mono ?_); rintro e1 w1 ⟨x0, x1, x2, x3, x4, st2, xs, rfl, hox, hs2, HONE, HR1, HG1, HV1, HST, HGE, PU⟩)
                | (refine step_append_rdO _ (by rfl) (.tmp 54) (.tmp 68) 23 (by rfl) w.heap.size 61 i0 _ 5 80 Tryd.underlying23 hi hz0 hz1 hz2 (by rfl) (by decide) _ l.length _ (by rfl) (by exact (hox.alloc _)) _ 1 _ [x0, x1, x2, x3, x4] (by rfl) (by exact rd_lit2 (w := w1) (cs := #[x0, x1, x2, x3, x4]) (by rfl) rfl) (by exact HONE.out) (by simp only [maxLen]; omega) (by omega) (by simp; omega) ?_; intro v6 w6 own6 gr6 hat; obtain ⟨A6, c6, rfl, _, _, _⟩ := rd_of_own own6))
              all_goals
                have H6 := Lib.hid ((HR1.out.below ((Below.refl _ _).alloc (Nat.le_refl _) _)).own gr6 (fun k hk => by have := HGE.out k hk; omega))
                have G6 := Lib.hid (gr_own (gr_below HG1.out ((Below.refl _ _).alloc (Nat.le_refl _) _)) gr6 HGE.out)
                have V6 := Lib.hid ((HV1.out.below ((Below.refl _ _).alloc HV1.out.le _)).grown gr6 (fun k hk => by have := HGE.out k hk; omega))
                have O6 := Lib.hid (PU.out _ _ _ own6 ((Below.refl _ _).alloc (Nat.le_refl _) _) gr6 hat)
                have E6 := Lib.hid (eqL_step heq2.out rfl hlT HK.out.symm HBW.out HST.out)
                rw [← HS2.out] at H6 E6
                clear gr6 own6 hat hox
                go_wp2_with fail
                go_roundg (msr n s2)
                case rel =>
                  obtain ⟨g, hg⟩ := E6.out
                  exact ⟨l ++ [st2], s2, g, w1.heap.size, rfl, by rw [List.length_append]; show l.length + 1 ≤ _; omega, hgo2, O6.out, H6.out, G6.out, V6.out, hg⟩
                case measure => exact hms
          · have h1b : (K == 1) = false := by simp [h1]
            go_wp2_with fail
            go_quiet ((go_at_call 37; exact quiet_any (KQ.out _)))
            go_upto_region 6 with (fail)
            refine wp_name (fun wz hwz => ?_)
            have Rwz := Lib.hid (show RdI R A n c T o ⟨st.i, 0⟩ wz by rw [hwz]; exact (RC.out).drewN _)
            have Gwz := Lib.hid (show w.grownBy wz (some R) by rw [hwz]; exact gr_drewN (hgr.out) _)
            have Vwz := Lib.hid (show LVb B wz by rw [hwz]; exact lvb_drewN (hlv.out) _)
            have Owz := Lib.hid (show OwnI wz w.heap.size h9 e (.slice A0 l.length c0) l by rw [hwz]; exact ownI_drewN (hown.out) _)
            have KQwz := Lib.hid (show ∀ q : Nat, Calls Tryd.prog 37 #[.pointer (some ⟨R, 0, none⟩)] (wz.drewN q) (fun e w' => e = .returned (.int .i64 K) ∧ ∃ m, w' = (wz.drewN q).drewN m) from fun q => by rw [HK.out]; exact kind_any R n c _ T o ⟨st.i, 0⟩ _ (Rwz.out.drewN q) (by omega))
            clear hwz k0 k1 ko k2 f1 f2 f3 lR1 KQ
            obtain ⟨⟨k0, k1, ko, k2⟩, ⟨f1, f3, f2⟩, lR1⟩ := Rwz.out.cells
            simp only [] at k1 k2
            go_quiet ((go_at_call 37; exact quiet_any (KQwz.out _)))
            go_wp2_with (go_at_call 38; refine (fail_any R n c _ T o ⟨st.i, 0⟩ 5 _ (Rwz.out.drewN _)).mono ?_; rintro e1 w1 ⟨rfl, hr1, hg1⟩)
            have hg1 := hg1
            have HR1 := Lib.hid (show RdI R _ n c T o ⟨st.i, 5⟩ w1 from hr1)
            have hgz : wz.grownBy w1 (some R) := gr_gr (gr_drewN (gr_refl _ _) _) hg1
            have HG1 := Lib.hid (gr_gr Gwz.out hgz)
            have HO1 := Lib.hid (Owz.out.grown hgz (fun k hk => by injection hk with hk; omega))
            have HV1 := Lib.hid (Vwz.out.grown hgz (fun k hk => by injection hk with hk; omega))
            have HE1 := Lib.hid (eqL_bad l heq.out HC.out hlT (fun h => h4 (HK.out.trans h.1)) (fun h => h1 (HK.out.trans h.1)))
            clear hr1 hg1 hgz
            go_roundg (msr n ⟨st.i, 5⟩)
            case rel => exact ⟨l, ⟨st.i, 5⟩, 0, h9, rfl, hll, hin, HO1.out, HR1.out, HG1.out, HV1.out, HE1.out⟩
            case measure => rw [HGK.out]; exact msr_fail HC.out
      · have hin2 : st.i = n := by omega
        have hbn : ((st.i : Int) == (n : Int)) = true := by simp [hin2]
        have hE := eqL_end heq.out (.inr (.inl (by have := HN.out; omega)))
        clear hin2
        go_wp2_with fail
        go_quiet (fail)
        go_wp2_with fail
        go_ret
        exact rlI_end hE (hown.out) hrd.out hgr.out _
    · have hE := eqL_end heq.out (.inl h0)
      have d0 : (st.code == 0) = false := by simp [h0]
      go_wp2_with fail
      go_ret
      exact rlI_end hE (hown.out) hrd.out hgr.out 0
set_option maxRecDepth 100000 in
set_option maxHeartbeats 1000000 in
theorem inner_zeroI : InnerI 0 := by
  intro B R n c A T o s w h hv hBR hn hT0 hc hk
  have h0 : s.code ≠ 0 := hc rfl
  obtain ⟨⟨k0, k1, ko, k2⟩, ⟨f1, f3, f2⟩, lR⟩ := h.cells
  have H := Lib.hid h
  have d0 : (s.code == 0) = false := by simp [h0]
  have HC := Lib.hid h0
  clear h hv hc hk h0
  go_enter Tryd.func18, Tryd.ntmps18
  go_wp2_with fail
  refine wp_loop_rounds 1 ?_
  rw [rounds_succ]
  go_wp2_with fail
  go_ret
  exact ⟨_, 0, 0, [], rfl, fun _ => rfl, trI_nil, H.out.below ((Below.refl _ _).alloc (Nat.le_refl _) _), gr_below (gr_refl _ _) ((Below.refl _ _).alloc (Nat.le_refl _) _)⟩
theorem inner_succI (e : Nat) (he : e ≤ 3) (h : StmtsI e) : InnerI (e + 1) := by
  intro B R n c A T o s w h1 h2 h3 h4 h5 _ h6
  have e1 : innerR T (e + 1) s = Lp T e (T.length + 1) s := by
    have hd : decide (e = 4) = false := decide_eq_false (by omega)
    unfold Lp
    rw [hd]
    rfl
  rw [e1]
  exact h B R n c A T o s w h1 h2 h3 h4 h5 (by omega)
theorem stmtsI_all : ∀ e : Nat, e ≤ 4 → StmtsI e := by
  intro e
  induction e with
  | zero => intro _; exact statements_of 0 (by omega) (statement_of 0 (by omega) (body_of 0 (by omega) inner_zeroI))
  | succ e ih => intro he; exact statements_of (e + 1) he (statement_of (e + 1) he (body_of (e + 1) he (inner_succI e (by omega) (ih (by omega)))))
end Go.Proofs.YthkbckkghnbonaaDoor
namespace Go.Proofs.YthkbckkghnbonaaDoor
open Go.RowKit
set_option linter.unusedVariables false
theorem gk_zero {word : ByteArray} (h : ar (gkind word) = 0) : gkind word = 0 := by
  have hle : gkind word ≤ 12 := gkindFrom_le word.toList 12 1 (by omega)
  have hc : gkind word = 0 ∨ gkind word = 1 ∨ gkind word = 2 ∨ gkind word = 3 ∨ gkind word = 4 ∨ gkind word = 5 ∨ gkind word = 6 ∨ gkind word = 7 ∨ gkind word = 8 ∨ gkind word = 9 ∨ gkind word = 10 ∨ gkind word = 11 ∨ gkind word = 12 := by omega
  rcases hc with e | e | e | e | e | e | e | e | e | e | e | e | e <;> first | exact e | (rw [e] at h; exact absurd h (by decide))
theorem gk_nz {word : ByteArray} (h : ar (gkind word) ≠ 0) : (!(gkind word == 0)) = true := by
  have : gkind word ≠ 0 := fun e => h (by rw [e]; decide)
  simp [this]
theorem own_nil (w : World) (base E size : Nat) : w.ownsRow base E size (.slice none 0 0) 0 [] := ⟨by simp, .inl ⟨rfl, rfl⟩⟩
theorem one_str1 (a : ByteArray) : ∀ u ∈ [Value.string a], u.oneCell' = true := by
  intro u hu
  rw [List.mem_singleton.1 hu]
  rfl
theorem SlI.keepS {w w' : World} {lo hi size n c S : Nat} {A : Option Addr} {xs : List Value} (h : SlI w lo hi size A n xs) (hg : w.grownBy w' (some S)) (hne : (Value.slice A n c).ownBlock ≠ some S) : SlI w' lo hi size A n xs :=
  ⟨h.1, fun h0 => by
    obtain ⟨b, off, e, ⟨h1, h2, h3⟩, hc, hf⟩ := h.2 h0
    subst e
    have hb := hg.block b h3 (fun e => hne (by injection e with e; rw [← e]; rfl))
    refine ⟨b, off, rfl, ⟨h1, h2, Nat.lt_of_lt_of_le h3 hg.size⟩, fun j u hu => ?_, fun j => ?_⟩
    · rw [← hc j u hu]; simp [World.cell?, hb]
    · rw [← hf j]; simp [World.frozen?, hb]⟩
structure SB (R : Nat) (A : Option Addr) (n c : Nat) (T : List Tk) (w : World) (X S : Nat) (s : Rs) (cs : Array Value) (W : World) : Prop where
  rd : RdS R A n c T s W
  gr : w.grownBy W (some R)
  x : W.heap[X]? = some (.cells #[.int .i64 0, .string ⟨#[]⟩, .slice none 0 0, .int .i64 0, .slice none 0 0] 61 (0, 0))
  s : W.heap[S]? = some (.cells cs 61 (0, 0))
  lt : R < X ∧ X < S ∧ w.heap.size ≤ X
section
variable {R n c X S : Nat} {A : Option Addr} {T : List Tk} {w W W' : World} {s s' : Rs} {cs : Array Value}
theorem SB.call (h : SB R A n c T w X S s cs W) (hg : W.grownBy W' (some R)) (hr : RdS R A n c T s' W') : SB R A n c T w X S s' cs W' :=
  ⟨hr, gr_gr h.gr hg, heap_gr h.x hg (by have := h.lt; omega), heap_gr h.s hg (by have := h.lt; omega), h.lt⟩
theorem SB.below (h : SB R A n c T w X S s cs W) (hb : Below W.heap.size W W') : SB R A n c T w X S s cs W' :=
  ⟨h.rd.below hb, gr_below h.gr hb, (hb.block _ (lt_of_block h.x)).trans h.x, (hb.block _ (lt_of_block h.s)).trans h.s, h.lt⟩
theorem SB.alloc (h : SB R A n c T w X S s cs W) (o : Obj) : SB R A n c T w X S s cs (W.alloc o) := h.below ((Below.refl _ _).alloc (Nat.le_refl _) _)
theorem SB.drewN (h : SB R A n c T w X S s cs W) (k : Nat) : SB R A n c T w X S s cs (W.drewN k) := h.below (below_drewN (Below.refl _ _) k)
theorem SB.drew (h : SB R A n c T w X S s cs W) : SB R A n c T w X S s cs W.drew := h.below ⟨rfl, rfl, rfl, Nat.le_refl _, fun _ _ => rfl⟩
theorem SB.set (h : SB R A n c T w X S s cs W) (j : Nat) (v : Value) : SB R A n c T w X S s (cs.setIfInBounds j v) (W.setCell ⟨S, j, none⟩ v) := by
  have hg : W.grownBy (W.setCell ⟨S, j, none⟩ v) (some S) := gr_set v
  have hl := h.lt
  exact ⟨h.rd.own hg (fun k hk => by injection hk with hk; omega), gr_own2 h.gr hg (by omega), heap_gr h.x hg (by omega), heap_set_selfG h.s v, hl⟩
theorem SB.atv (h : SB R A n c T w X S s cs W) {i : Nat} {v : Int} (hi : i ≤ T.length) (hv : v = i) : SB R A n c T w X S ⟨i, s.code⟩ cs (W.setCell ⟨R, 1, none⟩ (.int .i64 v)) :=
  ⟨h.rd.atv hi hv, gr_gr h.gr (gr_set _), heap_set_farG h.x (by have := h.lt; show X ≠ R; omega) _, heap_set_farG h.s (by have := h.lt; show S ≠ R; omega) _, h.lt⟩
theorem SB.own {row : Option Nat} (h : SB R A n c T w X S s cs W) (hg : W.grownBy W' row) (hr : ∀ k, row = some k → w.heap.size ≤ k ∧ k ≠ X ∧ k ≠ S) (hR : R < w.heap.size) : SB R A n c T w X S s cs W' := by
  refine ⟨h.rd.own hg (fun k hk => by have := (hr k hk).1; omega), gr_own h.gr hg (fun k hk => (hr k hk).1), (hg.block _ (lt_of_block h.x) (fun e => (hr X e.symm).2.1 rfl)).trans h.x, (hg.block _ (lt_of_block h.s) (fun e => (hr S e.symm).2.2 rfl)).trans h.s, h.lt⟩
theorem SB.sub (h : SB R A n c T w X S s cs W) {n' : Nat} {v : Value} {xs : List Value} (ho : W.ownsRow w.heap.size 9 1 v n' xs) : ∀ k, v.ownBlock = some k → w.heap.size ≤ k ∧ k ≠ X ∧ k ≠ S := fun k hk =>
  ⟨own_ge ho k hk, fun e => own_ne_typeG ho h.x (by decide) (e ▸ hk), fun e => own_ne_typeG ho h.s (by decide) (e ▸ hk)⟩
end
def RsS (R : Nat) (A : Option Addr) (n c : Nat) (T : List Tk) (d : Nat) (s : Rs) (st : Tr (d + 1)) (w : World) (e : Ending) (w' : World) : Prop :=
  ∃ x0 x1 x2 x3 x4 st', e = .returned (.agg #[x0, x1, x2, x3, x4]) ∧ (s.code = 0 → st' = st) ∧ StI w' d w.heap.size w'.heap.size [x0, x1, x2, x3, x4] st' ∧ RdS R A n c T s w' ∧ w.grownBy w' (some R)
def sX (T : List Tk) (d i : Nat) : Rs := if begW (textT T i) = true then (stmtR T (innerR T d) ⟨i, 0⟩).1 else ⟨i, 5⟩
theorem sX_yes {T : List Tk} {d i : Nat} {word : ByteArray} (hw : word = textT T i) (h : begW word = true) : sX T d i = (stmtR T (innerR T d) ⟨i, 0⟩).1 := by subst hw; exact if_pos h
theorem sX_no {T : List Tk} {d i : Nat} {word : ByteArray} (hw : word = textT T i) (h : begW word = false) : sX T d i = ⟨i, 5⟩ := by subst hw; exact if_neg (by rw [h]; decide)
def StmtS (d : Nat) : Prop := ∀ (R n c : Nat) (A : Option Addr) (T : List Tk) (i : Nat) (k : Int) (w : World), RdS R A n c T ⟨i, 0⟩ w → n ≤ 160 → (∀ t ∈ T, wellTk t) → i < n → k = 4 - d →
  Calls Tryd.prog 34 #[.pointer (some ⟨R, 0, none⟩), .int .i64 k] w (RsS R A n c T d (sX T d i) (stmtR T (innerR T d) ⟨i, 0⟩).2 w)
end Go.Proofs.YthkbckkghnbonaaDoor
namespace Go.Proofs.YthkbckkghnbonaaDoor
open Go.RowKit
set_option linter.unusedVariables false
set_option maxRecDepth 100000 in
set_option maxHeartbeats 60000000 in
theorem l18Stmt_of (d : Nat) (hd : d ≤ 4) (hb0 : BodyS d) : StmtS d := by
  intro R n c A T i k w h hn hT0 hi0 hk
  obtain ⟨i0, hi, hz0, hz1, hz2⟩ := info_parts info_str
  obtain ⟨⟨k0, k1, k2⟩, f1, f2, lR⟩ := h.cells
  have H := Lib.hid h
  have IB := Lib.hid hb0
  have hT := Lib.hid hT0
  have KD := Lib.hid hk
  have hiT : i + 1 ≤ T.length := by have := h.l; omega
  obtain ⟨b, off, rfl, hbR, hbl, t0, t1⟩ := h.tok hi0
  have WD := Lib.hid (stmtR_word (T := T) (inner := innerR T d) (i := i) rfl)
  obtain ⟨word, hw⟩ : ∃ word, word = textT T i := ⟨_, rfl⟩
  simp only [] at k1 k2 t0 t1
  rw [← hw] at t1 WD
  have SY := Lib.hid (fun hb => sX_yes (d := d) hw hb)
  have SN := Lib.hid (fun hb => sX_no (d := d) hw hb)
  have hnb : b ≠ R := by omega
  clear h hb0 hT0 hk t0 hw
  go_enter Tryd.func34, Tryd.ntmps34
  go_wp2_with fail
  go_quiet (fail)
  go_upto_region 5 with (fail)
  refine wp_name (fun w0 hw0 => ?_)
  obtain ⟨X, hX⟩ : ∃ X, X = w.heap.size := ⟨_, rfl⟩
  obtain ⟨S, hS⟩ : ∃ S, S = X + 1 := ⟨_, rfl⟩
  have G0 : w.grownBy w0 (some R) := by rw [hw0]; exact gr_below (gr_gr (gr_drewN (gr_below (gr_refl _ _) ((Below.refl _ _).alloc (Nat.le_refl _) _)) _) (gr_set _)) ((Below.refl _ _).alloc (Nat.le_refl _) _)
  have Y0 : RdS R (some ⟨b, off, none⟩) n c T ⟨i + 1, 0⟩ w0 := by rw [hw0]; exact ((((H.out.below ((Below.refl _ _).alloc (Nat.le_refl _) _)).drewN _).atv (i := i + 1) (v := (i : Int) + 1) hiT (by simp)).below ((Below.refl _ _).alloc (Nat.le_refl _) _))
  have X0 : w0.heap[X]? = some (.cells #[.int .i64 0, .string ⟨#[]⟩, .slice none 0 0, .int .i64 0, .slice none 0 0] 61 (0, 0)) := by
    rw [hw0]
    exact heap_pastG (by rw [size_setCell]; show X < (w.alloc _).heap.size; rw [hX]; simp) (heap_set_farG (heap_topG hX) (by show X ≠ R; omega) _)
  have S0 : w0.heap[S]? = some (.cells #[.int .i64 0, .string ⟨#[]⟩, .slice none 0 0, .int .i64 0, .slice none 0 0] 61 (0, 0)) := by
    rw [hw0]
    exact heap_topG (by rw [size_setCell, hS, hX]; show w.heap.size + 1 = (w.alloc _).heap.size; simp)
  have B0 := Lib.hid (show SB R (some ⟨b, off, none⟩) n c T w X S ⟨i + 1, 0⟩ #[.int .i64 0, .string ⟨#[]⟩, .slice none 0 0, .int .i64 0, .slice none 0 0] w0 from ⟨Y0, G0, X0, S0, by omega, by omega, by omega⟩)
  have HX := Lib.hid hX
  rw [← hX, ← hS]
  have hXw : w.heap.size ≤ X := by omega
  have hRX : R < X := by omega
  have hXS : X < S := by omega
  clear hw0 hX hS G0 Y0 X0 S0 k0 k1 k2 f1 f2 t1 H
  rcases kw_val word with hk | hk | hk | hk | hk | hk | hk
  · obtain ⟨q2, q3, q4, q5, q6, q7⟩ := kw_1 hk
    have HE := Lib.hid (WD.out.2.2.2.1 hk)
    have har := ar_le (gkind word)
    have HBG := Lib.hid (beg_1 hk)
    clear hk
    obtain ⟨p0, p1, p2, p3, p4⟩ := cells5G (lay := Below.refl _ _) B0.out.s
    have g0 := free_at (j := 0) B0.out.s
    have g1 := free_at (j := 1) B0.out.s
    have g2 := free_at (j := 2) B0.out.s
    have g3 := free_at (j := 3) B0.out.s
    have g4 := free_at (j := 4) B0.out.s
    have lS := lt_of_block B0.out.s
    go_upto_region 33 with (fail)
    refine wp_name (fun w1 hw1 => ?_)
    have B1 := Lib.hid (show SB R (some ⟨b, off, none⟩) n c T w X S ⟨i + 1, 0⟩ #[.int .i64 1, .string word, .slice none 0 0, .int .i64 0, .slice none 0 0] w1 by rw [hw1]; exact ((B0.out.set 0 (.int .i64 1)).set 1 (.string word)))
    clear hw1
    clear p0 p1 p2 p3 p4 g0 g1 g2 g3 g4 lS
    go_upto_region 34 with (first | (go_at_call 62; refine (GateKind_spec word w1).mono ?_; rintro e w2 ⟨rfl, b2, s2⟩) | (go_at_call 61; refine (Arity_spec _ _).mono ?_; rintro e w' ⟨rfl, rfl⟩))
    have B2 := Lib.hid (B1.out.below b2)
    obtain ⟨m, hm⟩ : ∃ m, m = ar (gkind word) := ⟨_, rfl⟩
    rw [← hm] at HE har ⊢
    have HM := Lib.hid hm
    clear hm b2 s2
    by_cases hm0 : m = 0
    · subst hm0
      have SNO := Lib.hid (SN.out (by rw [HBG.out, gk_zero HM.out.symm]; rfl))
      obtain ⟨⟨k0, k1, k2⟩, ⟨f1, f2, lR2⟩⟩ := B2.out.rd.cells
      simp only [] at k1 k2
      go_upto_region 36 with (fail)
      refine wp_name (fun w3 hw3 => ?_)
      have B3 := Lib.hid (show SB R (some ⟨b, off, none⟩) n c T w X S ⟨i, 0⟩ #[.int .i64 1, .string word, .slice none 0 0, .int .i64 0, .slice none 0 0] w3 by rw [hw3]; exact B2.out.atv (by omega) (by simp))
      clear hw3 k0 k1 k2 f1 f2 lR2
      go_wp2_with fail
      refine (l18Fail_any R n c _ T ⟨i, 0⟩ 5 w3 B3.out.rd).mono ?_
      rintro e w4 ⟨rfl, hr, hg⟩
      have B4 := Lib.hid (show SB R (some ⟨b, off, none⟩) n c T w X S ⟨i, 5⟩ #[.int .i64 1, .string word, .slice none 0 0, .int .i64 0, .slice none 0 0] w4 from B3.out.call hg hr)
      have hz4 : S + 1 ≤ w4.heap.size := lt_of_block B4.out.s
      clear hr hg
      obtain ⟨p0, p1, p2, p3, p4⟩ := cells5G (lay := Below.refl _ _) B4.out.s
      have g0 := free_at (j := 0) B4.out.s
      have g1 := free_at (j := 1) B4.out.s
      have g2 := free_at (j := 2) B4.out.s
      have g3 := free_at (j := 3) B4.out.s
      have g4 := free_at (j := 4) B4.out.s
      have lS := lt_of_block B4.out.s
      have SQ := Lib.hid (stI_mk (w := w4) (d := d) (h := ⟨1, word, [], 0⟩) (Aa := none) (ca := 0) (Ab := none) (cb := 0) (n := 0) (m1 := S + 1) (c := S + 1) (m2 := w4.heap.size) rfl (Nat.le_refl _) hz4 slI_none trI_nil (Nat.le_refl _))
      obtain ⟨x0, x1, x2, x3, x4⟩ := cells5G (lay := Below.refl _ _) B4.out.x
      have q0 := free_at (j := 0) B4.out.x
      have q1 := free_at (j := 1) B4.out.x
      have q2 := free_at (j := 2) B4.out.x
      have q3 := free_at (j := 3) B4.out.x
      have q4 := free_at (j := 4) B4.out.x
      have lX := lt_of_block B4.out.x
      obtain ⟨w9, hw9⟩ : ∃ w9, w9 = ((((w4.setCell ⟨X, 0, none⟩ (.int .i64 1)).setCell ⟨X, 1, none⟩ (.string word)).setCell ⟨X, 2, none⟩ (.slice none 0 0)).setCell ⟨X, 3, none⟩ (.int .i64 0)).setCell ⟨X, 4, none⟩ (.slice none 0 0) := ⟨_, rfl⟩
      have X9 : w9.heap[X]? = some (.cells #[.int .i64 1, .string word, .slice none 0 0, .int .i64 0, .slice none 0 0] 61 (0, 0)) := by rw [hw9]; exact heap_set5 B4.out.x
      have G9 : w4.grownBy w9 (some X) := by rw [hw9]; exact gr_set5 _ _ _ _ _ _ _
      obtain ⟨r0, r1, r2, r3, r4⟩ := cells5G (lay := Below.refl _ _) X9
      have hz9 := G9.size
      have HW9 := Lib.hid hw9
      clear hw9
      go_wp2_with fail
      rw [← HW9.out]
      exact bodyPost_ret (v := .agg #[.int .i64 1, .string word, .slice none 0 0, .int .i64 0, .slice none 0 0]) (by simp [results, Tryd.results34, go_sem, r0, r1, r2, r3, r4]) rfl ⟨_, _, _, _, _, mkT ⟨1, word, [], 0⟩ [], rfl, by rw [SNO.out]; exact fun h => absurd (show (5 : Int) = 0 from h) (by decide), stI_wide (stI_gr SQ.out G9 (by omega)) (by omega) (by omega), by rw [SNO.out]; exact B4.out.rd.own G9 (fun k hk => by injection hk with hk; omega), gr_own2 B4.out.gr G9 (by omega)⟩
    · have SE := Lib.hid (SY.out (by rw [HBG.out]; exact gk_nz (by rw [← HM.out]; exact hm0)))
      have dm : ((m : Int) == 0) = false := by simp; omega
      go_wp2_with fail
      go_loopw [8] (fun i8 wr => ∃ (t : Nat) (Q : List ByteArray) (st : Rs) (Ap : Option Addr) (cp : Nat), i8 = .int .i64 t ∧ t ≤ m ∧ Hid (Q.length = t) ∧ Hid (t ≤ cp) ∧ Hid (wr.ownsRow (S + 1) 9 1 (.slice Ap t cp) t (strs Q)) ∧ Hid (SB R (some ⟨b, off, none⟩) n c T w X S st #[.int .i64 1, .string word, .slice Ap t cp, .int .i64 0, .slice none 0 0] wr) ∧ Hid (namesR T m ⟨i + 1, 0⟩ = ((namesR T (m - t) st).1, Q ++ (namesR T (m - t) st).2))) (fun i8 _ => m - (intOf i8).toNat)
      case atStart => exact ⟨0, [], ⟨i + 1, 0⟩, none, 0, rfl, Nat.zero_le _, rfl, Nat.le_refl _, own_nil _ _ _ _, B2.out, rfl⟩
      case round =>
        obtain ⟨t, Q, st, Ap, cp, rfl, ht, HQL, HCC7, OW7, B7, hnm⟩ := hrel
        obtain ⟨w7, rfl⟩ : ∃ w7 : World, w7 = wr := ⟨_, rfl⟩
        by_cases hlt : t < m
        · go_upto_region 41 with (fail)
          have TK7 := Lib.hid (show Calls Tryd.prog 33 #[.pointer (some ⟨R, 0, none⟩), .int .i64 1, .int .i64 3] w7.drew (fun e1 y1 => e1 = .returned (.string (takeR T st 1 3).2) ∧ y1.ownsRow (S + 1) 9 1 (.slice Ap t cp) t (strs Q) ∧ Hid (SB R (some ⟨b, off, none⟩) n c T w X S (takeR T st 1 3).1 #[.int .i64 1, .string word, (.slice Ap t cp), .int .i64 0, .slice none 0 0] y1) ∧ y1.cell? ⟨S, 2, none⟩ = some (.slice Ap t cp) ∧ (∀ ob, (y1.alloc ob).cell? ⟨S, 2, none⟩ = some (.slice Ap t cp)) ∧ S + 1 ≤ y1.heap.size) by
            refine (l18Take_any R n c _ T st 1 3 w7.drew B7.out.drew.rd (by omega) (by decide)).mono ?_
            rintro e y1 ⟨rfl, hr, hg⟩
            have hb := B7.out.drew.call hg hr
            have hc := cell_at (j := 2) hb.s rfl
            exact ⟨rfl, own_drawG (own_drewG OW7.out) hg (by omega), hb, hc, fun ob => (World.cell?_alloc_lt y1 ob ⟨S, 2, none⟩ (lt_of_block hb.s)).trans hc, lt_of_block hb.s⟩)
          have pS7 := cell_at (j := 2) B7.out.s rfl
          obtain ⟨aw7, hx7⟩ : ∃ x, x = (takeR T st 1 3).2 := ⟨_, rfl⟩
          have HX7 := Lib.hid hx7
          rw [← hx7] at TK7
          clear hx7
          go_region_law (first
            | (go_simp; go_at_call 33; (with_reducible refine TK7.out.mono ?_); rintro e1 y1 ⟨rfl, hox, HB1, hc2, hc2a, hy1⟩)
            | (refine step_append_rdO _ (by rfl) (.tmp 117) (.tmp 120) 22 (by rfl) (S + 1) 9 i0 _ 1 16 Tryd.underlying22 hi hz0 hz1 hz2 (by rfl) (by decide) _ t _ (by rfl) (by exact hox.alloc _) _ 1 _ [.string aw7] (by rfl) (by exact rd_lit2 (w := y1) (cs := #[.string aw7]) (by rfl) rfl) (by exact one_str1 _) (by simp only [maxLen]; omega) (by omega) (by simp; omega) ?_; intro v6 w6 own6 gr6 hat; obtain ⟨A8, c8, rfl, hcc8, _, _⟩ := rd_of_own (show w6.ownsRow _ _ _ v6 (t + 1) _ from own6); have HB6 := Lib.hid ((HB1.out.alloc _).own gr6 (HB1.out.sub (own_lowT hox (by omega))) lR); have p2 := cell_at (j := 2) HB6.out.s rfl; have g2 := free_at (j := 2) HB6.out.s; have lS := lt_of_block HB6.out.s))
          all_goals
            obtain ⟨w8, hw8⟩ : ∃ w8, w8 = w6.setCell ⟨S, 2, none⟩ (.slice A8 (t + 1) c8) := ⟨_, rfl⟩
            have B8 := Lib.hid (show SB R (some ⟨b, off, none⟩) n c T w X S (takeR T st 1 3).1 #[.int .i64 1, .string word, .slice A8 (t + 1) c8, .int .i64 0, .slice none 0 0] w8 by rw [hw8]; exact HB6.out.set 2 _)
            have OW8 := Lib.hid (show w8.ownsRow (S + 1) 9 1 (.slice A8 (t + 1) c8) (t + 1) (strs (Q ++ [aw7])) by rw [hw8, strs_snoc1]; exact own_setfarG own6 (own_ne_typeG own6 HB6.out.s (by decide)) _)
            have HCC8 := Lib.hid hcc8
            have HW8 := Lib.hid hw8
            clear hw8 own6 gr6 hat hox hc2 hc2a p2 g2 pS7 hcc8 HB6 HB1 hy1 lS
            go_wp2_with fail
            rw [← HW8.out]
            go_roundw
            case rel => exact ⟨t + 1, Q ++ [aw7], (takeR T st 1 3).1, A8, c8, by go_num, by omega, by rw [List.length_append, HQL.out]; rfl, HCC8.out, OW8.out, B8.out, by rw [HX7.out]; exact namesR_step hlt hnm.out⟩
            case measure => simp [intOf]; omega
        · obtain rfl : t = m := by omega
          have HNM : Hid (namesR T t ⟨i + 1, 0⟩ = (st, Q)) := by
            show namesR T t ⟨i + 1, 0⟩ = _
            rw [hnm.out, Nat.sub_self]
            simp [namesR]
          go_wp2_with fail
          refine (l18Take_any R n c _ T st 2 4 w7 B7.out.rd (by omega) (by decide)).mono ?_
          rintro e w4 ⟨rfl, hr, hg⟩
          have B4 := Lib.hid (B7.out.call hg hr)
          have hz4 := hg.size
          have hz7 : S + 1 ≤ w7.heap.size := lt_of_block B7.out.s
          have SL4 := Lib.hid (slI_gr (slI_of_own OW7.out) hg (by omega))
          clear hr hg
          obtain ⟨p0, p1, p2, p3, p4⟩ := cells5G (lay := Below.refl _ _) B4.out.s
          have g0 := free_at (j := 0) B4.out.s
          have g1 := free_at (j := 1) B4.out.s
          have g2 := free_at (j := 2) B4.out.s
          have g3 := free_at (j := 3) B4.out.s
          have g4 := free_at (j := 4) B4.out.s
          have lS := lt_of_block B4.out.s
          have SQ := Lib.hid (stI_mk (d := d) (h := ⟨1, word, Q, 0⟩) (Aa := Ap) (ca := cp) (Ab := none) (cb := 0) (n := t) (m2 := w4.heap.size) HQL.out hz7 (by omega) SL4.out trI_nil HCC7.out)
          obtain ⟨x0, x1, x2, x3, x4⟩ := cells5G (lay := Below.refl _ _) B4.out.x
          have q0 := free_at (j := 0) B4.out.x
          have q1 := free_at (j := 1) B4.out.x
          have q2 := free_at (j := 2) B4.out.x
          have q3 := free_at (j := 3) B4.out.x
          have q4 := free_at (j := 4) B4.out.x
          have lX := lt_of_block B4.out.x
          obtain ⟨w9, hw9⟩ : ∃ w9, w9 = ((((w4.setCell ⟨X, 0, none⟩ (.int .i64 1)).setCell ⟨X, 1, none⟩ (.string word)).setCell ⟨X, 2, none⟩ (.slice Ap t cp)).setCell ⟨X, 3, none⟩ (.int .i64 0)).setCell ⟨X, 4, none⟩ (.slice none 0 0) := ⟨_, rfl⟩
          have X9 : w9.heap[X]? = some (.cells #[.int .i64 1, .string word, .slice Ap t cp, .int .i64 0, .slice none 0 0] 61 (0, 0)) := by rw [hw9]; exact heap_set5 B4.out.x
          have G9 : w4.grownBy w9 (some X) := by rw [hw9]; exact gr_set5 _ _ _ _ _ _ _
          obtain ⟨r0, r1, r2, r3, r4⟩ := cells5G (lay := Below.refl _ _) X9
          have hz9 := G9.size
          have HW9 := Lib.hid hw9
          clear hw9
          go_wp2_with fail
          rw [← HW9.out]
          exact bodyPost_ret (v := .agg #[.int .i64 1, .string word, .slice Ap t cp, .int .i64 0, .slice none 0 0]) (by simp [results, Tryd.results34, go_sem, r0, r1, r2, r3, r4]) rfl ⟨_, _, _, _, _, mkT ⟨1, word, Q, 0⟩ [], rfl, by rw [SE.out, HE.out, HNM.out]; exact fun _ => rfl, stI_wide (stI_gr SQ.out G9 (by omega)) (by omega) (by omega), by rw [SE.out, HE.out, HNM.out]; exact B4.out.rd.own G9 (fun k hk => by injection hk with hk; omega), gr_own2 B4.out.gr G9 (by omega)⟩
  · obtain ⟨q2, q3, q4, q5, q6, q7⟩ := kw_2 hk
    have SE := Lib.hid (SY.out (beg_2 hk))
    have HE := Lib.hid (WD.out.1 hk)
    clear hk
    obtain ⟨p0, p1, p2, p3, p4⟩ := cells5G (lay := Below.refl _ _) B0.out.s
    have g0 := free_at (j := 0) B0.out.s
    have g1 := free_at (j := 1) B0.out.s
    have g2 := free_at (j := 2) B0.out.s
    have g3 := free_at (j := 3) B0.out.s
    have g4 := free_at (j := 4) B0.out.s
    have lS := lt_of_block B0.out.s
    obtain ⟨w1, hw1⟩ : ∃ w1, w1 = (w0.setCell ⟨S, 0, none⟩ (.int .i64 2)) := ⟨_, rfl⟩
    have B1 := Lib.hid (show SB R (some ⟨b, off, none⟩) n c T w X S ⟨i + 1, 0⟩ #[.int .i64 2, .string ⟨#[]⟩, .slice none 0 0, .int .i64 0, .slice none 0 0] w1 by rw [hw1]; exact (B0.out.set 0 (.int .i64 2)))
    have HW1 := Lib.hid hw1
    clear hw1
    go_wp2_with fail
    rw [← HW1.out]
    clear p0 p1 p2 p3 p4 g0 g1 g2 g3 g4 lS
    refine (l18Number_any R n c _ T ⟨i + 1, 0⟩ w1 B1.out.rd (by omega) hT.out).mono ?_
    rintro e w2 ⟨rfl, hr, hg⟩
    have B2 := Lib.hid (B1.out.call hg hr)
    have hz2 := hg.size
    clear hr hg
    obtain ⟨x, hx⟩ : ∃ x, x = (numR T ⟨i + 1, 0⟩).2 := ⟨_, rfl⟩
    rw [← hx] at HE ⊢
    clear hx
    obtain ⟨p0, p1, p2, p3, p4⟩ := cells5G (lay := Below.refl _ _) B2.out.s
    have g0 := free_at (j := 0) B2.out.s
    have g1 := free_at (j := 1) B2.out.s
    have g2 := free_at (j := 2) B2.out.s
    have g3 := free_at (j := 3) B2.out.s
    have g4 := free_at (j := 4) B2.out.s
    have lS := lt_of_block B2.out.s
    obtain ⟨w3, hw3⟩ : ∃ w3, w3 = (w2.setCell ⟨S, 3, none⟩ (.int .i64 x)) := ⟨_, rfl⟩
    have B3 := Lib.hid (show SB R (some ⟨b, off, none⟩) n c T w X S (numR T ⟨i + 1, 0⟩).1 #[.int .i64 2, .string ⟨#[]⟩, .slice none 0 0, .int .i64 x, .slice none 0 0] w3 by rw [hw3]; exact (B2.out.set 3 (.int .i64 x)))
    have HW3 := Lib.hid hw3
    clear hw3
    go_wp2_with fail
    rw [← HW3.out]
    clear p0 p1 p2 p3 p4 g0 g1 g2 g3 g4 lS
    refine (IB.out R n c _ T (numR T ⟨i + 1, 0⟩).1 k w3 B3.out.rd hn hT.out KD.out).mono ?_
    rintro e w4 ⟨Ab, nb, cb, l', rfl, hl, htr, hr, hg⟩
    have B4 := Lib.hid (B3.out.call hg hr)
    have hz4 := hg.size
    have hSb := lt_of_block B3.out.s
    have HL := Lib.hid hl
    have TR := Lib.hid htr
    clear hl htr hr hg
    obtain ⟨p0, p1, p2, p3, p4⟩ := cells5G (lay := Below.refl _ _) B4.out.s
    have g0 := free_at (j := 0) B4.out.s
    have g1 := free_at (j := 1) B4.out.s
    have g2 := free_at (j := 2) B4.out.s
    have g3 := free_at (j := 3) B4.out.s
    have g4 := free_at (j := 4) B4.out.s
    have lS := lt_of_block B4.out.s
    obtain ⟨w5, hw5⟩ : ∃ w5, w5 = (w4.setCell ⟨S, 4, none⟩ (.slice Ab nb cb)) := ⟨_, rfl⟩
    have B5 := Lib.hid (show SB R (some ⟨b, off, none⟩) n c T w X S (bodyR T (innerR T d) (numR T ⟨i + 1, 0⟩).1).1 #[.int .i64 2, .string ⟨#[]⟩, .slice none 0 0, .int .i64 x, .slice Ab nb cb] w5 by rw [hw5]; exact (B4.out.set 4 (.slice Ab nb cb)))
    have HW5 := Lib.hid hw5
    clear hw5
    have TR5 := Lib.hid (trI_gr TR.out (show w4.grownBy w5 (some S) by rw [HW5.out]; exact gr_set _) (by omega))
    have hz5 : w4.heap.size ≤ w5.heap.size := by rw [HW5.out, size_setCell]; exact Nat.le_refl _
    go_upto_region 9 with (fail)
    rw [← HW5.out]
    clear p0 p1 p2 p3 p4 g0 g1 g2 g3 g4 lS
    obtain ⟨p0, p1, p2, p3, p4⟩ := cells5G (lay := Below.refl _ _) B5.out.s
    have g0 := free_at (j := 0) B5.out.s
    have g1 := free_at (j := 1) B5.out.s
    have g2 := free_at (j := 2) B5.out.s
    have g3 := free_at (j := 3) B5.out.s
    have g4 := free_at (j := 4) B5.out.s
    have lS := lt_of_block B5.out.s
    have SQ := Lib.hid (stI_mk (h := ⟨2, ⟨#[]⟩, [], x⟩) (Aa := none) (ca := 0) (cb := cb) (n := 0) rfl (Nat.le_refl w3.heap.size) (by omega) slI_none (TR5.out.wide (Nat.le_refl _) (show w4.heap.size ≤ w5.heap.size from hz5)) (Nat.le_refl _))
    obtain ⟨x0, x1, x2, x3, x4⟩ := cells5G (lay := Below.refl _ _) B5.out.x
    have q0 := free_at (j := 0) B5.out.x
    have q1 := free_at (j := 1) B5.out.x
    have q2 := free_at (j := 2) B5.out.x
    have q3 := free_at (j := 3) B5.out.x
    have q4 := free_at (j := 4) B5.out.x
    have lX := lt_of_block B5.out.x
    obtain ⟨w9, hw9⟩ : ∃ w9, w9 = ((((w5.setCell ⟨X, 0, none⟩ (.int .i64 2)).setCell ⟨X, 1, none⟩ (.string ⟨#[]⟩)).setCell ⟨X, 2, none⟩ (.slice none 0 0)).setCell ⟨X, 3, none⟩ (.int .i64 x)).setCell ⟨X, 4, none⟩ (.slice Ab nb cb) := ⟨_, rfl⟩
    have X9 : w9.heap[X]? = some (.cells #[.int .i64 2, .string ⟨#[]⟩, .slice none 0 0, .int .i64 x, .slice Ab nb cb] 61 (0, 0)) := by rw [hw9]; exact heap_set5 B5.out.x
    have G9 : w5.grownBy w9 (some X) := by rw [hw9]; exact gr_set5 _ _ _ _ _ _ _
    obtain ⟨r0, r1, r2, r3, r4⟩ := cells5G (lay := Below.refl _ _) X9
    have hz9 := G9.size
    have HW9 := Lib.hid hw9
    clear hw9
    go_wp2_with fail
    rw [← HW9.out]
    exact bodyPost_ret (v := .agg #[.int .i64 2, .string ⟨#[]⟩, .slice none 0 0, .int .i64 x, .slice Ab nb cb]) (by simp [results, Tryd.results34, go_sem, r0, r1, r2, r3, r4]) rfl ⟨_, _, _, _, _, mkT ⟨2, ⟨#[]⟩, [], x⟩ l', rfl, by rw [SE.out, HE.out]; exact fun h => by rw [HL.out h], stI_wide (stI_gr SQ.out G9 (by omega)) (by omega) (by omega), by rw [SE.out, HE.out]; exact B5.out.rd.own G9 (fun k hk => by injection hk with hk; omega), gr_own2 B5.out.gr G9 (by omega)⟩
  · obtain ⟨q2, q3, q4, q5, q6, q7⟩ := kw_3 hk
    have SE := Lib.hid (SY.out (beg_3 hk))
    have HE := Lib.hid (WD.out.2.1 hk)
    clear hk
    obtain ⟨p0, p1, p2, p3, p4⟩ := cells5G (lay := Below.refl _ _) B0.out.s
    have g0 := free_at (j := 0) B0.out.s
    have g1 := free_at (j := 1) B0.out.s
    have g2 := free_at (j := 2) B0.out.s
    have g3 := free_at (j := 3) B0.out.s
    have g4 := free_at (j := 4) B0.out.s
    have lS := lt_of_block B0.out.s
    obtain ⟨w1, hw1⟩ : ∃ w1, w1 = (w0.setCell ⟨S, 0, none⟩ (.int .i64 3)) := ⟨_, rfl⟩
    have B1 := Lib.hid (show SB R (some ⟨b, off, none⟩) n c T w X S ⟨i + 1, 0⟩ #[.int .i64 3, .string ⟨#[]⟩, .slice none 0 0, .int .i64 0, .slice none 0 0] w1 by rw [hw1]; exact (B0.out.set 0 (.int .i64 3)))
    have HW1 := Lib.hid hw1
    clear hw1
    go_wp2_with fail
    rw [← HW1.out]
    clear p0 p1 p2 p3 p4 g0 g1 g2 g3 g4 lS
    refine (IB.out R n c _ T ⟨i + 1, 0⟩ k w1 B1.out.rd hn hT.out KD.out).mono ?_
    rintro e w4 ⟨Ab, nb, cb, l', rfl, hl, htr, hr, hg⟩
    have B4 := Lib.hid (B1.out.call hg hr)
    have hz4 := hg.size
    have hSb := lt_of_block B1.out.s
    have HL := Lib.hid hl
    have TR := Lib.hid htr
    clear hl htr hr hg
    obtain ⟨p0, p1, p2, p3, p4⟩ := cells5G (lay := Below.refl _ _) B4.out.s
    have g0 := free_at (j := 0) B4.out.s
    have g1 := free_at (j := 1) B4.out.s
    have g2 := free_at (j := 2) B4.out.s
    have g3 := free_at (j := 3) B4.out.s
    have g4 := free_at (j := 4) B4.out.s
    have lS := lt_of_block B4.out.s
    obtain ⟨w5, hw5⟩ : ∃ w5, w5 = (w4.setCell ⟨S, 4, none⟩ (.slice Ab nb cb)) := ⟨_, rfl⟩
    have B5 := Lib.hid (show SB R (some ⟨b, off, none⟩) n c T w X S (bodyR T (innerR T d) ⟨i + 1, 0⟩).1 #[.int .i64 3, .string ⟨#[]⟩, .slice none 0 0, .int .i64 0, .slice Ab nb cb] w5 by rw [hw5]; exact (B4.out.set 4 (.slice Ab nb cb)))
    have HW5 := Lib.hid hw5
    clear hw5
    have TR5 := Lib.hid (trI_gr TR.out (show w4.grownBy w5 (some S) by rw [HW5.out]; exact gr_set _) (by omega))
    have hz5 : w4.heap.size ≤ w5.heap.size := by rw [HW5.out, size_setCell]; exact Nat.le_refl _
    go_upto_region 13 with (fail)
    rw [← HW5.out]
    clear p0 p1 p2 p3 p4 g0 g1 g2 g3 g4 lS
    obtain ⟨p0, p1, p2, p3, p4⟩ := cells5G (lay := Below.refl _ _) B5.out.s
    have g0 := free_at (j := 0) B5.out.s
    have g1 := free_at (j := 1) B5.out.s
    have g2 := free_at (j := 2) B5.out.s
    have g3 := free_at (j := 3) B5.out.s
    have g4 := free_at (j := 4) B5.out.s
    have lS := lt_of_block B5.out.s
    have SQ := Lib.hid (stI_mk (h := ⟨3, ⟨#[]⟩, [], 0⟩) (Aa := none) (ca := 0) (cb := cb) (n := 0) rfl (Nat.le_refl w1.heap.size) (by omega) slI_none (TR5.out.wide (Nat.le_refl _) (show w4.heap.size ≤ w5.heap.size from hz5)) (Nat.le_refl _))
    obtain ⟨x0, x1, x2, x3, x4⟩ := cells5G (lay := Below.refl _ _) B5.out.x
    have q0 := free_at (j := 0) B5.out.x
    have q1 := free_at (j := 1) B5.out.x
    have q2 := free_at (j := 2) B5.out.x
    have q3 := free_at (j := 3) B5.out.x
    have q4 := free_at (j := 4) B5.out.x
    have lX := lt_of_block B5.out.x
    obtain ⟨w9, hw9⟩ : ∃ w9, w9 = ((((w5.setCell ⟨X, 0, none⟩ (.int .i64 3)).setCell ⟨X, 1, none⟩ (.string ⟨#[]⟩)).setCell ⟨X, 2, none⟩ (.slice none 0 0)).setCell ⟨X, 3, none⟩ (.int .i64 0)).setCell ⟨X, 4, none⟩ (.slice Ab nb cb) := ⟨_, rfl⟩
    have X9 : w9.heap[X]? = some (.cells #[.int .i64 3, .string ⟨#[]⟩, .slice none 0 0, .int .i64 0, .slice Ab nb cb] 61 (0, 0)) := by rw [hw9]; exact heap_set5 B5.out.x
    have G9 : w5.grownBy w9 (some X) := by rw [hw9]; exact gr_set5 _ _ _ _ _ _ _
    obtain ⟨r0, r1, r2, r3, r4⟩ := cells5G (lay := Below.refl _ _) X9
    have hz9 := G9.size
    have HW9 := Lib.hid hw9
    clear hw9
    go_wp2_with fail
    rw [← HW9.out]
    exact bodyPost_ret (v := .agg #[.int .i64 3, .string ⟨#[]⟩, .slice none 0 0, .int .i64 0, .slice Ab nb cb]) (by simp [results, Tryd.results34, go_sem, r0, r1, r2, r3, r4]) rfl ⟨_, _, _, _, _, mkT ⟨3, ⟨#[]⟩, [], 0⟩ l', rfl, by rw [SE.out, HE.out]; exact fun h => by rw [HL.out h], stI_wide (stI_gr SQ.out G9 (by omega)) (by omega) (by omega), by rw [SE.out, HE.out]; exact B5.out.rd.own G9 (fun k hk => by injection hk with hk; omega), gr_own2 B5.out.gr G9 (by omega)⟩
  · obtain ⟨q2, q3, q4, q5, q6, q7⟩ := kw_4 hk
    have SE := Lib.hid (SY.out (beg_4 hk))
    have HE := Lib.hid (WD.out.2.2.2.2 4 (by decide) hk)
    clear hk
    obtain ⟨p0, p1, p2, p3, p4⟩ := cells5G (lay := Below.refl _ _) B0.out.s
    have g0 := free_at (j := 0) B0.out.s
    have g1 := free_at (j := 1) B0.out.s
    have g2 := free_at (j := 2) B0.out.s
    have g3 := free_at (j := 3) B0.out.s
    have g4 := free_at (j := 4) B0.out.s
    have lS := lt_of_block B0.out.s
    go_upto_region 22 with (fail)
    refine wp_name (fun w1 hw1 => ?_)
    have B1 := Lib.hid (show SB R (some ⟨b, off, none⟩) n c T w X S ⟨i + 1, 0⟩ #[.int .i64 4, .string ⟨#[]⟩, .slice none 0 0, .int .i64 0, .slice none 0 0] w1 by rw [hw1]; exact (B0.out.set 0 (.int .i64 4)))
    have OW1 := Lib.hid (own_nil w1 (S + 1) 9 1)
    clear hw1
    clear p0 p1 p2 p3 p4 g0 g1 g2 g3 g4 lS
    have TK1 := Lib.hid (show Calls Tryd.prog 33 #[.pointer (some ⟨R, 0, none⟩), .int .i64 1, .int .i64 3] w1.drew (fun e1 y1 => e1 = .returned (.string (takeR T ⟨i + 1, 0⟩ 1 3).2) ∧ y1.ownsRow (S + 1) 9 1 (.slice none 0 0) 0 (strs []) ∧ Hid (SB R (some ⟨b, off, none⟩) n c T w X S (takeR T ⟨i + 1, 0⟩ 1 3).1 #[.int .i64 4, .string ⟨#[]⟩, (.slice none 0 0), .int .i64 0, .slice none 0 0] y1) ∧ y1.cell? ⟨S, 2, none⟩ = some (.slice none 0 0) ∧ (∀ ob, (y1.alloc ob).cell? ⟨S, 2, none⟩ = some (.slice none 0 0)) ∧ S + 1 ≤ y1.heap.size) by
      refine (l18Take_any R n c _ T ⟨i + 1, 0⟩ 1 3 w1.drew B1.out.drew.rd (by omega) (by decide)).mono ?_
      rintro e y1 ⟨rfl, hr, hg⟩
      have hb := B1.out.drew.call hg hr
      have hc := cell_at (j := 2) hb.s rfl
      exact ⟨rfl, own_drawG (own_drewG OW1.out) hg (by omega), hb, hc, fun ob => (World.cell?_alloc_lt y1 ob ⟨S, 2, none⟩ (lt_of_block hb.s)).trans hc, lt_of_block hb.s⟩)
    have pS1 := cell_at (j := 2) B1.out.s rfl
    obtain ⟨aw1, hx1⟩ : ∃ x, x = (takeR T ⟨i + 1, 0⟩ 1 3).2 := ⟨_, rfl⟩
    have HX1 := Lib.hid hx1
    rw [← hx1] at TK1
    clear hx1
    go_region_law (first
      | (go_simp; go_at_call 33; (with_reducible refine TK1.out.mono ?_); rintro e1 y1 ⟨rfl, hox, HB1, hc2, hc2a, hy1⟩)
      | (refine step_append_rdO _ (by rfl) (.tmp 61) (.tmp 64) 22 (by rfl) (S + 1) 9 i0 _ 1 16 Tryd.underlying22 hi hz0 hz1 hz2 (by rfl) (by decide) _ 0 _ (by rfl) (by exact hox.alloc _) _ 1 _ [.string aw1] (by rfl) (by exact rd_lit2 (w := y1) (cs := #[.string aw1]) (by rfl) rfl) (by exact one_str1 _) (by simp only [maxLen]; omega) (by omega) (by simp; omega) ?_; intro v6 w6 own6 gr6 hat; obtain ⟨A2, c2, rfl, hcc2, _, _⟩ := rd_of_own (show w6.ownsRow _ _ _ v6 1 _ from own6); have HB6 := Lib.hid ((HB1.out.alloc _).own gr6 (HB1.out.sub (own_lowT hox (by omega))) lR); have p2 := cell_at (j := 2) HB6.out.s rfl; have g2 := free_at (j := 2) HB6.out.s; have lS := lt_of_block HB6.out.s))
    all_goals
      obtain ⟨w2, hw2⟩ : ∃ w2, w2 = w6.setCell ⟨S, 2, none⟩ (.slice A2 1 c2) := ⟨_, rfl⟩
      have B2 := Lib.hid (show SB R (some ⟨b, off, none⟩) n c T w X S (takeR T ⟨i + 1, 0⟩ 1 3).1 #[.int .i64 4, .string ⟨#[]⟩, .slice A2 1 c2, .int .i64 0, .slice none 0 0] w2 by rw [hw2]; exact HB6.out.set 2 _)
      have OW2 := Lib.hid (show w2.ownsRow (S + 1) 9 1 (.slice A2 1 c2) 1 (strs ([] ++ [aw1])) by rw [hw2, strs_snoc1]; exact own_setfarG own6 (own_ne_typeG own6 HB6.out.s (by decide)) _)
      have HCC2 := Lib.hid hcc2
      have HW2 := Lib.hid hw2
      clear hw2 own6 gr6 hat hox hc2 hc2a p2 g2 pS1 hcc2 HB6 HB1 hy1 lS
      go_wp2_with fail
      rw [← HW2.out]
      refine (IB.out R n c _ T (takeR T ⟨i + 1, 0⟩ 1 3).1 k w2 B2.out.rd hn hT.out KD.out).mono ?_
      rintro e w4 ⟨Ab, nb, cb, l', rfl, hl, htr, hr, hg⟩
      have B4 := Lib.hid (B2.out.call hg hr)
      have hz4 := hg.size
      have hSb := lt_of_block B2.out.s
      have SL4 := Lib.hid (slI_gr (slI_of_own OW2.out) hg (by omega))
      have HL := Lib.hid hl
      have TR := Lib.hid htr
      clear hl htr hr hg
      obtain ⟨p0, p1, p2, p3, p4⟩ := cells5G (lay := Below.refl _ _) B4.out.s
      have g0 := free_at (j := 0) B4.out.s
      have g1 := free_at (j := 1) B4.out.s
      have g2 := free_at (j := 2) B4.out.s
      have g3 := free_at (j := 3) B4.out.s
      have g4 := free_at (j := 4) B4.out.s
      have lS := lt_of_block B4.out.s
      obtain ⟨w5, hw5⟩ : ∃ w5, w5 = (w4.setCell ⟨S, 4, none⟩ (.slice Ab nb cb)) := ⟨_, rfl⟩
      have B5 := Lib.hid (show SB R (some ⟨b, off, none⟩) n c T w X S (bodyR T (innerR T d) (takeR T ⟨i + 1, 0⟩ 1 3).1).1 #[.int .i64 4, .string ⟨#[]⟩, .slice A2 1 c2, .int .i64 0, .slice Ab nb cb] w5 by rw [hw5]; exact (B4.out.set 4 (.slice Ab nb cb)))
      have HW5 := Lib.hid hw5
      clear hw5
      have G45 : w4.grownBy w5 (some S) := by rw [HW5.out]; exact gr_set _
      have TR5 := Lib.hid (trI_gr TR.out G45 (by omega))
      have SL5 := Lib.hid (SL4.out.keepS G45 (own_ne_typeG OW2.out B2.out.s (by decide)))
      have hz5 : w4.heap.size ≤ w5.heap.size := G45.size
      go_upto_region 24 with (fail)
      rw [← HW5.out]
      clear p0 p1 p2 p3 p4 g0 g1 g2 g3 g4 lS
      obtain ⟨p0, p1, p2, p3, p4⟩ := cells5G (lay := Below.refl _ _) B5.out.s
      have g0 := free_at (j := 0) B5.out.s
      have g1 := free_at (j := 1) B5.out.s
      have g2 := free_at (j := 2) B5.out.s
      have g3 := free_at (j := 3) B5.out.s
      have g4 := free_at (j := 4) B5.out.s
      have lS := lt_of_block B5.out.s
      have SQ := Lib.hid (stI_mk (h := ⟨4, ⟨#[]⟩, [aw1], 0⟩) (Aa := A2) (ca := c2) (cb := cb) (n := 1) rfl (show S + 1 ≤ w2.heap.size from hSb) (by omega) SL5.out (TR5.out.wide (Nat.le_refl _) (show w4.heap.size ≤ w5.heap.size from hz5)) HCC2.out)
      obtain ⟨x0, x1, x2, x3, x4⟩ := cells5G (lay := Below.refl _ _) B5.out.x
      have q0 := free_at (j := 0) B5.out.x
      have q1 := free_at (j := 1) B5.out.x
      have q2 := free_at (j := 2) B5.out.x
      have q3 := free_at (j := 3) B5.out.x
      have q4 := free_at (j := 4) B5.out.x
      have lX := lt_of_block B5.out.x
      obtain ⟨w9, hw9⟩ : ∃ w9, w9 = ((((w5.setCell ⟨X, 0, none⟩ (.int .i64 4)).setCell ⟨X, 1, none⟩ (.string ⟨#[]⟩)).setCell ⟨X, 2, none⟩ (.slice A2 1 c2)).setCell ⟨X, 3, none⟩ (.int .i64 0)).setCell ⟨X, 4, none⟩ (.slice Ab nb cb) := ⟨_, rfl⟩
      have X9 : w9.heap[X]? = some (.cells #[.int .i64 4, .string ⟨#[]⟩, .slice A2 1 c2, .int .i64 0, .slice Ab nb cb] 61 (0, 0)) := by rw [hw9]; exact heap_set5 B5.out.x
      have G9 : w5.grownBy w9 (some X) := by rw [hw9]; exact gr_set5 _ _ _ _ _ _ _
      obtain ⟨r0, r1, r2, r3, r4⟩ := cells5G (lay := Below.refl _ _) X9
      have hz9 := G9.size
      have HW9 := Lib.hid hw9
      clear hw9
      go_wp2_with fail
      rw [← HW9.out]
      exact bodyPost_ret (v := .agg #[.int .i64 4, .string ⟨#[]⟩, .slice A2 1 c2, .int .i64 0, .slice Ab nb cb]) (by simp [results, Tryd.results34, go_sem, r0, r1, r2, r3, r4]) rfl ⟨_, _, _, _, _, mkT ⟨4, ⟨#[]⟩, [aw1], 0⟩ l', rfl, by rw [SE.out, HE.out, HX1.out]; exact fun h => by rw [HL.out h]; rfl, stI_wide (stI_gr SQ.out G9 (by omega)) (by omega) (by omega), by rw [SE.out, HE.out]; exact B5.out.rd.own G9 (fun k hk => by injection hk with hk; omega), gr_own2 B5.out.gr G9 (by omega)⟩
  · obtain ⟨q2, q3, q4, q5, q6, q7⟩ := kw_5 hk
    have SE := Lib.hid (SY.out (beg_5 hk))
    have HE := Lib.hid (WD.out.2.2.2.2 5 (by decide) hk)
    clear hk
    obtain ⟨p0, p1, p2, p3, p4⟩ := cells5G (lay := Below.refl _ _) B0.out.s
    have g0 := free_at (j := 0) B0.out.s
    have g1 := free_at (j := 1) B0.out.s
    have g2 := free_at (j := 2) B0.out.s
    have g3 := free_at (j := 3) B0.out.s
    have g4 := free_at (j := 4) B0.out.s
    have lS := lt_of_block B0.out.s
    go_upto_region 22 with (fail)
    refine wp_name (fun w1 hw1 => ?_)
    have B1 := Lib.hid (show SB R (some ⟨b, off, none⟩) n c T w X S ⟨i + 1, 0⟩ #[.int .i64 5, .string ⟨#[]⟩, .slice none 0 0, .int .i64 0, .slice none 0 0] w1 by rw [hw1]; exact ((B0.out.set 0 (.int .i64 4)).set 0 (.int .i64 5)))
    have OW1 := Lib.hid (own_nil w1 (S + 1) 9 1)
    clear hw1
    clear p0 p1 p2 p3 p4 g0 g1 g2 g3 g4 lS
    have TK1 := Lib.hid (show Calls Tryd.prog 33 #[.pointer (some ⟨R, 0, none⟩), .int .i64 1, .int .i64 3] w1.drew (fun e1 y1 => e1 = .returned (.string (takeR T ⟨i + 1, 0⟩ 1 3).2) ∧ y1.ownsRow (S + 1) 9 1 (.slice none 0 0) 0 (strs []) ∧ Hid (SB R (some ⟨b, off, none⟩) n c T w X S (takeR T ⟨i + 1, 0⟩ 1 3).1 #[.int .i64 5, .string ⟨#[]⟩, (.slice none 0 0), .int .i64 0, .slice none 0 0] y1) ∧ y1.cell? ⟨S, 2, none⟩ = some (.slice none 0 0) ∧ (∀ ob, (y1.alloc ob).cell? ⟨S, 2, none⟩ = some (.slice none 0 0)) ∧ S + 1 ≤ y1.heap.size) by
      refine (l18Take_any R n c _ T ⟨i + 1, 0⟩ 1 3 w1.drew B1.out.drew.rd (by omega) (by decide)).mono ?_
      rintro e y1 ⟨rfl, hr, hg⟩
      have hb := B1.out.drew.call hg hr
      have hc := cell_at (j := 2) hb.s rfl
      exact ⟨rfl, own_drawG (own_drewG OW1.out) hg (by omega), hb, hc, fun ob => (World.cell?_alloc_lt y1 ob ⟨S, 2, none⟩ (lt_of_block hb.s)).trans hc, lt_of_block hb.s⟩)
    have pS1 := cell_at (j := 2) B1.out.s rfl
    obtain ⟨aw1, hx1⟩ : ∃ x, x = (takeR T ⟨i + 1, 0⟩ 1 3).2 := ⟨_, rfl⟩
    have HX1 := Lib.hid hx1
    rw [← hx1] at TK1
    clear hx1
    go_region_law (first
      | (go_simp; go_at_call 33; (with_reducible refine TK1.out.mono ?_); rintro e1 y1 ⟨rfl, hox, HB1, hc2, hc2a, hy1⟩)
      | (refine step_append_rdO _ (by rfl) (.tmp 61) (.tmp 64) 22 (by rfl) (S + 1) 9 i0 _ 1 16 Tryd.underlying22 hi hz0 hz1 hz2 (by rfl) (by decide) _ 0 _ (by rfl) (by exact hox.alloc _) _ 1 _ [.string aw1] (by rfl) (by exact rd_lit2 (w := y1) (cs := #[.string aw1]) (by rfl) rfl) (by exact one_str1 _) (by simp only [maxLen]; omega) (by omega) (by simp; omega) ?_; intro v6 w6 own6 gr6 hat; obtain ⟨A2, c2, rfl, hcc2, _, _⟩ := rd_of_own (show w6.ownsRow _ _ _ v6 1 _ from own6); have HB6 := Lib.hid ((HB1.out.alloc _).own gr6 (HB1.out.sub (own_lowT hox (by omega))) lR); have p2 := cell_at (j := 2) HB6.out.s rfl; have g2 := free_at (j := 2) HB6.out.s; have lS := lt_of_block HB6.out.s))
    all_goals
      obtain ⟨w2, hw2⟩ : ∃ w2, w2 = w6.setCell ⟨S, 2, none⟩ (.slice A2 1 c2) := ⟨_, rfl⟩
      have B2 := Lib.hid (show SB R (some ⟨b, off, none⟩) n c T w X S (takeR T ⟨i + 1, 0⟩ 1 3).1 #[.int .i64 5, .string ⟨#[]⟩, .slice A2 1 c2, .int .i64 0, .slice none 0 0] w2 by rw [hw2]; exact HB6.out.set 2 _)
      have OW2 := Lib.hid (show w2.ownsRow (S + 1) 9 1 (.slice A2 1 c2) 1 (strs ([] ++ [aw1])) by rw [hw2, strs_snoc1]; exact own_setfarG own6 (own_ne_typeG own6 HB6.out.s (by decide)) _)
      have HCC2 := Lib.hid hcc2
      have HW2 := Lib.hid hw2
      clear hw2 own6 gr6 hat hox hc2 hc2a p2 g2 pS1 hcc2 HB6 HB1 hy1 lS
      go_wp2_with fail
      rw [← HW2.out]
      refine (IB.out R n c _ T (takeR T ⟨i + 1, 0⟩ 1 3).1 k w2 B2.out.rd hn hT.out KD.out).mono ?_
      rintro e w4 ⟨Ab, nb, cb, l', rfl, hl, htr, hr, hg⟩
      have B4 := Lib.hid (B2.out.call hg hr)
      have hz4 := hg.size
      have hSb := lt_of_block B2.out.s
      have SL4 := Lib.hid (slI_gr (slI_of_own OW2.out) hg (by omega))
      have HL := Lib.hid hl
      have TR := Lib.hid htr
      clear hl htr hr hg
      obtain ⟨p0, p1, p2, p3, p4⟩ := cells5G (lay := Below.refl _ _) B4.out.s
      have g0 := free_at (j := 0) B4.out.s
      have g1 := free_at (j := 1) B4.out.s
      have g2 := free_at (j := 2) B4.out.s
      have g3 := free_at (j := 3) B4.out.s
      have g4 := free_at (j := 4) B4.out.s
      have lS := lt_of_block B4.out.s
      obtain ⟨w5, hw5⟩ : ∃ w5, w5 = (w4.setCell ⟨S, 4, none⟩ (.slice Ab nb cb)) := ⟨_, rfl⟩
      have B5 := Lib.hid (show SB R (some ⟨b, off, none⟩) n c T w X S (bodyR T (innerR T d) (takeR T ⟨i + 1, 0⟩ 1 3).1).1 #[.int .i64 5, .string ⟨#[]⟩, .slice A2 1 c2, .int .i64 0, .slice Ab nb cb] w5 by rw [hw5]; exact (B4.out.set 4 (.slice Ab nb cb)))
      have HW5 := Lib.hid hw5
      clear hw5
      have G45 : w4.grownBy w5 (some S) := by rw [HW5.out]; exact gr_set _
      have TR5 := Lib.hid (trI_gr TR.out G45 (by omega))
      have SL5 := Lib.hid (SL4.out.keepS G45 (own_ne_typeG OW2.out B2.out.s (by decide)))
      have hz5 : w4.heap.size ≤ w5.heap.size := G45.size
      go_upto_region 24 with (fail)
      rw [← HW5.out]
      clear p0 p1 p2 p3 p4 g0 g1 g2 g3 g4 lS
      obtain ⟨p0, p1, p2, p3, p4⟩ := cells5G (lay := Below.refl _ _) B5.out.s
      have g0 := free_at (j := 0) B5.out.s
      have g1 := free_at (j := 1) B5.out.s
      have g2 := free_at (j := 2) B5.out.s
      have g3 := free_at (j := 3) B5.out.s
      have g4 := free_at (j := 4) B5.out.s
      have lS := lt_of_block B5.out.s
      have SQ := Lib.hid (stI_mk (h := ⟨5, ⟨#[]⟩, [aw1], 0⟩) (Aa := A2) (ca := c2) (cb := cb) (n := 1) rfl (show S + 1 ≤ w2.heap.size from hSb) (by omega) SL5.out (TR5.out.wide (Nat.le_refl _) (show w4.heap.size ≤ w5.heap.size from hz5)) HCC2.out)
      obtain ⟨x0, x1, x2, x3, x4⟩ := cells5G (lay := Below.refl _ _) B5.out.x
      have q0 := free_at (j := 0) B5.out.x
      have q1 := free_at (j := 1) B5.out.x
      have q2 := free_at (j := 2) B5.out.x
      have q3 := free_at (j := 3) B5.out.x
      have q4 := free_at (j := 4) B5.out.x
      have lX := lt_of_block B5.out.x
      obtain ⟨w9, hw9⟩ : ∃ w9, w9 = ((((w5.setCell ⟨X, 0, none⟩ (.int .i64 5)).setCell ⟨X, 1, none⟩ (.string ⟨#[]⟩)).setCell ⟨X, 2, none⟩ (.slice A2 1 c2)).setCell ⟨X, 3, none⟩ (.int .i64 0)).setCell ⟨X, 4, none⟩ (.slice Ab nb cb) := ⟨_, rfl⟩
      have X9 : w9.heap[X]? = some (.cells #[.int .i64 5, .string ⟨#[]⟩, .slice A2 1 c2, .int .i64 0, .slice Ab nb cb] 61 (0, 0)) := by rw [hw9]; exact heap_set5 B5.out.x
      have G9 : w5.grownBy w9 (some X) := by rw [hw9]; exact gr_set5 _ _ _ _ _ _ _
      obtain ⟨r0, r1, r2, r3, r4⟩ := cells5G (lay := Below.refl _ _) X9
      have hz9 := G9.size
      have HW9 := Lib.hid hw9
      clear hw9
      go_wp2_with fail
      rw [← HW9.out]
      exact bodyPost_ret (v := .agg #[.int .i64 5, .string ⟨#[]⟩, .slice A2 1 c2, .int .i64 0, .slice Ab nb cb]) (by simp [results, Tryd.results34, go_sem, r0, r1, r2, r3, r4]) rfl ⟨_, _, _, _, _, mkT ⟨5, ⟨#[]⟩, [aw1], 0⟩ l', rfl, by rw [SE.out, HE.out, HX1.out]; exact fun h => by rw [HL.out h]; rfl, stI_wide (stI_gr SQ.out G9 (by omega)) (by omega) (by omega), by rw [SE.out, HE.out]; exact B5.out.rd.own G9 (fun k hk => by injection hk with hk; omega), gr_own2 B5.out.gr G9 (by omega)⟩
  · obtain ⟨q2, q3, q4, q5, q6, q7⟩ := kw_6 hk
    have SE := Lib.hid (SY.out (beg_6 hk))
    have HE := Lib.hid (WD.out.2.2.1 hk)
    clear hk
    obtain ⟨p0, p1, p2, p3, p4⟩ := cells5G (lay := Below.refl _ _) B0.out.s
    have g0 := free_at (j := 0) B0.out.s
    have g1 := free_at (j := 1) B0.out.s
    have g2 := free_at (j := 2) B0.out.s
    have g3 := free_at (j := 3) B0.out.s
    have g4 := free_at (j := 4) B0.out.s
    have lS := lt_of_block B0.out.s
    go_upto_region 27 with (fail)
    refine wp_name (fun w1 hw1 => ?_)
    have B1 := Lib.hid (show SB R (some ⟨b, off, none⟩) n c T w X S ⟨i + 1, 0⟩ #[.int .i64 6, .string ⟨#[]⟩, .slice none 0 0, .int .i64 0, .slice none 0 0] w1 by rw [hw1]; exact (B0.out.set 0 (.int .i64 6)))
    have OW1 := Lib.hid (own_nil w1 (S + 1) 9 1)
    clear hw1
    clear p0 p1 p2 p3 p4 g0 g1 g2 g3 g4 lS
    have TK1 := Lib.hid (show Calls Tryd.prog 33 #[.pointer (some ⟨R, 0, none⟩), .int .i64 1, .int .i64 3] w1.drew (fun e1 y1 => e1 = .returned (.string (takeR T ⟨i + 1, 0⟩ 1 3).2) ∧ y1.ownsRow (S + 1) 9 1 (.slice none 0 0) 0 (strs []) ∧ Hid (SB R (some ⟨b, off, none⟩) n c T w X S (takeR T ⟨i + 1, 0⟩ 1 3).1 #[.int .i64 6, .string ⟨#[]⟩, (.slice none 0 0), .int .i64 0, .slice none 0 0] y1) ∧ y1.cell? ⟨S, 2, none⟩ = some (.slice none 0 0) ∧ (∀ ob, (y1.alloc ob).cell? ⟨S, 2, none⟩ = some (.slice none 0 0)) ∧ S + 1 ≤ y1.heap.size) by
      refine (l18Take_any R n c _ T ⟨i + 1, 0⟩ 1 3 w1.drew B1.out.drew.rd (by omega) (by decide)).mono ?_
      rintro e y1 ⟨rfl, hr, hg⟩
      have hb := B1.out.drew.call hg hr
      have hc := cell_at (j := 2) hb.s rfl
      exact ⟨rfl, own_drawG (own_drewG OW1.out) hg (by omega), hb, hc, fun ob => (World.cell?_alloc_lt y1 ob ⟨S, 2, none⟩ (lt_of_block hb.s)).trans hc, lt_of_block hb.s⟩)
    have pS1 := cell_at (j := 2) B1.out.s rfl
    obtain ⟨aw1, hx1⟩ : ∃ x, x = (takeR T ⟨i + 1, 0⟩ 1 3).2 := ⟨_, rfl⟩
    have HX1 := Lib.hid hx1
    rw [← hx1] at TK1
    clear hx1
    go_region_law (first
      | (go_simp; go_at_call 33; (with_reducible refine TK1.out.mono ?_); rintro e1 y1 ⟨rfl, hox, HB1, hc2, hc2a, hy1⟩)
      | (refine step_append_rdO _ (by rfl) (.tmp 76) (.tmp 79) 22 (by rfl) (S + 1) 9 i0 _ 1 16 Tryd.underlying22 hi hz0 hz1 hz2 (by rfl) (by decide) _ 0 _ (by rfl) (by exact hox.alloc _) _ 1 _ [.string aw1] (by rfl) (by exact rd_lit2 (w := y1) (cs := #[.string aw1]) (by rfl) rfl) (by exact one_str1 _) (by simp only [maxLen]; omega) (by omega) (by simp; omega) ?_; intro v6 w6 own6 gr6 hat; obtain ⟨A2, c2, rfl, hcc2, _, _⟩ := rd_of_own (show w6.ownsRow _ _ _ v6 1 _ from own6); have HB6 := Lib.hid ((HB1.out.alloc _).own gr6 (HB1.out.sub (own_lowT hox (by omega))) lR); have p2 := cell_at (j := 2) HB6.out.s rfl; have g2 := free_at (j := 2) HB6.out.s; have lS := lt_of_block HB6.out.s))
    all_goals
      obtain ⟨w2, hw2⟩ : ∃ w2, w2 = w6.setCell ⟨S, 2, none⟩ (.slice A2 1 c2) := ⟨_, rfl⟩
      have B2 := Lib.hid (show SB R (some ⟨b, off, none⟩) n c T w X S (takeR T ⟨i + 1, 0⟩ 1 3).1 #[.int .i64 6, .string ⟨#[]⟩, .slice A2 1 c2, .int .i64 0, .slice none 0 0] w2 by rw [hw2]; exact HB6.out.set 2 _)
      have OW2 := Lib.hid (show w2.ownsRow (S + 1) 9 1 (.slice A2 1 c2) 1 (strs ([] ++ [aw1])) by rw [hw2, strs_snoc1]; exact own_setfarG own6 (own_ne_typeG own6 HB6.out.s (by decide)) _)
      have HCC2 := Lib.hid hcc2
      have HW2 := Lib.hid hw2
      clear hw2 own6 gr6 hat hox hc2 hc2a p2 g2 pS1 hcc2 HB6 HB1 hy1 lS
      go_upto_region 28 with (fail)
      rw [← HW2.out]
      have TK2 := Lib.hid (show Calls Tryd.prog 33 #[.pointer (some ⟨R, 0, none⟩), .int .i64 1, .int .i64 3] w2.drew (fun e1 y1 => e1 = .returned (.string (takeR T (takeR T ⟨i + 1, 0⟩ 1 3).1 1 3).2) ∧ y1.ownsRow (S + 1) 9 1 (.slice A2 1 c2) 1 (strs [aw1]) ∧ Hid (SB R (some ⟨b, off, none⟩) n c T w X S (takeR T (takeR T ⟨i + 1, 0⟩ 1 3).1 1 3).1 #[.int .i64 6, .string ⟨#[]⟩, (.slice A2 1 c2), .int .i64 0, .slice none 0 0] y1) ∧ y1.cell? ⟨S, 2, none⟩ = some (.slice A2 1 c2) ∧ (∀ ob, (y1.alloc ob).cell? ⟨S, 2, none⟩ = some (.slice A2 1 c2)) ∧ S + 1 ≤ y1.heap.size) by
        refine (l18Take_any R n c _ T (takeR T ⟨i + 1, 0⟩ 1 3).1 1 3 w2.drew B2.out.drew.rd (by omega) (by decide)).mono ?_
        rintro e y1 ⟨rfl, hr, hg⟩
        have hb := B2.out.drew.call hg hr
        have hc := cell_at (j := 2) hb.s rfl
        exact ⟨rfl, own_drawG (own_drewG OW2.out) hg (by omega), hb, hc, fun ob => (World.cell?_alloc_lt y1 ob ⟨S, 2, none⟩ (lt_of_block hb.s)).trans hc, lt_of_block hb.s⟩)
      have pS2 := cell_at (j := 2) B2.out.s rfl
      obtain ⟨aw2, hx2⟩ : ∃ x, x = (takeR T (takeR T ⟨i + 1, 0⟩ 1 3).1 1 3).2 := ⟨_, rfl⟩
      have HX2 := Lib.hid hx2
      rw [← hx2] at TK2
      clear hx2
      go_region_law (first
        | (go_simp; go_at_call 33; (with_reducible refine TK2.out.mono ?_); rintro e1 y1 ⟨rfl, hox, HB1, hc2, hc2a, hy1⟩)
        | (refine step_append_rdO _ (by rfl) (.tmp 83) (.tmp 86) 22 (by rfl) (S + 1) 9 i0 _ 1 16 Tryd.underlying22 hi hz0 hz1 hz2 (by rfl) (by decide) _ 1 _ (by rfl) (by exact hox.alloc _) _ 1 _ [.string aw2] (by rfl) (by exact rd_lit2 (w := y1) (cs := #[.string aw2]) (by rfl) rfl) (by exact one_str1 _) (by simp only [maxLen]; omega) (by omega) (by simp; omega) ?_; intro v6 w6 own6 gr6 hat; obtain ⟨A3, c3, rfl, hcc3, _, _⟩ := rd_of_own (show w6.ownsRow _ _ _ v6 2 _ from own6); have HB6 := Lib.hid ((HB1.out.alloc _).own gr6 (HB1.out.sub (own_lowT hox (by omega))) lR); have p2 := cell_at (j := 2) HB6.out.s rfl; have g2 := free_at (j := 2) HB6.out.s; have lS := lt_of_block HB6.out.s))
      all_goals
        obtain ⟨w3, hw3⟩ : ∃ w3, w3 = w6.setCell ⟨S, 2, none⟩ (.slice A3 2 c3) := ⟨_, rfl⟩
        have B3 := Lib.hid (show SB R (some ⟨b, off, none⟩) n c T w X S (takeR T (takeR T ⟨i + 1, 0⟩ 1 3).1 1 3).1 #[.int .i64 6, .string ⟨#[]⟩, .slice A3 2 c3, .int .i64 0, .slice none 0 0] w3 by rw [hw3]; exact HB6.out.set 2 _)
        have OW3 := Lib.hid (show w3.ownsRow (S + 1) 9 1 (.slice A3 2 c3) 2 (strs ([aw1] ++ [aw2])) by rw [hw3, strs_snoc1]; exact own_setfarG own6 (own_ne_typeG own6 HB6.out.s (by decide)) _)
        have HCC3 := Lib.hid hcc3
        have HW3 := Lib.hid hw3
        clear hw3 own6 gr6 hat hox hc2 hc2a p2 g2 pS2 hcc3 HB6 HB1 hy1 lS
        go_wp2_with fail
        rw [← HW3.out]
        refine (l18Take_any R n c _ T (takeR T (takeR T ⟨i + 1, 0⟩ 1 3).1 1 3).1 2 4 w3 B3.out.rd (by omega) (by decide)).mono ?_
        rintro e w4 ⟨rfl, hr, hg⟩
        have B4 := Lib.hid (B3.out.call hg hr)
        have hz4 := hg.size
        have hz3 : S + 1 ≤ w3.heap.size := lt_of_block B3.out.s
        have SL4 := Lib.hid (slI_gr (slI_of_own OW3.out) hg (by omega))
        clear hr hg
        obtain ⟨p0, p1, p2, p3, p4⟩ := cells5G (lay := Below.refl _ _) B4.out.s
        have g0 := free_at (j := 0) B4.out.s
        have g1 := free_at (j := 1) B4.out.s
        have g2 := free_at (j := 2) B4.out.s
        have g3 := free_at (j := 3) B4.out.s
        have g4 := free_at (j := 4) B4.out.s
        have lS := lt_of_block B4.out.s
        have SQ := Lib.hid (stI_mk (d := d) (h := ⟨6, ⟨#[]⟩, [aw1, aw2], 0⟩) (Aa := A3) (ca := c3) (Ab := none) (cb := 0) (n := 2) (m2 := w4.heap.size) rfl hz3 (by omega) SL4.out trI_nil HCC3.out)
        obtain ⟨x0, x1, x2, x3, x4⟩ := cells5G (lay := Below.refl _ _) B4.out.x
        have q0 := free_at (j := 0) B4.out.x
        have q1 := free_at (j := 1) B4.out.x
        have q2 := free_at (j := 2) B4.out.x
        have q3 := free_at (j := 3) B4.out.x
        have q4 := free_at (j := 4) B4.out.x
        have lX := lt_of_block B4.out.x
        obtain ⟨w9, hw9⟩ : ∃ w9, w9 = ((((w4.setCell ⟨X, 0, none⟩ (.int .i64 6)).setCell ⟨X, 1, none⟩ (.string ⟨#[]⟩)).setCell ⟨X, 2, none⟩ (.slice A3 2 c3)).setCell ⟨X, 3, none⟩ (.int .i64 0)).setCell ⟨X, 4, none⟩ (.slice none 0 0) := ⟨_, rfl⟩
        have X9 : w9.heap[X]? = some (.cells #[.int .i64 6, .string ⟨#[]⟩, .slice A3 2 c3, .int .i64 0, .slice none 0 0] 61 (0, 0)) := by rw [hw9]; exact heap_set5 B4.out.x
        have G9 : w4.grownBy w9 (some X) := by rw [hw9]; exact gr_set5 _ _ _ _ _ _ _
        obtain ⟨r0, r1, r2, r3, r4⟩ := cells5G (lay := Below.refl _ _) X9
        have hz9 := G9.size
        have HW9 := Lib.hid hw9
        clear hw9
        go_wp2_with fail
        rw [← HW9.out]
        exact bodyPost_ret (v := .agg #[.int .i64 6, .string ⟨#[]⟩, .slice A3 2 c3, .int .i64 0, .slice none 0 0]) (by simp [results, Tryd.results34, go_sem, r0, r1, r2, r3, r4]) rfl ⟨_, _, _, _, _, mkT ⟨6, ⟨#[]⟩, [aw1, aw2], 0⟩ [], rfl, by rw [SE.out, HE.out, HX1.out, HX2.out]; exact fun _ => rfl, stI_wide (stI_gr SQ.out G9 (by omega)) (by omega) (by omega), by rw [SE.out, HE.out]; exact B4.out.rd.own G9 (fun k hk => by injection hk with hk; omega), gr_own2 B4.out.gr G9 (by omega)⟩
  · obtain ⟨q2, q3, q4, q5, q6, q7⟩ := kw_7 hk
    have SE := Lib.hid (SY.out (beg_7 hk))
    have HE := Lib.hid (WD.out.2.2.2.2 7 (by decide) hk)
    clear hk
    obtain ⟨p0, p1, p2, p3, p4⟩ := cells5G (lay := Below.refl _ _) B0.out.s
    have g0 := free_at (j := 0) B0.out.s
    have g1 := free_at (j := 1) B0.out.s
    have g2 := free_at (j := 2) B0.out.s
    have g3 := free_at (j := 3) B0.out.s
    have g4 := free_at (j := 4) B0.out.s
    have lS := lt_of_block B0.out.s
    go_upto_region 22 with (fail)
    refine wp_name (fun w1 hw1 => ?_)
    have B1 := Lib.hid (show SB R (some ⟨b, off, none⟩) n c T w X S ⟨i + 1, 0⟩ #[.int .i64 7, .string ⟨#[]⟩, .slice none 0 0, .int .i64 0, .slice none 0 0] w1 by rw [hw1]; exact ((B0.out.set 0 (.int .i64 4)).set 0 (.int .i64 7)))
    have OW1 := Lib.hid (own_nil w1 (S + 1) 9 1)
    clear hw1
    clear p0 p1 p2 p3 p4 g0 g1 g2 g3 g4 lS
    have TK1 := Lib.hid (show Calls Tryd.prog 33 #[.pointer (some ⟨R, 0, none⟩), .int .i64 1, .int .i64 3] w1.drew (fun e1 y1 => e1 = .returned (.string (takeR T ⟨i + 1, 0⟩ 1 3).2) ∧ y1.ownsRow (S + 1) 9 1 (.slice none 0 0) 0 (strs []) ∧ Hid (SB R (some ⟨b, off, none⟩) n c T w X S (takeR T ⟨i + 1, 0⟩ 1 3).1 #[.int .i64 7, .string ⟨#[]⟩, (.slice none 0 0), .int .i64 0, .slice none 0 0] y1) ∧ y1.cell? ⟨S, 2, none⟩ = some (.slice none 0 0) ∧ (∀ ob, (y1.alloc ob).cell? ⟨S, 2, none⟩ = some (.slice none 0 0)) ∧ S + 1 ≤ y1.heap.size) by
      refine (l18Take_any R n c _ T ⟨i + 1, 0⟩ 1 3 w1.drew B1.out.drew.rd (by omega) (by decide)).mono ?_
      rintro e y1 ⟨rfl, hr, hg⟩
      have hb := B1.out.drew.call hg hr
      have hc := cell_at (j := 2) hb.s rfl
      exact ⟨rfl, own_drawG (own_drewG OW1.out) hg (by omega), hb, hc, fun ob => (World.cell?_alloc_lt y1 ob ⟨S, 2, none⟩ (lt_of_block hb.s)).trans hc, lt_of_block hb.s⟩)
    have pS1 := cell_at (j := 2) B1.out.s rfl
    obtain ⟨aw1, hx1⟩ : ∃ x, x = (takeR T ⟨i + 1, 0⟩ 1 3).2 := ⟨_, rfl⟩
    have HX1 := Lib.hid hx1
    rw [← hx1] at TK1
    clear hx1
    go_region_law (first
      | (go_simp; go_at_call 33; (with_reducible refine TK1.out.mono ?_); rintro e1 y1 ⟨rfl, hox, HB1, hc2, hc2a, hy1⟩)
      | (refine step_append_rdO _ (by rfl) (.tmp 61) (.tmp 64) 22 (by rfl) (S + 1) 9 i0 _ 1 16 Tryd.underlying22 hi hz0 hz1 hz2 (by rfl) (by decide) _ 0 _ (by rfl) (by exact hox.alloc _) _ 1 _ [.string aw1] (by rfl) (by exact rd_lit2 (w := y1) (cs := #[.string aw1]) (by rfl) rfl) (by exact one_str1 _) (by simp only [maxLen]; omega) (by omega) (by simp; omega) ?_; intro v6 w6 own6 gr6 hat; obtain ⟨A2, c2, rfl, hcc2, _, _⟩ := rd_of_own (show w6.ownsRow _ _ _ v6 1 _ from own6); have HB6 := Lib.hid ((HB1.out.alloc _).own gr6 (HB1.out.sub (own_lowT hox (by omega))) lR); have p2 := cell_at (j := 2) HB6.out.s rfl; have g2 := free_at (j := 2) HB6.out.s; have lS := lt_of_block HB6.out.s))
    all_goals
      obtain ⟨w2, hw2⟩ : ∃ w2, w2 = w6.setCell ⟨S, 2, none⟩ (.slice A2 1 c2) := ⟨_, rfl⟩
      have B2 := Lib.hid (show SB R (some ⟨b, off, none⟩) n c T w X S (takeR T ⟨i + 1, 0⟩ 1 3).1 #[.int .i64 7, .string ⟨#[]⟩, .slice A2 1 c2, .int .i64 0, .slice none 0 0] w2 by rw [hw2]; exact HB6.out.set 2 _)
      have OW2 := Lib.hid (show w2.ownsRow (S + 1) 9 1 (.slice A2 1 c2) 1 (strs ([] ++ [aw1])) by rw [hw2, strs_snoc1]; exact own_setfarG own6 (own_ne_typeG own6 HB6.out.s (by decide)) _)
      have HCC2 := Lib.hid hcc2
      have HW2 := Lib.hid hw2
      clear hw2 own6 gr6 hat hox hc2 hc2a p2 g2 pS1 hcc2 HB6 HB1 hy1 lS
      go_wp2_with fail
      rw [← HW2.out]
      refine (IB.out R n c _ T (takeR T ⟨i + 1, 0⟩ 1 3).1 k w2 B2.out.rd hn hT.out KD.out).mono ?_
      rintro e w4 ⟨Ab, nb, cb, l', rfl, hl, htr, hr, hg⟩
      have B4 := Lib.hid (B2.out.call hg hr)
      have hz4 := hg.size
      have hSb := lt_of_block B2.out.s
      have SL4 := Lib.hid (slI_gr (slI_of_own OW2.out) hg (by omega))
      have HL := Lib.hid hl
      have TR := Lib.hid htr
      clear hl htr hr hg
      obtain ⟨p0, p1, p2, p3, p4⟩ := cells5G (lay := Below.refl _ _) B4.out.s
      have g0 := free_at (j := 0) B4.out.s
      have g1 := free_at (j := 1) B4.out.s
      have g2 := free_at (j := 2) B4.out.s
      have g3 := free_at (j := 3) B4.out.s
      have g4 := free_at (j := 4) B4.out.s
      have lS := lt_of_block B4.out.s
      obtain ⟨w5, hw5⟩ : ∃ w5, w5 = (w4.setCell ⟨S, 4, none⟩ (.slice Ab nb cb)) := ⟨_, rfl⟩
      have B5 := Lib.hid (show SB R (some ⟨b, off, none⟩) n c T w X S (bodyR T (innerR T d) (takeR T ⟨i + 1, 0⟩ 1 3).1).1 #[.int .i64 7, .string ⟨#[]⟩, .slice A2 1 c2, .int .i64 0, .slice Ab nb cb] w5 by rw [hw5]; exact (B4.out.set 4 (.slice Ab nb cb)))
      have HW5 := Lib.hid hw5
      clear hw5
      have G45 : w4.grownBy w5 (some S) := by rw [HW5.out]; exact gr_set _
      have TR5 := Lib.hid (trI_gr TR.out G45 (by omega))
      have SL5 := Lib.hid (SL4.out.keepS G45 (own_ne_typeG OW2.out B2.out.s (by decide)))
      have hz5 : w4.heap.size ≤ w5.heap.size := G45.size
      go_upto_region 24 with (fail)
      rw [← HW5.out]
      clear p0 p1 p2 p3 p4 g0 g1 g2 g3 g4 lS
      obtain ⟨p0, p1, p2, p3, p4⟩ := cells5G (lay := Below.refl _ _) B5.out.s
      have g0 := free_at (j := 0) B5.out.s
      have g1 := free_at (j := 1) B5.out.s
      have g2 := free_at (j := 2) B5.out.s
      have g3 := free_at (j := 3) B5.out.s
      have g4 := free_at (j := 4) B5.out.s
      have lS := lt_of_block B5.out.s
      have SQ := Lib.hid (stI_mk (h := ⟨7, ⟨#[]⟩, [aw1], 0⟩) (Aa := A2) (ca := c2) (cb := cb) (n := 1) rfl (show S + 1 ≤ w2.heap.size from hSb) (by omega) SL5.out (TR5.out.wide (Nat.le_refl _) (show w4.heap.size ≤ w5.heap.size from hz5)) HCC2.out)
      obtain ⟨x0, x1, x2, x3, x4⟩ := cells5G (lay := Below.refl _ _) B5.out.x
      have q0 := free_at (j := 0) B5.out.x
      have q1 := free_at (j := 1) B5.out.x
      have q2 := free_at (j := 2) B5.out.x
      have q3 := free_at (j := 3) B5.out.x
      have q4 := free_at (j := 4) B5.out.x
      have lX := lt_of_block B5.out.x
      obtain ⟨w9, hw9⟩ : ∃ w9, w9 = ((((w5.setCell ⟨X, 0, none⟩ (.int .i64 7)).setCell ⟨X, 1, none⟩ (.string ⟨#[]⟩)).setCell ⟨X, 2, none⟩ (.slice A2 1 c2)).setCell ⟨X, 3, none⟩ (.int .i64 0)).setCell ⟨X, 4, none⟩ (.slice Ab nb cb) := ⟨_, rfl⟩
      have X9 : w9.heap[X]? = some (.cells #[.int .i64 7, .string ⟨#[]⟩, .slice A2 1 c2, .int .i64 0, .slice Ab nb cb] 61 (0, 0)) := by rw [hw9]; exact heap_set5 B5.out.x
      have G9 : w5.grownBy w9 (some X) := by rw [hw9]; exact gr_set5 _ _ _ _ _ _ _
      obtain ⟨r0, r1, r2, r3, r4⟩ := cells5G (lay := Below.refl _ _) X9
      have hz9 := G9.size
      have HW9 := Lib.hid hw9
      clear hw9
      go_wp2_with fail
      rw [← HW9.out]
      exact bodyPost_ret (v := .agg #[.int .i64 7, .string ⟨#[]⟩, .slice A2 1 c2, .int .i64 0, .slice Ab nb cb]) (by simp [results, Tryd.results34, go_sem, r0, r1, r2, r3, r4]) rfl ⟨_, _, _, _, _, mkT ⟨7, ⟨#[]⟩, [aw1], 0⟩ l', rfl, by rw [SE.out, HE.out, HX1.out]; exact fun h => by rw [HL.out h]; rfl, stI_wide (stI_gr SQ.out G9 (by omega)) (by omega) (by omega), by rw [SE.out, HE.out]; exact B5.out.rd.own G9 (fun k hk => by injection hk with hk; omega), gr_own2 B5.out.gr G9 (by omega)⟩
end Go.Proofs.YthkbckkghnbonaaDoor
