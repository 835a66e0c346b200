/- What the calls that this law reaches answer, part 15 of 16. -/
import Derived.Test.YthkbckkghnbonaaGreatDoorJParse14
import Derived.Test.YthkbckkghnbonaaGreatDoorJParse6
namespace Go.Proofs.YthkbckkghnbonaaGreatDoor
open Go.RowKit
set_option linter.unusedVariables false
theorem headR_no {T : List Tk} (h : ¬ (kindT T 0 = 1 ∧ (textT T 0).toList = [113, 117, 98, 105, 116, 115])) : headR T = (⟨0, 2⟩, []) := if_neg h
theorem headR_yes {T : List Tk} (h : kindT T 0 = 1 ∧ (textT T 0).toList = [113, 117, 98, 105, 116, 115]) : headR T = ((qR T 3 (takeR T ⟨1, 0⟩ 1 3).1).1, (takeR T ⟨1, 0⟩ 1 3).2 :: (qR T 3 (takeR T ⟨1, 0⟩ 1 3).1).2) := if_pos h
theorem qR_end {T : List Tk} {m : Nat} {s : Rs} (h : ¬ (s.code = 0 ∧ kindT T s.i = 1)) : qR T m s = ((takeR T s 2 4).1, []) := by
  cases m
  · rw [qR, if_neg h]
  · rw [qR, if_neg h]
theorem qR_full {T : List Tk} {s : Rs} (h : s.code = 0 ∧ kindT T s.i = 1) : qR T 0 s = (⟨s.i, 10⟩, []) := by rw [qR, if_pos h]
theorem qR_more {T : List Tk} {m : Nat} {s : Rs} (h : s.code = 0 ∧ kindT T s.i = 1) : qR T (m + 1) s = ((qR T m (takeR T s 1 3).1).1, (takeR T s 1 3).2 :: (qR T m (takeR T s 1 3).1).2) := by
  rw [qR, if_pos h, takeR_yes h.1 h.2]
/-- So many qubits have been read. -/
def HqL (T : List Tk) (m : Nat) (st : Rs) (Q : List ByteArray) : Prop := Q.length + m = 4 ∧ headR T = ((qR T m st).1, Q ++ (qR T m st).2)
theorem hqL_more {T : List Tk} {m : Nat} {st : Rs} {Q : List ByteArray} (h : HqL T (m + 1) st Q) (h1 : st.code = 0 ∧ kindT T st.i = 1) : HqL T m (takeR T st 1 3).1 (Q ++ [(takeR T st 1 3).2]) := by
  refine ⟨by rw [List.length_append]; have := h.1; show Q.length + 1 + m = 4; omega, ?_⟩
  rw [h.2, qR_more h1]
  simp
theorem strs_ones (l : List ByteArray) : ∀ u ∈ strs l, u.oneCell' = true := by
  intro u hu
  obtain ⟨x, _, rfl⟩ := List.mem_map.1 hu
  rfl
def RhI (R : Nat) (A : Option Addr) (n c : Nat) (T : List Tk) (o : Int) (s : Rs) (Q : List ByteArray) (w : World) (e : Ending) (w' : World) : Prop :=
  ∃ A' n' c' Q', e = .returned (.slice A' n' c') ∧ (s.code = 0 → Q' = Q) ∧ SlI w' w.heap.size w'.heap.size 1 A' n' (strs Q') ∧ n' ≤ c' ∧ c' ≤ maxLen ∧ RdI R A n c T o s w' ∧ w.grownBy w' (some R)
set_option maxRecDepth 100000 in
set_option maxHeartbeats 4000000 in
theorem header_any (R n c : Nat) (A : Option Addr) (T : List Tk) (o : Int) (w : World) (h : RdI R A n c T o ⟨0, 0⟩ w) (hn : n ≤ 160) : Calls Tryz.prog 53 #[.pointer (some ⟨R, 0, none⟩)] w (RhI R A n c T o (headR T).1 (headR T).2 w) := by
  obtain ⟨i0, hi, hz0, hz1, hz2⟩ := info_parts info_str
  obtain ⟨⟨k0, k1, ko, k2⟩, ⟨f1, f3, f2⟩, lR⟩ := h.cells
  simp only [] at k1 k2
  have H := Lib.hid h
  by_cases hk : kindT T 0 = 1
  · have HK := Lib.hid hk
    have hlt : 0 < T.length := kindT_lt (by rw [hk]; decide)
    have hn0 : 0 < n := by have := h.l; omega
    obtain ⟨b, off, rfl, hbR, hbl, q0, q1⟩ := h.tok hn0
    have q1' : w.cell? ⟨b, off + 1, none⟩ = some (.string (textT T 0)) := by have := q1; simpa using this
    have hnb : b ≠ R := by omega
    by_cases hq : (textT T 0).toList = [113, 117, 98, 105, 116, 115]
    · have e1 : ((textT T 0).toList == [113, 117, 98, 105, 116, 115]) = true := by rw [hq]; rfl
      have HY := Lib.hid (headR_yes ⟨hk, hq⟩)
      have hlt1 : 1 ≤ T.length := hlt
      clear h hk hq q0 q1
      go_enter Tryz.func53, Tryz.ntmps53
      go_wp2_with (go_at_call 108; refine (kind_any R n c _ T o ⟨0, 0⟩ w H.out (by omega)).mono ?_; rintro e w' ⟨rfl, m, rfl⟩; rw [HK.out])
      obtain ⟨w0, hw0⟩ : ∃ w0, w0 = (w.drewN m).setCell ⟨R, 1, none⟩ (.int .i64 1) := ⟨_, rfl⟩
      rw [← hw0]
      have H0 : RdI R (some ⟨b, off, none⟩) n c T o ⟨1, 0⟩ w0 := by rw [hw0]; exact (H.out.drewN m).atv (i := 1) (v := 1) hlt1 rfl
      have G0 : w.grownBy w0 (some R) := by rw [hw0]; exact gr_gr (gr_drewN (gr_refl _ _) m) (gr_set _)
      have hz0w : w.heap.size ≤ w0.heap.size := G0.size
      clear hw0
      refine (names_any R n c _ T o ⟨1, 0⟩ 1 w0 H0 (by omega) (by omega)).mono ?_
      rintro e w1 ⟨A1, c1, rfl, ho, hr, hg⟩
      have hr1 : RdI R (some ⟨b, off, none⟩) n c T o (takeR T ⟨1, 0⟩ 1 3).1 w1 := hr
      have ho1 : w1.ownsRow w.heap.size 9 1 (.slice A1 1 c1) 1 (strs [(takeR T ⟨1, 0⟩ 1 3).2]) := own_lowT ho hz0w
      have HQ1 : HqL T 3 (takeR T ⟨1, 0⟩ 1 3).1 [(takeR T ⟨1, 0⟩ 1 3).2] := ⟨rfl, HY.out⟩
      have H1 := Lib.hid hr1
      have O1 := Lib.hid ho1
      have G1 := Lib.hid (gr_gr G0 hg)
      have Q1 := Lib.hid HQ1
      obtain ⟨s1, hs1⟩ : ∃ s1, s1 = (takeR T ⟨1, 0⟩ 1 3).1 := ⟨_, rfl⟩
      obtain ⟨x1, hx1⟩ : ∃ x1, x1 = (takeR T ⟨1, 0⟩ 1 3).2 := ⟨_, rfl⟩
      rw [← hs1] at H1 Q1
      rw [← hx1] at Q1 O1
      have hsn : s1.i ≤ n := by have := hr1.i; have := hr1.l; rw [hs1]; omega
      clear hr hr1 ho ho1 hg HQ1 G0 H0 hs1 hx1 hz0w
      go_wp2_with fail
      go_loopg [3] (msr n s1) (fun k v wr => ∃ (Q : List ByteArray) (st : Rs) (m : Nat), k = msr n st ∧ m ≤ 3 ∧ st.i ≤ n ∧ Hid (Q.length + m = 4) ∧ Hid (wr.ownsRow w.heap.size 9 1 v Q.length (strs Q)) ∧ Hid (RdI R (some ⟨b, off, none⟩) n c T o st wr) ∧ Hid (w.grownBy wr (some R)) ∧ Hid (HqL T m st Q))
      case atStart => exact ⟨[x1], s1, 3, rfl, Nat.le_refl _, hsn, rfl, O1.out, H1.out, G1.out, Q1.out⟩
      case round =>
        obtain ⟨Q, st, m, hgk, hm3, hin, hql, hown, hrd, hgr, heq⟩ := hrel
        have HGK := Lib.hid hgk
        clear hgk k0 k1 ko k2 f1 f2 f3 lR
        obtain ⟨A0, c0, rfl, hc0, hcm, _⟩ := rd_of_own hown.out
        have HC0 := Lib.hid hc0
        have HCM := Lib.hid hcm
        obtain ⟨⟨k0, k1, ko, k2⟩, ⟨f1, f3, f2⟩, lR⟩ := hrd.out.cells
        have lR0 : R < w.heap.size := H.out.cells.2.2
        obtain ⟨q, hq⟩ : ∃ q, q = Q.length := ⟨_, rfl⟩
        rw [← hq] at hql hown HC0
        have HQ := Lib.hid hq
        rw [← hq]
        clear hq hc0 hcm
        by_cases h0 : st.code = 0
        · by_cases h1 : kindT T st.i = 1
          · have hlt : st.i < T.length := kindT_lt (by rw [h1]; decide)
            have hltn : st.i < n := by have := hrd.out.l; omega
            have HK1 := Lib.hid h1
            have h01 := Lib.hid (And.intro h0 h1)
            have HC := Lib.hid h0
            rw [h0] at k2
            clear h0 h1
            cases m with
            | zero =>
              have hq4 : q = 4 := by have := hql.out; omega
              subst hq4
              have HE : Hid ((headR T).1 = ⟨st.i, 10⟩) := by show (headR T).1 = _; rw [heq.out.2, qR_full h01.out]
              have HF := Lib.hid (failR_0 HC.out 10)
              go_wp2_with (first | (go_at_call 108; refine (kind_any R n c _ T o st _ hrd.out (by omega)).mono ?_; rintro e w' ⟨rfl, mm, rfl⟩; rw [HK1.out]) | (go_at_call 109; refine (fail_any R n c _ T o st 10 _ (hrd.out.drewN _)).mono ?_; rintro e w2 ⟨rfl, hr, hg⟩))
              go_ret
              refine ⟨none, 0, 0, [], rfl, fun h => ?_, slI_none, Nat.le_refl _, Nat.zero_le _, ?_, gr_gr (gr_drewN hgr.out _) hg⟩
              · rw [HE.out] at h
                exact absurd (show (10 : Int) = 0 from h) (by decide)
              · rw [HE.out, ← HF.out]
                exact hr
            | succ m =>
              have hq4 : ((q : Int) == 4) = false := by have := hql.out; simp; omega
              have hq3 : q ≤ 3 := by have := hql.out; omega
              go_wp2_with (go_at_call 108; refine (kind_any R n c _ T o st _ hrd.out (by omega)).mono ?_; rintro e w' ⟨rfl, mm, rfl⟩; rw [HK1.out])
              refine (names_any R n c _ T o st 1 _ (hrd.out.drewN mm) (by omega) (by omega)).mono ?_
              rintro e w2 ⟨A2, c2, rfl, ho, hr, hg⟩
              have hr2 : RdI R (some ⟨b, off, none⟩) n c T o (takeR T st 1 3).1 w2 := hr
              have ho2 : w2.ownsRow (wr.drewN mm).heap.size 9 1 (.slice A2 1 c2) 1 (strs [(takeR T st 1 3).2]) := ho
              have hown2 := own_drawG (own_drewNG hown.out mm) hg lR0
              have hgw : wr.grownBy w2 (some R) := gr_gr (gr_drewN (gr_refl _ _) mm) hg
              have hs2 := (gr_gr hgr.out hgw).size
              have H2 := Lib.hid hr2
              have G2 := Lib.hid (gr_gr hgr.out hgw)
              have HGE := Lib.hid (own_ge hown2)
              have hi2 : (takeR T st 1 3).1.i ≤ n := by have := hr2.i; have := hr2.l; omega
              have HMS := Lib.hid (show msr n (takeR T st 1 3).1 < msr n st by rw [takeR_yes h01.out.1 h01.out.2]; exact msr_step (Nat.le_refl _) hltn)
              have HQN := Lib.hid (hqL_more heq.out h01.out)
              clear hr hr2 ho hg hgw
              go_wp2_with (at_builtin; refine wpList_append_rd _ rfl _ _ 24 rfl w.heap.size 9 i0 _ 1 16 Tryz.underlying24 hi hz0 hz1 hz2 rfl (by decide) _ _ _ rfl hown2 _ 1 _ _ rfl (rd_own ho2) (strs_ones _) ?c3 ?c4 ?c5 ?_)
              case c3 => simp only [maxLen]; omega
              case c4 => omega
              case c5 => omega
              intro v6 w6 own6 gr6 hat
              have H6 := Lib.hid (H2.out.own gr6 (fun k hk => by have := HGE.out k hk; omega))
              have G6 := Lib.hid (gr_own G2.out gr6 HGE.out)
              have O6 := Lib.hid own6
              clear gr6 own6 hat hown2 ho2
              go_wp2_with fail
              go_roundg (msr n (takeR T st 1 3).1)
              case rel => exact ⟨Q ++ [(takeR T st 1 3).2], (takeR T st 1 3).1, m, rfl, by omega, hi2, HQN.out.1, by rw [List.length_append, ← HQ.out, strs_snoc1]; exact O6.out, H6.out, G6.out, HQN.out⟩
              case measure => rw [HGK.out]; exact HMS.out
          · have d1 : (kindT T st.i == 1) = false := by simp [h1]
            have hno : ¬ (st.code = 0 ∧ kindT T st.i = 1) := fun h => h1 h.2
            rw [h0] at k2
            have HE : Hid (headR T = ((takeR T st 2 4).1, Q)) := by show headR T = _; rw [heq.out.2, qR_end hno, List.append_nil]
            go_wp2_with (first | (go_at_call 108; refine (kind_any R n c _ T o st _ hrd.out (by omega)).mono ?_; rintro e w' ⟨rfl, mm, rfl⟩) | (go_at_call 111; refine (take_any R n c _ T o st 2 4 _ (hrd.out.drewN _) (by omega) (by decide)).mono ?_; rintro e w2 ⟨rfl, hr, hg⟩))
            have hgw : wr.grownBy w2 (some R) := gr_gr (gr_drewN (gr_refl _ _) _) hg
            have hs2 := hgw.size
            have ow2 := own_drawG hown.out hgw lR0
            go_ret
            rw [HE.out]
            exact ⟨A0, q, c0, Q, rfl, fun _ => rfl, (slI_of_own ow2).wide (Nat.le_refl _) (Nat.le_refl _), HC0.out, HCM.out, hr, gr_gr hgr.out hgw⟩
        · have d1 : (st.code == 0) = false := by simp [h0]
          have hno : ¬ (st.code = 0 ∧ kindT T st.i = 1) := fun h => h0 h.1
          have HE : Hid (headR T = ((takeR T st 2 4).1, Q)) := by show headR T = _; rw [heq.out.2, qR_end hno, List.append_nil]
          go_wp2_with (go_at_call 111; refine (take_any R n c _ T o st 2 4 _ hrd.out (by omega) (by decide)).mono ?_; rintro e w2 ⟨rfl, hr, hg⟩)
          have hgw : wr.grownBy w2 (some R) := hg
          have hs2 := hgw.size
          have ow2 := own_drawG hown.out hgw lR0
          go_ret
          rw [HE.out]
          exact ⟨A0, q, c0, Q, rfl, fun _ => rfl, (slI_of_own ow2).wide (Nat.le_refl _) (Nat.le_refl _), HC0.out, HCM.out, hr, gr_gr hgr.out hgw⟩
    · have e1 : ((textT T 0).toList == [113, 117, 98, 105, 116, 115]) = false := by rw [beq_eq_false_iff_ne]; exact hq
      have HE := Lib.hid (headR_no (T := T) (fun h => hq h.2))
      clear h hk hq q0 q1
      go_enter Tryz.func53, Tryz.ntmps53
      go_wp2_with (first | (go_at_call 108; refine (kind_any R n c _ T o ⟨0, 0⟩ w H.out (by omega)).mono ?_; rintro e w' ⟨rfl, m, rfl⟩; rw [HK.out]) | (go_at_call 109; refine (fail_any R n c _ T o ⟨0, 0⟩ 2 _ (H.out.drewN _)).mono ?_; rintro e w1 ⟨rfl, hr, hg⟩))
      go_ret
      rw [HE.out]
      exact ⟨none, 0, 0, [], rfl, fun _ => rfl, slI_none, Nat.le_refl _, Nat.zero_le _, hr, gr_gr (gr_drewN (gr_refl _ _) _) hg⟩
  · have d1 : (kindT T 0 == 1) = false := by simp [hk]
    have d2 : (kindT T 0 != 1) = true := by simp [hk]
    have HE := Lib.hid (headR_no (T := T) (fun h => hk h.1))
    clear h hk
    go_enter Tryz.func53, Tryz.ntmps53
    go_wp2_with (first | (go_at_call 108; refine (kind_any R n c _ T o ⟨0, 0⟩ w H.out (by omega)).mono ?_; rintro e w' ⟨rfl, m, rfl⟩) | (go_at_call 109; refine (fail_any R n c _ T o ⟨0, 0⟩ 2 _ (H.out.drewN _)).mono ?_; rintro e w1 ⟨rfl, hr, hg⟩))
    go_ret
    rw [HE.out]
    exact ⟨none, 0, 0, [], rfl, fun _ => rfl, slI_none, Nat.le_refl _, Nat.zero_le _, hr, gr_gr (gr_drewN (gr_refl _ _) _) hg⟩
end Go.Proofs.YthkbckkghnbonaaGreatDoor
namespace Go.Proofs.YthkbckkghnbonaaGreatDoor
open Go.RowKit
set_option linter.unusedVariables false
/-- What a reading of a text returns. -/
def RetPz (o : Option (List Tk)) (w : World) (e : Ending) (w' : World) : Prop :=
  ∃ Aq nq cq Ab nb cb m, e = .returned (.tuple #[.agg #[.slice Aq nq cq, .slice Ab nb cb], .int .i64 (parseR o).1, .int .i64 (((parseR o).2.1 : Nat) : Int)]) ∧ SlI w' w.heap.size m 1 Aq nq (strs (parseR o).2.2.1) ∧ TrI w' 5 m w'.heap.size Ab nb (parseR o).2.2.2 ∧
    (nq ≤ cq ∧ cq ≤ maxLen) ∧ (w.heap.size ≤ m ∧ m ≤ w'.heap.size) ∧ Below w.heap.size w w'
theorem parse_bad {T : List Tk} {st : Rs} (h : (Lp T 4 (T.length + 1) (headR T).1).1 = st) (hc : st.code ≠ 0) : parseR (some T) = (st.code, st.i, [], []) := by
  have e : bodyT T (headR T).1 = Lp T 4 (T.length + 1) (headR T).1 := rfl
  unfold parseR
  simp only []
  rw [e, h, if_neg hc]
theorem parse_good {T : List Tk} {st : Rs} (h : (Lp T 4 (T.length + 1) (headR T).1).1 = st) (hc : st.code = 0) : parseR (some T) = (0, 0, (headR T).2, (Lp T 4 (T.length + 1) (headR T).1).2) ∧ (headR T).1.code = 0 := by
  have e : bodyT T (headR T).1 = Lp T 4 (T.length + 1) (headR T).1 := rfl
  refine ⟨?_, Classical.byContradiction fun hne => ?_⟩
  · unfold parseR
    simp only []
    rw [e, h, if_pos hc]
  · have e3 : Lp T 4 (T.length + 1) (headR T).1 = ((headR T).1, []) := loopR_code hne
    rw [e3] at h
    exact hne (by rw [show (headR T).1 = st from h]; exact hc)
theorem rdq_lt {w : World} {size n : Nat} {A : Option Addr} {xs : List Value} (h : Rd w size A n xs) : RdQ w (· < w.heap.size) size A n xs :=
  ⟨h.1, fun h0 => by obtain ⟨b, off, e, hb, hc⟩ := h.2 h0; exact ⟨b, off, e, hb, hb, hc⟩⟩
theorem below_alloc1 {w : World} {o : Obj} : Below w.heap.size w (w.alloc o) := (Below.refl _ _).alloc (Nat.le_refl _) _
set_option maxRecDepth 100000 in
set_option maxHeartbeats 4000000 in
theorem ParseProgram_impl (s : ByteArray) (w : World) (hv : LVb w.heap.size w) (hs : s.size ≤ 1099511627776) : Calls Tryz.prog 13 #[.string s] w (RetPz (tkS s) w) := by
  obtain ⟨X, hX⟩ : ∃ X, X = w.heap.size := ⟨_, rfl⟩
  have HX := Lib.hid hX
  obtain ⟨w0, hw0⟩ : ∃ w0, w0 = w.alloc (.cells #[.slice none 0 0, .slice none 0 0] 27) := ⟨_, rfl⟩
  have X0 : w0.heap[X]? = some (.cells #[.slice none 0 0, .slice none 0 0] 27 (0, 0)) := by rw [hw0]; exact heap_topG hX
  have b0 : Below w.heap.size w w0 := by rw [hw0]; exact below_alloc1
  have V0 : LVb w.heap.size w0 := hv.below b0
  have HV := Lib.hid V0
  have HW0 := Lib.hid hw0
  have B0 := Lib.hid b0
  have hz0 := b0.size
  have X0 := Lib.hid X0
  clear hv hX hw0 b0 V0
  cases ht : tkS s with
  | none =>
    have HT := Lib.hid ht
    clear ht
    go_enter Tryz.func13, Tryz.ntmps13
    go_wp2_with fail
    rw [← HW0.out, ← HX.out]
    refine (Tokenize_impl s w0 hs).mono ?_
    rintro e w1 ⟨A, c, T, hT, rfl, hrd, b1, s1⟩
    rw [HT.out]
    have X1 := (b1.block X (lt_of_block X0.out)).trans X0.out
    obtain ⟨p0, p1⟩ := cells2 (lay := Below.refl _ _) X1
    have g0 := free_at (j := 0) X1
    have g1 := free_at (j := 1) X1
    have lX := lt_of_block X1
    have hs1 := b1.size
    have B1 := Lib.hid (B0.out.trans (b1.mono hz0))
    clear hT hrd b1 s1
    go_wp2_with fail
    obtain ⟨w9, hw9⟩ : ∃ w9, w9 = (w1.setCell ⟨X, 0, none⟩ (.slice none 0 0)).setCell ⟨X, 1, none⟩ (.slice none 0 0) := ⟨_, rfl⟩
    have X9 : w9.heap[X]? = some (.cells #[.slice none 0 0, .slice none 0 0] 27 (0, 0)) := by rw [hw9]; exact heap_set_selfG (heap_set_selfG X1 _) _
    have G9 : w1.grownBy w9 (some X) := by rw [hw9]; exact gr_gr (gr_set _) (gr_set _)
    obtain ⟨r0, r1⟩ := cells2 (lay := Below.refl _ _) X9
    have hz9 := G9.size
    rw [← hw9]
    exact bodyPost_ret (v := .tuple #[.agg #[.slice none 0 0, .slice none 0 0], .int .i64 1, .int .i64 0]) (by simp [results, Tryz.results13, go_sem, r0, r1]) rfl ⟨none, 0, 0, none, 0, 0, w.heap.size, rfl, slI_none, trI_nil, ⟨Nat.le_refl _, Nat.zero_le _⟩, ⟨Nat.le_refl _, by omega⟩, B1.out.grown G9 (by omega) (fun k hk => by injection hk with hk; have := HX.out; omega)⟩
  | some T =>
    obtain ⟨hwell, hlen⟩ := tkz_well _ _ _ _ (Nat.le_refl _) ht (by omega)
    have HT := Lib.hid ht
    have HWL := Lib.hid hwell
    clear ht hwell
    go_enter Tryz.func13, Tryz.ntmps13
    go_wp2_with fail
    rw [← HW0.out, ← HX.out]
    refine (Tokenize_impl s w0 hs).mono ?_
    rintro e w1 ⟨A, c, T', hT, rfl, hrd, b1, s1⟩
    rw [HT.out] at hT ⊢
    have hTT : T' = T := hT
    subst hTT
    have X1 := (b1.block X (lt_of_block X0.out)).trans X0.out
    obtain ⟨n, hn⟩ : ∃ n, n = T'.length := ⟨_, rfl⟩
    have hs1 := b1.size
    obtain ⟨R, hR⟩ : ∃ R, R = w1.heap.size := ⟨_, rfl⟩
    have HR := Lib.hid hR
    obtain ⟨w2, hw2⟩ : ∃ w2, w2 = w1.alloc (.cells #[.slice A n c, .int .i64 0, .int .i64 0, .int .i64 0] 74) := ⟨_, rfl⟩
    have b2 : Below w1.heap.size w1 w2 := by rw [hw2]; exact below_alloc1
    have R2 : RdI R A n c T' 0 ⟨0, 0⟩ w2 := by
      refine ⟨by rw [hw2]; exact heap_topG hR, ?_, hn.symm, Nat.zero_le _⟩
      rw [hR, hn]
      exact (rdq_lt hrd).below b2
    have B2 : Below w.heap.size w w2 := (B0.out.trans (b1.mono hz0)).trans (b2.mono (by omega))
    have V2 := Lib.hid (HV.out.below ((b1.mono hz0).trans (b2.mono (by omega))))
    have X2 := Lib.hid ((b2.block X (lt_of_block X1)).trans X1)
    have hz2 : R < w2.heap.size := lt_of_block R2.x
    have hXR : X < R := by rw [hR]; exact lt_of_block X1
    have hXw : X = w.heap.size := HX.out
    have hn160 : n ≤ 160 := by omega
    have HN := Lib.hid hn
    have B2 := Lib.hid B2
    have R2 := Lib.hid R2
    have HW2 := Lib.hid hw2
    rw [← hn]
    clear hT hrd b1 s1 X1 hR hw2 b2 hn hlen hXw
    go_wp2_with fail
    rw [← HR.out, ← HW2.out]
    refine (header_any R n c A T' 0 w2 R2.out hn160).mono ?_
    rintro e w3 ⟨Aq, nq, cq, Q, rfl, hq, hsl, hcq, hcm, hr3, hg3⟩
    have X3 := Lib.hid (heap_gr X2.out hg3 (by omega))
    have V3 := Lib.hid (V2.out.grown hg3 (fun k hk => by injection hk with hk; have := HX.out; omega))
    have hz3 := hg3.size
    obtain ⟨P, hP⟩ : ∃ P, P = w3.heap.size := ⟨_, rfl⟩
    have HP := Lib.hid hP
    obtain ⟨w4, hw4⟩ : ∃ w4, w4 = w3.alloc (.cells #[.slice Aq nq cq, .slice none 0 0] 27) := ⟨_, rfl⟩
    have b4 : Below w3.heap.size w3 w4 := by rw [hw4]; exact below_alloc1
    have P4 : w4.heap[P]? = some (.cells #[.slice Aq nq cq, .slice none 0 0] 27 (0, 0)) := by rw [hw4]; exact heap_topG hP
    have R4 := Lib.hid (hr3.below b4)
    have V4 := Lib.hid (V3.out.below (b4.mono V3.out.le))
    have X4 := Lib.hid ((b4.block X (lt_of_block X3.out)).trans X3.out)
    have SQ := Lib.hid hsl
    have HQ := Lib.hid hq
    have G3 := Lib.hid hg3
    have B4 := Lib.hid b4
    have hz4 : P < w4.heap.size := lt_of_block P4
    have hz34 := b4.size
    have hPR : R < P := by omega
    have hcq := Lib.hid (And.intro hcq hcm)
    have P4 := Lib.hid P4
    have HW4 := Lib.hid hw4
    have hPw : P = w3.heap.size := hP
    clear hr3 hg3 hsl hq hcm hP hw4 b4 hPw
    go_wp2_with fail
    rw [← HP.out, ← HW4.out]
    refine (stmtsI_all 4 (by omega) w.heap.size R n c A T' 0 (headR T').1 w4 R4.out V4.out (by have := HX.out; omega) hn160 HWL.out (by omega)).mono ?_
    rintro e w5 ⟨Ab, nb, cb, l', rfl, hl, htr, hr5, hg5⟩
    obtain ⟨st, hst⟩ : ∃ st, st = (Lp T' 4 (T'.length + 1) (headR T').1).1 := ⟨_, rfl⟩
    rw [← hst] at hr5 hl
    have HST := Lib.hid hst.symm
    have P5 := heap_gr P4.out hg5 (by omega)
    have X5 := heap_gr X4.out hg5 (by omega)
    obtain ⟨p0, p1⟩ := cells2 (lay := Below.refl _ _) P5
    have g0 := free_at (j := 0) P5
    have g1 := free_at (j := 1) P5
    have lP := lt_of_block P5
    have hz5 := hg5.size
    obtain ⟨w6, hw6⟩ : ∃ w6, w6 = w5.setCell ⟨P, 1, none⟩ (.slice Ab nb cb) := ⟨_, rfl⟩
    have G6 : w5.grownBy w6 (some P) := by rw [hw6]; exact gr_set _
    have P6 : w6.heap[P]? = some (.cells #[.slice Aq nq cq, .slice Ab nb cb] 27 (0, 0)) := by rw [hw6]; exact heap_set_selfG P5 _
    have X6 : w6.heap[X]? = some (.cells #[.slice none 0 0, .slice none 0 0] 27 (0, 0)) := heap_gr X5 G6 (by omega)
    have R6 := Lib.hid (hr5.far G6 hPR)
    have hz6 := G6.size
    have hPw := HP.out
    have hXw := HX.out
    have SQ6 := Lib.hid ((slI_gr (SQ.out.keep (fun b _ _ h => B4.out.block b h) B4.out.size) hg5 (by omega)).keep (fun b _ h2 h3 => G6.block b h3 (fun e => by injection e with e; omega)) G6.size)
    have TR6 := Lib.hid (trI_gr htr G6 (by omega))
    have B6 := Lib.hid (((((B2.out.grown G3.out (by omega) (fun k hk => by injection hk with hk; omega)).trans (B4.out.mono (by omega))).grown hg5 (by omega) (fun k hk => by injection hk with hk; omega))).grown G6 (by omega) (fun k hk => by injection hk with hk; omega))
    have HL := Lib.hid hl
    have HW6 := Lib.hid hw6
    have P6 := Lib.hid P6
    have X6 := Lib.hid X6
    clear hr5 hl hst P5 X5 hg5 hw6 G6 hPw hXw htr
    go_upto_region 7 with (fail)
    rw [← HW6.out]
    clear p0 p1 g0 g1 lP
    obtain ⟨⟨k0, k1, ko, k2⟩, ⟨f1, f3, f2⟩, lR⟩ := R6.out.cells
    obtain ⟨p0, p1⟩ := cells2 (lay := Below.refl _ _) P6.out
    obtain ⟨x0, x1⟩ := cells2 (lay := Below.refl _ _) X6.out
    have g0 := free_at (j := 0) X6.out
    have g1 := free_at (j := 1) X6.out
    have lX := lt_of_block X6.out
    by_cases hc : st.code = 0
    · rw [hc] at k2
      obtain ⟨he, hh⟩ := parse_good HST.out hc
      have HE := Lib.hid he
      have hlq := HL.out hc
      have hqq := HQ.out hh
      have HLQ := Lib.hid hlq
      have HQQ := Lib.hid hqq
      clear he hh hlq hqq
      obtain ⟨w9, hw9⟩ : ∃ w9, w9 = (w6.setCell ⟨X, 0, none⟩ (.slice Aq nq cq)).setCell ⟨X, 1, none⟩ (.slice Ab nb cb) := ⟨_, rfl⟩
      have X9 : w9.heap[X]? = some (.cells #[.slice Aq nq cq, .slice Ab nb cb] 27 (0, 0)) := by rw [hw9]; exact heap_set_selfG (heap_set_selfG X6.out _) _
      have G9 : w6.grownBy w9 (some X) := by rw [hw9]; exact gr_gr (gr_set _) (gr_set _)
      obtain ⟨r0, r1⟩ := cells2 (lay := Below.refl _ _) X9
      have hz9 := G9.size
      have HW9 := Lib.hid hw9
      clear hw9
      go_wp2_with fail
      rw [← HW9.out]
      refine bodyPost_ret (v := .tuple #[.agg #[.slice Aq nq cq, .slice Ab nb cb], .int .i64 0, .int .i64 0]) (by simp [results, Tryz.results13, go_sem, r0, r1]) rfl ?_
      unfold RetPz
      rw [HE.out, ← HQQ.out, ← HLQ.out]
      have hXw := HX.out
      exact ⟨Aq, nq, cq, Ab, nb, cb, w4.heap.size, rfl, (slI_gr SQ6.out G9 (by omega)).wide (by omega) (by omega), (trI_gr TR6.out G9 (by omega)).wide (Nat.le_refl _) (by omega), hcq.out, ⟨by omega, by omega⟩, B6.out.grown G9 (by omega) (fun k hk => by injection hk with hk; omega)⟩
    · have d0 : (st.code == 0) = false := by simp [hc]
      have HE := Lib.hid (parse_bad HST.out hc)
      obtain ⟨w9, hw9⟩ : ∃ w9, w9 = (w6.setCell ⟨X, 0, none⟩ (.slice none 0 0)).setCell ⟨X, 1, none⟩ (.slice none 0 0) := ⟨_, rfl⟩
      have X9 : w9.heap[X]? = some (.cells #[.slice none 0 0, .slice none 0 0] 27 (0, 0)) := by rw [hw9]; exact heap_set_selfG (heap_set_selfG X6.out _) _
      have G9 : w6.grownBy w9 (some X) := by rw [hw9]; exact gr_gr (gr_set _) (gr_set _)
      obtain ⟨r0, r1⟩ := cells2 (lay := Below.refl _ _) X9
      have hz9 := G9.size
      have HW9 := Lib.hid hw9
      clear hw9
      go_upto_region 8 with (fail)
      go_region_law (fail)
      all_goals
        go_wp2_with fail
        rw [← HW9.out]
        refine bodyPost_ret (v := .tuple #[.agg #[.slice none 0 0, .slice none 0 0], .int .i64 st.code, .int .i64 st.i]) (by simp [results, Tryz.results13, go_sem, r0, r1]) rfl ?_
        unfold RetPz
        rw [HE.out]
        have hXw := HX.out
        have B9 := B6.out.grown G9 (by omega) (fun k hk => by injection hk with hk; omega)
        exact ⟨none, 0, 0, none, 0, 0, w.heap.size, rfl, slI_none, trI_nil, ⟨Nat.le_refl _, Nat.zero_le _⟩, ⟨Nat.le_refl _, by show w.heap.size ≤ w9.heap.size; omega⟩, ⟨B9.os, B9.tape, B9.output, B9.size, B9.block⟩⟩
end Go.Proofs.YthkbckkghnbonaaGreatDoor
namespace Go.Proofs.YthkbckkghnbonaaGreatDoor
open Go.RowKit
set_option linter.unusedVariables false
def RetP4 (c : Int) (i : Nat) (qs : List ByteArray) (l : List (Tr 5)) (w : World) (e : Ending) (w' : World) : Prop :=
  ∃ Aq nq cq Ab nb cb m, e = .returned (.tuple #[.agg #[.slice Aq nq cq, .slice Ab nb cb], .int .i64 c, .int .i64 (i : Int)]) ∧ SlI w' w.heap.size m 1 Aq nq (strs qs) ∧ TrI w' 5 m w'.heap.size Ab nb l ∧
    (nq ≤ cq ∧ cq ≤ maxLen) ∧ (w.heap.size ≤ m ∧ m ≤ w'.heap.size) ∧ Below w.heap.size w w'
theorem retP4 {o : Option (List Tk)} {c : Int} {i : Nat} {qs : List ByteArray} {l : List (Tr 5)} (h : parseR o = (c, i, qs, l)) (w : World) : RetPz o w = RetP4 c i qs l w := by
  have h1 : RetPz o w = RetP4 (parseR o).1 (parseR o).2.1 (parseR o).2.2.1 (parseR o).2.2.2 w := rfl
  rw [h1, h]
end Go.Proofs.YthkbckkghnbonaaGreatDoor
namespace Go.Proofs.YthkbckkghnbonaaGreatDoor
open Go.RowKit
set_option linter.unusedVariables false
theorem gk_zero {word : ByteArray} (h : ar (gkind word) = 0) : gkind word = 0 := by
  have hle : gkind word ≤ 12 := gkindFrom_le word.toList 12 1 (by omega)
  have hc : gkind word = 0 ∨ gkind word = 1 ∨ gkind word = 2 ∨ gkind word = 3 ∨ gkind word = 4 ∨ gkind word = 5 ∨ gkind word = 6 ∨ gkind word = 7 ∨ gkind word = 8 ∨ gkind word = 9 ∨ gkind word = 10 ∨ gkind word = 11 ∨ gkind word = 12 := by omega
  rcases hc with e | e | e | e | e | e | e | e | e | e | e | e | e <;> first | exact e | (rw [e] at h; exact absurd h (by decide))
theorem gk_nz {word : ByteArray} (h : ar (gkind word) ≠ 0) : (!(gkind word == 0)) = true := by
  have : gkind word ≠ 0 := fun e => h (by rw [e]; decide)
  simp [this]
theorem own_nil (w : World) (base E size : Nat) : w.ownsRow base E size (.slice none 0 0) 0 [] := ⟨by simp, .inl ⟨rfl, rfl⟩⟩
theorem one_str1 (a : ByteArray) : ∀ u ∈ [Value.string a], u.oneCell' = true := by
  intro u hu
  rw [List.mem_singleton.1 hu]
  rfl
theorem SlI.keepS {w w' : World} {lo hi size n c S : Nat} {A : Option Addr} {xs : List Value} (h : SlI w lo hi size A n xs) (hg : w.grownBy w' (some S)) (hne : (Value.slice A n c).ownBlock ≠ some S) : SlI w' lo hi size A n xs :=
  ⟨h.1, fun h0 => by
    obtain ⟨b, off, e, ⟨h1, h2, h3⟩, hc, hf⟩ := h.2 h0
    subst e
    have hb := hg.block b h3 (fun e => hne (by injection e with e; rw [← e]; rfl))
    refine ⟨b, off, rfl, ⟨h1, h2, Nat.lt_of_lt_of_le h3 hg.size⟩, fun j u hu => ?_, fun j => ?_⟩
    · rw [← hc j u hu]; simp [World.cell?, hb]
    · rw [← hf j]; simp [World.frozen?, hb]⟩
structure SB (R : Nat) (A : Option Addr) (n c : Nat) (T : List Tk) (w : World) (X S : Nat) (s : Rs) (cs : Array Value) (W : World) : Prop where
  rd : RdS R A n c T s W
  gr : w.grownBy W (some R)
  x : W.heap[X]? = some (.cells #[.int .i64 0, .string ⟨#[]⟩, .slice none 0 0, .int .i64 0, .slice none 0 0] 66 (0, 0))
  s : W.heap[S]? = some (.cells cs 66 (0, 0))
  lt : R < X ∧ X < S ∧ w.heap.size ≤ X
section
variable {R n c X S : Nat} {A : Option Addr} {T : List Tk} {w W W' : World} {s s' : Rs} {cs : Array Value}
theorem SB.call (h : SB R A n c T w X S s cs W) (hg : W.grownBy W' (some R)) (hr : RdS R A n c T s' W') : SB R A n c T w X S s' cs W' :=
  ⟨hr, gr_gr h.gr hg, heap_gr h.x hg (by have := h.lt; omega), heap_gr h.s hg (by have := h.lt; omega), h.lt⟩
theorem SB.below (h : SB R A n c T w X S s cs W) (hb : Below W.heap.size W W') : SB R A n c T w X S s cs W' :=
  ⟨h.rd.below hb, gr_below h.gr hb, (hb.block _ (lt_of_block h.x)).trans h.x, (hb.block _ (lt_of_block h.s)).trans h.s, h.lt⟩
theorem SB.alloc (h : SB R A n c T w X S s cs W) (o : Obj) : SB R A n c T w X S s cs (W.alloc o) := h.below ((Below.refl _ _).alloc (Nat.le_refl _) _)
theorem SB.drewN (h : SB R A n c T w X S s cs W) (k : Nat) : SB R A n c T w X S s cs (W.drewN k) := h.below (below_drewN (Below.refl _ _) k)
theorem SB.drew (h : SB R A n c T w X S s cs W) : SB R A n c T w X S s cs W.drew := h.below ⟨rfl, rfl, rfl, Nat.le_refl _, fun _ _ => rfl⟩
theorem SB.set (h : SB R A n c T w X S s cs W) (j : Nat) (v : Value) : SB R A n c T w X S s (cs.setIfInBounds j v) (W.setCell ⟨S, j, none⟩ v) := by
  have hg : W.grownBy (W.setCell ⟨S, j, none⟩ v) (some S) := gr_set v
  have hl := h.lt
  exact ⟨h.rd.own hg (fun k hk => by injection hk with hk; omega), gr_own2 h.gr hg (by omega), heap_gr h.x hg (by omega), heap_set_selfG h.s v, hl⟩
theorem SB.atv (h : SB R A n c T w X S s cs W) {i : Nat} {v : Int} (hi : i ≤ T.length) (hv : v = i) : SB R A n c T w X S ⟨i, s.code⟩ cs (W.setCell ⟨R, 1, none⟩ (.int .i64 v)) :=
  ⟨h.rd.atv hi hv, gr_gr h.gr (gr_set _), heap_set_farG h.x (by have := h.lt; show X ≠ R; omega) _, heap_set_farG h.s (by have := h.lt; show S ≠ R; omega) _, h.lt⟩
theorem SB.own {row : Option Nat} (h : SB R A n c T w X S s cs W) (hg : W.grownBy W' row) (hr : ∀ k, row = some k → w.heap.size ≤ k ∧ k ≠ X ∧ k ≠ S) (hR : R < w.heap.size) : SB R A n c T w X S s cs W' := by
  refine ⟨h.rd.own hg (fun k hk => by have := (hr k hk).1; omega), gr_own h.gr hg (fun k hk => (hr k hk).1), (hg.block _ (lt_of_block h.x) (fun e => (hr X e.symm).2.1 rfl)).trans h.x, (hg.block _ (lt_of_block h.s) (fun e => (hr S e.symm).2.2 rfl)).trans h.s, h.lt⟩
theorem SB.sub (h : SB R A n c T w X S s cs W) {n' : Nat} {v : Value} {xs : List Value} (ho : W.ownsRow w.heap.size 9 1 v n' xs) : ∀ k, v.ownBlock = some k → w.heap.size ≤ k ∧ k ≠ X ∧ k ≠ S := fun k hk =>
  ⟨own_ge ho k hk, fun e => own_ne_typeG ho h.x (by decide) (e ▸ hk), fun e => own_ne_typeG ho h.s (by decide) (e ▸ hk)⟩
end
def RsS (R : Nat) (A : Option Addr) (n c : Nat) (T : List Tk) (d : Nat) (s : Rs) (st : Tr (d + 1)) (w : World) (e : Ending) (w' : World) : Prop :=
  ∃ x0 x1 x2 x3 x4 st', e = .returned (.agg #[x0, x1, x2, x3, x4]) ∧ (s.code = 0 → st' = st) ∧ StI w' d w.heap.size w'.heap.size [x0, x1, x2, x3, x4] st' ∧ RdS R A n c T s w' ∧ w.grownBy w' (some R)
def sX (T : List Tk) (d i : Nat) : Rs := if begW (textT T i) = true then (stmtR T (innerR T d) ⟨i, 0⟩).1 else ⟨i, 5⟩
theorem sX_yes {T : List Tk} {d i : Nat} {word : ByteArray} (hw : word = textT T i) (h : begW word = true) : sX T d i = (stmtR T (innerR T d) ⟨i, 0⟩).1 := by subst hw; exact if_pos h
theorem sX_no {T : List Tk} {d i : Nat} {word : ByteArray} (hw : word = textT T i) (h : begW word = false) : sX T d i = ⟨i, 5⟩ := by subst hw; exact if_neg (by rw [h]; decide)
def StmtS (d : Nat) : Prop := ∀ (R n c : Nat) (A : Option Addr) (T : List Tk) (i : Nat) (k : Int) (w : World), RdS R A n c T ⟨i, 0⟩ w → n ≤ 160 → (∀ t ∈ T, wellTk t) → i < n → k = 4 - d →
  Calls Tryz.prog 132 #[.pointer (some ⟨R, 0, none⟩), .int .i64 k] w (RsS R A n c T d (sX T d i) (stmtR T (innerR T d) ⟨i, 0⟩).2 w)
end Go.Proofs.YthkbckkghnbonaaGreatDoor
namespace Go.Proofs.YthkbckkghnbonaaGreatDoor
open Go.RowKit
set_option linter.unusedVariables false
set_option maxRecDepth 100000 in
set_option maxHeartbeats 60000000 in
theorem l18Stmt_of (d : Nat) (hd : d ≤ 4) (hb0 : BodyS d) : StmtS d := by
  intro R n c A T i k w h hn hT0 hi0 hk
  obtain ⟨i0, hi, hz0, hz1, hz2⟩ := info_parts info_str
  obtain ⟨⟨k0, k1, k2⟩, f1, f2, lR⟩ := h.cells
  have H := Lib.hid h
  have IB := Lib.hid hb0
  have hT := Lib.hid hT0
  have KD := Lib.hid hk
  have hiT : i + 1 ≤ T.length := by have := h.l; omega
  obtain ⟨b, off, rfl, hbR, hbl, t0, t1⟩ := h.tok hi0
  have WD := Lib.hid (stmtR_word (T := T) (inner := innerR T d) (i := i) rfl)
  obtain ⟨word, hw⟩ : ∃ word, word = textT T i := ⟨_, rfl⟩
  simp only [] at k1 k2 t0 t1
  rw [← hw] at t1 WD
  have SY := Lib.hid (fun hb => sX_yes (d := d) hw hb)
  have SN := Lib.hid (fun hb => sX_no (d := d) hw hb)
  have hnb : b ≠ R := by omega
  clear h hb0 hT0 hk t0 hw
  go_enter Tryz.func132, Tryz.ntmps132
  go_wp2_with fail
  go_quiet (fail)
  go_upto_region 5 with (fail)
  refine wp_name (fun w0 hw0 => ?_)
  obtain ⟨X, hX⟩ : ∃ X, X = w.heap.size := ⟨_, rfl⟩
  obtain ⟨S, hS⟩ : ∃ S, S = X + 1 := ⟨_, rfl⟩
  have G0 : w.grownBy w0 (some R) := by rw [hw0]; exact gr_below (gr_gr (gr_drewN (gr_below (gr_refl _ _) ((Below.refl _ _).alloc (Nat.le_refl _) _)) _) (gr_set _)) ((Below.refl _ _).alloc (Nat.le_refl _) _)
  have Y0 : RdS R (some ⟨b, off, none⟩) n c T ⟨i + 1, 0⟩ w0 := by rw [hw0]; exact ((((H.out.below ((Below.refl _ _).alloc (Nat.le_refl _) _)).drewN _).atv (i := i + 1) (v := (i : Int) + 1) hiT (by simp)).below ((Below.refl _ _).alloc (Nat.le_refl _) _))
  have X0 : w0.heap[X]? = some (.cells #[.int .i64 0, .string ⟨#[]⟩, .slice none 0 0, .int .i64 0, .slice none 0 0] 66 (0, 0)) := by
    rw [hw0]
    exact heap_pastG (by rw [size_setCell]; show X < (w.alloc _).heap.size; rw [hX]; simp) (heap_set_farG (heap_topG hX) (by show X ≠ R; omega) _)
  have S0 : w0.heap[S]? = some (.cells #[.int .i64 0, .string ⟨#[]⟩, .slice none 0 0, .int .i64 0, .slice none 0 0] 66 (0, 0)) := by
    rw [hw0]
    exact heap_topG (by rw [size_setCell, hS, hX]; show w.heap.size + 1 = (w.alloc _).heap.size; simp)
  have B0 := Lib.hid (show SB R (some ⟨b, off, none⟩) n c T w X S ⟨i + 1, 0⟩ #[.int .i64 0, .string ⟨#[]⟩, .slice none 0 0, .int .i64 0, .slice none 0 0] w0 from ⟨Y0, G0, X0, S0, by omega, by omega, by omega⟩)
  have HX := Lib.hid hX
  rw [← hX, ← hS]
  have hXw : w.heap.size ≤ X := by omega
  have hRX : R < X := by omega
  have hXS : X < S := by omega
  clear hw0 hX hS G0 Y0 X0 S0 k0 k1 k2 f1 f2 t1 H
  rcases kw_val word with hk | hk | hk | hk | hk | hk | hk
  · obtain ⟨q2, q3, q4, q5, q6, q7⟩ := kw_1 hk
    have HE := Lib.hid (WD.out.2.2.2.1 hk)
    have har := ar_le (gkind word)
    have HBG := Lib.hid (beg_1 hk)
    clear hk
    obtain ⟨p0, p1, p2, p3, p4⟩ := cells5G (lay := Below.refl _ _) B0.out.s
    have g0 := free_at (j := 0) B0.out.s
    have g1 := free_at (j := 1) B0.out.s
    have g2 := free_at (j := 2) B0.out.s
    have g3 := free_at (j := 3) B0.out.s
    have g4 := free_at (j := 4) B0.out.s
    have lS := lt_of_block B0.out.s
    go_upto_region 33 with (fail)
    refine wp_name (fun w1 hw1 => ?_)
    have B1 := Lib.hid (show SB R (some ⟨b, off, none⟩) n c T w X S ⟨i + 1, 0⟩ #[.int .i64 1, .string word, .slice none 0 0, .int .i64 0, .slice none 0 0] w1 by rw [hw1]; exact ((B0.out.set 0 (.int .i64 1)).set 1 (.string word)))
    clear hw1
    clear p0 p1 p2 p3 p4 g0 g1 g2 g3 g4 lS
    go_upto_region 34 with (first | (go_at_call 136; refine (GateKind_spec word w1).mono ?_; rintro e w2 ⟨rfl, b2, s2⟩) | (go_at_call 135; refine (Arity_spec _ _).mono ?_; rintro e w' ⟨rfl, rfl⟩))
    have B2 := Lib.hid (B1.out.below b2)
    obtain ⟨m, hm⟩ : ∃ m, m = ar (gkind word) := ⟨_, rfl⟩
    rw [← hm] at HE har ⊢
    have HM := Lib.hid hm
    clear hm b2 s2
    by_cases hm0 : m = 0
    · subst hm0
      have SNO := Lib.hid (SN.out (by rw [HBG.out, gk_zero HM.out.symm]; rfl))
      obtain ⟨⟨k0, k1, k2⟩, ⟨f1, f2, lR2⟩⟩ := B2.out.rd.cells
      simp only [] at k1 k2
      go_upto_region 36 with (fail)
      refine wp_name (fun w3 hw3 => ?_)
      have B3 := Lib.hid (show SB R (some ⟨b, off, none⟩) n c T w X S ⟨i, 0⟩ #[.int .i64 1, .string word, .slice none 0 0, .int .i64 0, .slice none 0 0] w3 by rw [hw3]; exact B2.out.atv (by omega) (by simp))
      clear hw3 k0 k1 k2 f1 f2 lR2
      go_wp2_with fail
      refine (l18Fail_any R n c _ T ⟨i, 0⟩ 5 w3 B3.out.rd).mono ?_
      rintro e w4 ⟨rfl, hr, hg⟩
      have B4 := Lib.hid (show SB R (some ⟨b, off, none⟩) n c T w X S ⟨i, 5⟩ #[.int .i64 1, .string word, .slice none 0 0, .int .i64 0, .slice none 0 0] w4 from B3.out.call hg hr)
      have hz4 : S + 1 ≤ w4.heap.size := lt_of_block B4.out.s
      clear hr hg
      obtain ⟨p0, p1, p2, p3, p4⟩ := cells5G (lay := Below.refl _ _) B4.out.s
      have g0 := free_at (j := 0) B4.out.s
      have g1 := free_at (j := 1) B4.out.s
      have g2 := free_at (j := 2) B4.out.s
      have g3 := free_at (j := 3) B4.out.s
      have g4 := free_at (j := 4) B4.out.s
      have lS := lt_of_block B4.out.s
      have SQ := Lib.hid (stI_mk (w := w4) (d := d) (h := ⟨1, word, [], 0⟩) (Aa := none) (ca := 0) (Ab := none) (cb := 0) (n := 0) (m1 := S + 1) (c := S + 1) (m2 := w4.heap.size) rfl (Nat.le_refl _) hz4 slI_none trI_nil (Nat.le_refl _))
      obtain ⟨x0, x1, x2, x3, x4⟩ := cells5G (lay := Below.refl _ _) B4.out.x
      have q0 := free_at (j := 0) B4.out.x
      have q1 := free_at (j := 1) B4.out.x
      have q2 := free_at (j := 2) B4.out.x
      have q3 := free_at (j := 3) B4.out.x
      have q4 := free_at (j := 4) B4.out.x
      have lX := lt_of_block B4.out.x
      obtain ⟨w9, hw9⟩ : ∃ w9, w9 = ((((w4.setCell ⟨X, 0, none⟩ (.int .i64 1)).setCell ⟨X, 1, none⟩ (.string word)).setCell ⟨X, 2, none⟩ (.slice none 0 0)).setCell ⟨X, 3, none⟩ (.int .i64 0)).setCell ⟨X, 4, none⟩ (.slice none 0 0) := ⟨_, rfl⟩
      have X9 : w9.heap[X]? = some (.cells #[.int .i64 1, .string word, .slice none 0 0, .int .i64 0, .slice none 0 0] 66 (0, 0)) := by rw [hw9]; exact heap_set5 B4.out.x
      have G9 : w4.grownBy w9 (some X) := by rw [hw9]; exact gr_set5 _ _ _ _ _ _ _
      obtain ⟨r0, r1, r2, r3, r4⟩ := cells5G (lay := Below.refl _ _) X9
      have hz9 := G9.size
      have HW9 := Lib.hid hw9
      clear hw9
      go_wp2_with fail
      rw [← HW9.out]
      exact bodyPost_ret (v := .agg #[.int .i64 1, .string word, .slice none 0 0, .int .i64 0, .slice none 0 0]) (by simp [results, Tryz.results132, go_sem, r0, r1, r2, r3, r4]) rfl ⟨_, _, _, _, _, mkT ⟨1, word, [], 0⟩ [], rfl, by rw [SNO.out]; exact fun h => absurd (show (5 : Int) = 0 from h) (by decide), stI_wide (stI_gr SQ.out G9 (by omega)) (by omega) (by omega), by rw [SNO.out]; exact B4.out.rd.own G9 (fun k hk => by injection hk with hk; omega), gr_own2 B4.out.gr G9 (by omega)⟩
    · have SE := Lib.hid (SY.out (by rw [HBG.out]; exact gk_nz (by rw [← HM.out]; exact hm0)))
      have dm : ((m : Int) == 0) = false := by simp; omega
      go_wp2_with fail
      go_loopw [8] (fun i8 wr => ∃ (t : Nat) (Q : List ByteArray) (st : Rs) (Ap : Option Addr) (cp : Nat), i8 = .int .i64 t ∧ t ≤ m ∧ Hid (Q.length = t) ∧ Hid (t ≤ cp) ∧ Hid (wr.ownsRow (S + 1) 9 1 (.slice Ap t cp) t (strs Q)) ∧ Hid (SB R (some ⟨b, off, none⟩) n c T w X S st #[.int .i64 1, .string word, .slice Ap t cp, .int .i64 0, .slice none 0 0] wr) ∧ Hid (namesR T m ⟨i + 1, 0⟩ = ((namesR T (m - t) st).1, Q ++ (namesR T (m - t) st).2))) (fun i8 _ => m - (intOf i8).toNat)
      case atStart => exact ⟨0, [], ⟨i + 1, 0⟩, none, 0, rfl, Nat.zero_le _, rfl, Nat.le_refl _, own_nil _ _ _ _, B2.out, rfl⟩
      case round =>
        obtain ⟨t, Q, st, Ap, cp, rfl, ht, HQL, HCC7, OW7, B7, hnm⟩ := hrel
        obtain ⟨w7, rfl⟩ : ∃ w7 : World, w7 = wr := ⟨_, rfl⟩
        by_cases hlt : t < m
        · go_upto_region 41 with (fail)
          have TK7 := Lib.hid (show Calls Tryz.prog 131 #[.pointer (some ⟨R, 0, none⟩), .int .i64 1, .int .i64 3] w7.drew (fun e1 y1 => e1 = .returned (.string (takeR T st 1 3).2) ∧ y1.ownsRow (S + 1) 9 1 (.slice Ap t cp) t (strs Q) ∧ Hid (SB R (some ⟨b, off, none⟩) n c T w X S (takeR T st 1 3).1 #[.int .i64 1, .string word, (.slice Ap t cp), .int .i64 0, .slice none 0 0] y1) ∧ y1.cell? ⟨S, 2, none⟩ = some (.slice Ap t cp) ∧ (∀ ob, (y1.alloc ob).cell? ⟨S, 2, none⟩ = some (.slice Ap t cp)) ∧ S + 1 ≤ y1.heap.size) by
            refine (l18Take_any R n c _ T st 1 3 w7.drew B7.out.drew.rd (by omega) (by decide)).mono ?_
            rintro e y1 ⟨rfl, hr, hg⟩
            have hb := B7.out.drew.call hg hr
            have hc := cell_at (j := 2) hb.s rfl
            exact ⟨rfl, own_drawG (own_drewG OW7.out) hg (by omega), hb, hc, fun ob => (World.cell?_alloc_lt y1 ob ⟨S, 2, none⟩ (lt_of_block hb.s)).trans hc, lt_of_block hb.s⟩)
          have pS7 := cell_at (j := 2) B7.out.s rfl
          obtain ⟨aw7, hx7⟩ : ∃ x, x = (takeR T st 1 3).2 := ⟨_, rfl⟩
          have HX7 := Lib.hid hx7
          rw [← hx7] at TK7
          clear hx7
          go_region_law (first
            | (go_simp; go_at_call 131; (with_reducible refine TK7.out.mono ?_); rintro e1 y1 ⟨rfl, hox, HB1, hc2, hc2a, hy1⟩)
            | (refine step_append_rdO _ (by rfl) (.tmp 117) (.tmp 120) 24 (by rfl) (S + 1) 9 i0 _ 1 16 Tryz.underlying24 hi hz0 hz1 hz2 (by rfl) (by decide) _ t _ (by rfl) (by exact hox.alloc _) _ 1 _ [.string aw7] (by rfl) (by exact rd_lit2 (w := y1) (cs := #[.string aw7]) (by rfl) rfl) (by exact one_str1 _) (by simp only [maxLen]; omega) (by omega) (by simp; omega) ?_; intro v6 w6 own6 gr6 hat; obtain ⟨A8, c8, rfl, hcc8, _, _⟩ := rd_of_own (show w6.ownsRow _ _ _ v6 (t + 1) _ from own6); have HB6 := Lib.hid ((HB1.out.alloc _).own gr6 (HB1.out.sub (own_lowT hox (by omega))) lR); have p2 := cell_at (j := 2) HB6.out.s rfl; have g2 := free_at (j := 2) HB6.out.s; have lS := lt_of_block HB6.out.s))
          all_goals
            obtain ⟨w8, hw8⟩ : ∃ w8, w8 = w6.setCell ⟨S, 2, none⟩ (.slice A8 (t + 1) c8) := ⟨_, rfl⟩
            have B8 := Lib.hid (show SB R (some ⟨b, off, none⟩) n c T w X S (takeR T st 1 3).1 #[.int .i64 1, .string word, .slice A8 (t + 1) c8, .int .i64 0, .slice none 0 0] w8 by rw [hw8]; exact HB6.out.set 2 _)
            have OW8 := Lib.hid (show w8.ownsRow (S + 1) 9 1 (.slice A8 (t + 1) c8) (t + 1) (strs (Q ++ [aw7])) by rw [hw8, strs_snoc1]; exact own_setfarG own6 (own_ne_typeG own6 HB6.out.s (by decide)) _)
            have HCC8 := Lib.hid hcc8
            have HW8 := Lib.hid hw8
            clear hw8 own6 gr6 hat hox hc2 hc2a p2 g2 pS7 hcc8 HB6 HB1 hy1 lS
            go_wp2_with fail
            rw [← HW8.out]
            go_roundw
            case rel => exact ⟨t + 1, Q ++ [aw7], (takeR T st 1 3).1, A8, c8, by go_num, by omega, by rw [List.length_append, HQL.out]; rfl, HCC8.out, OW8.out, B8.out, by rw [HX7.out]; exact namesR_step hlt hnm.out⟩
            case measure => simp [intOf]; omega
        · obtain rfl : t = m := by omega
          have HNM : Hid (namesR T t ⟨i + 1, 0⟩ = (st, Q)) := by
            show namesR T t ⟨i + 1, 0⟩ = _
            rw [hnm.out, Nat.sub_self]
            simp [namesR]
          go_wp2_with fail
          refine (l18Take_any R n c _ T st 2 4 w7 B7.out.rd (by omega) (by decide)).mono ?_
          rintro e w4 ⟨rfl, hr, hg⟩
          have B4 := Lib.hid (B7.out.call hg hr)
          have hz4 := hg.size
          have hz7 : S + 1 ≤ w7.heap.size := lt_of_block B7.out.s
          have SL4 := Lib.hid (slI_gr (slI_of_own OW7.out) hg (by omega))
          clear hr hg
          obtain ⟨p0, p1, p2, p3, p4⟩ := cells5G (lay := Below.refl _ _) B4.out.s
          have g0 := free_at (j := 0) B4.out.s
          have g1 := free_at (j := 1) B4.out.s
          have g2 := free_at (j := 2) B4.out.s
          have g3 := free_at (j := 3) B4.out.s
          have g4 := free_at (j := 4) B4.out.s
          have lS := lt_of_block B4.out.s
          have SQ := Lib.hid (stI_mk (d := d) (h := ⟨1, word, Q, 0⟩) (Aa := Ap) (ca := cp) (Ab := none) (cb := 0) (n := t) (m2 := w4.heap.size) HQL.out hz7 (by omega) SL4.out trI_nil HCC7.out)
          obtain ⟨x0, x1, x2, x3, x4⟩ := cells5G (lay := Below.refl _ _) B4.out.x
          have q0 := free_at (j := 0) B4.out.x
          have q1 := free_at (j := 1) B4.out.x
          have q2 := free_at (j := 2) B4.out.x
          have q3 := free_at (j := 3) B4.out.x
          have q4 := free_at (j := 4) B4.out.x
          have lX := lt_of_block B4.out.x
          obtain ⟨w9, hw9⟩ : ∃ w9, w9 = ((((w4.setCell ⟨X, 0, none⟩ (.int .i64 1)).setCell ⟨X, 1, none⟩ (.string word)).setCell ⟨X, 2, none⟩ (.slice Ap t cp)).setCell ⟨X, 3, none⟩ (.int .i64 0)).setCell ⟨X, 4, none⟩ (.slice none 0 0) := ⟨_, rfl⟩
          have X9 : w9.heap[X]? = some (.cells #[.int .i64 1, .string word, .slice Ap t cp, .int .i64 0, .slice none 0 0] 66 (0, 0)) := by rw [hw9]; exact heap_set5 B4.out.x
          have G9 : w4.grownBy w9 (some X) := by rw [hw9]; exact gr_set5 _ _ _ _ _ _ _
          obtain ⟨r0, r1, r2, r3, r4⟩ := cells5G (lay := Below.refl _ _) X9
          have hz9 := G9.size
          have HW9 := Lib.hid hw9
          clear hw9
          go_wp2_with fail
          rw [← HW9.out]
          exact bodyPost_ret (v := .agg #[.int .i64 1, .string word, .slice Ap t cp, .int .i64 0, .slice none 0 0]) (by simp [results, Tryz.results132, go_sem, r0, r1, r2, r3, r4]) rfl ⟨_, _, _, _, _, mkT ⟨1, word, Q, 0⟩ [], rfl, by rw [SE.out, HE.out, HNM.out]; exact fun _ => rfl, stI_wide (stI_gr SQ.out G9 (by omega)) (by omega) (by omega), by rw [SE.out, HE.out, HNM.out]; exact B4.out.rd.own G9 (fun k hk => by injection hk with hk; omega), gr_own2 B4.out.gr G9 (by omega)⟩
  · obtain ⟨q2, q3, q4, q5, q6, q7⟩ := kw_2 hk
    have SE := Lib.hid (SY.out (beg_2 hk))
    have HE := Lib.hid (WD.out.1 hk)
    clear hk
    obtain ⟨p0, p1, p2, p3, p4⟩ := cells5G (lay := Below.refl _ _) B0.out.s
    have g0 := free_at (j := 0) B0.out.s
    have g1 := free_at (j := 1) B0.out.s
    have g2 := free_at (j := 2) B0.out.s
    have g3 := free_at (j := 3) B0.out.s
    have g4 := free_at (j := 4) B0.out.s
    have lS := lt_of_block B0.out.s
    obtain ⟨w1, hw1⟩ : ∃ w1, w1 = (w0.setCell ⟨S, 0, none⟩ (.int .i64 2)) := ⟨_, rfl⟩
    have B1 := Lib.hid (show SB R (some ⟨b, off, none⟩) n c T w X S ⟨i + 1, 0⟩ #[.int .i64 2, .string ⟨#[]⟩, .slice none 0 0, .int .i64 0, .slice none 0 0] w1 by rw [hw1]; exact (B0.out.set 0 (.int .i64 2)))
    have HW1 := Lib.hid hw1
    clear hw1
    go_wp2_with fail
    rw [← HW1.out]
    clear p0 p1 p2 p3 p4 g0 g1 g2 g3 g4 lS
    refine (l18Number_any R n c _ T ⟨i + 1, 0⟩ w1 B1.out.rd (by omega) hT.out).mono ?_
    rintro e w2 ⟨rfl, hr, hg⟩
    have B2 := Lib.hid (B1.out.call hg hr)
    have hz2 := hg.size
    clear hr hg
    obtain ⟨x, hx⟩ : ∃ x, x = (numR T ⟨i + 1, 0⟩).2 := ⟨_, rfl⟩
    rw [← hx] at HE ⊢
    clear hx
    obtain ⟨p0, p1, p2, p3, p4⟩ := cells5G (lay := Below.refl _ _) B2.out.s
    have g0 := free_at (j := 0) B2.out.s
    have g1 := free_at (j := 1) B2.out.s
    have g2 := free_at (j := 2) B2.out.s
    have g3 := free_at (j := 3) B2.out.s
    have g4 := free_at (j := 4) B2.out.s
    have lS := lt_of_block B2.out.s
    obtain ⟨w3, hw3⟩ : ∃ w3, w3 = (w2.setCell ⟨S, 3, none⟩ (.int .i64 x)) := ⟨_, rfl⟩
    have B3 := Lib.hid (show SB R (some ⟨b, off, none⟩) n c T w X S (numR T ⟨i + 1, 0⟩).1 #[.int .i64 2, .string ⟨#[]⟩, .slice none 0 0, .int .i64 x, .slice none 0 0] w3 by rw [hw3]; exact (B2.out.set 3 (.int .i64 x)))
    have HW3 := Lib.hid hw3
    clear hw3
    go_wp2_with fail
    rw [← HW3.out]
    clear p0 p1 p2 p3 p4 g0 g1 g2 g3 g4 lS
    refine (IB.out R n c _ T (numR T ⟨i + 1, 0⟩).1 k w3 B3.out.rd hn hT.out KD.out).mono ?_
    rintro e w4 ⟨Ab, nb, cb, l', rfl, hl, htr, hr, hg⟩
    have B4 := Lib.hid (B3.out.call hg hr)
    have hz4 := hg.size
    have hSb := lt_of_block B3.out.s
    have HL := Lib.hid hl
    have TR := Lib.hid htr
    clear hl htr hr hg
    obtain ⟨p0, p1, p2, p3, p4⟩ := cells5G (lay := Below.refl _ _) B4.out.s
    have g0 := free_at (j := 0) B4.out.s
    have g1 := free_at (j := 1) B4.out.s
    have g2 := free_at (j := 2) B4.out.s
    have g3 := free_at (j := 3) B4.out.s
    have g4 := free_at (j := 4) B4.out.s
    have lS := lt_of_block B4.out.s
    obtain ⟨w5, hw5⟩ : ∃ w5, w5 = (w4.setCell ⟨S, 4, none⟩ (.slice Ab nb cb)) := ⟨_, rfl⟩
    have B5 := Lib.hid (show SB R (some ⟨b, off, none⟩) n c T w X S (bodyR T (innerR T d) (numR T ⟨i + 1, 0⟩).1).1 #[.int .i64 2, .string ⟨#[]⟩, .slice none 0 0, .int .i64 x, .slice Ab nb cb] w5 by rw [hw5]; exact (B4.out.set 4 (.slice Ab nb cb)))
    have HW5 := Lib.hid hw5
    clear hw5
    have TR5 := Lib.hid (trI_gr TR.out (show w4.grownBy w5 (some S) by rw [HW5.out]; exact gr_set _) (by omega))
    have hz5 : w4.heap.size ≤ w5.heap.size := by rw [HW5.out, size_setCell]; exact Nat.le_refl _
    go_upto_region 9 with (fail)
    rw [← HW5.out]
    clear p0 p1 p2 p3 p4 g0 g1 g2 g3 g4 lS
    obtain ⟨p0, p1, p2, p3, p4⟩ := cells5G (lay := Below.refl _ _) B5.out.s
    have g0 := free_at (j := 0) B5.out.s
    have g1 := free_at (j := 1) B5.out.s
    have g2 := free_at (j := 2) B5.out.s
    have g3 := free_at (j := 3) B5.out.s
    have g4 := free_at (j := 4) B5.out.s
    have lS := lt_of_block B5.out.s
    have SQ := Lib.hid (stI_mk (h := ⟨2, ⟨#[]⟩, [], x⟩) (Aa := none) (ca := 0) (cb := cb) (n := 0) rfl (Nat.le_refl w3.heap.size) (by omega) slI_none (TR5.out.wide (Nat.le_refl _) (show w4.heap.size ≤ w5.heap.size from hz5)) (Nat.le_refl _))
    obtain ⟨x0, x1, x2, x3, x4⟩ := cells5G (lay := Below.refl _ _) B5.out.x
    have q0 := free_at (j := 0) B5.out.x
    have q1 := free_at (j := 1) B5.out.x
    have q2 := free_at (j := 2) B5.out.x
    have q3 := free_at (j := 3) B5.out.x
    have q4 := free_at (j := 4) B5.out.x
    have lX := lt_of_block B5.out.x
    obtain ⟨w9, hw9⟩ : ∃ w9, w9 = ((((w5.setCell ⟨X, 0, none⟩ (.int .i64 2)).setCell ⟨X, 1, none⟩ (.string ⟨#[]⟩)).setCell ⟨X, 2, none⟩ (.slice none 0 0)).setCell ⟨X, 3, none⟩ (.int .i64 x)).setCell ⟨X, 4, none⟩ (.slice Ab nb cb) := ⟨_, rfl⟩
    have X9 : w9.heap[X]? = some (.cells #[.int .i64 2, .string ⟨#[]⟩, .slice none 0 0, .int .i64 x, .slice Ab nb cb] 66 (0, 0)) := by rw [hw9]; exact heap_set5 B5.out.x
    have G9 : w5.grownBy w9 (some X) := by rw [hw9]; exact gr_set5 _ _ _ _ _ _ _
    obtain ⟨r0, r1, r2, r3, r4⟩ := cells5G (lay := Below.refl _ _) X9
    have hz9 := G9.size
    have HW9 := Lib.hid hw9
    clear hw9
    go_wp2_with fail
    rw [← HW9.out]
    exact bodyPost_ret (v := .agg #[.int .i64 2, .string ⟨#[]⟩, .slice none 0 0, .int .i64 x, .slice Ab nb cb]) (by simp [results, Tryz.results132, go_sem, r0, r1, r2, r3, r4]) rfl ⟨_, _, _, _, _, mkT ⟨2, ⟨#[]⟩, [], x⟩ l', rfl, by rw [SE.out, HE.out]; exact fun h => by rw [HL.out h], stI_wide (stI_gr SQ.out G9 (by omega)) (by omega) (by omega), by rw [SE.out, HE.out]; exact B5.out.rd.own G9 (fun k hk => by injection hk with hk; omega), gr_own2 B5.out.gr G9 (by omega)⟩
  · obtain ⟨q2, q3, q4, q5, q6, q7⟩ := kw_3 hk
    have SE := Lib.hid (SY.out (beg_3 hk))
    have HE := Lib.hid (WD.out.2.1 hk)
    clear hk
    obtain ⟨p0, p1, p2, p3, p4⟩ := cells5G (lay := Below.refl _ _) B0.out.s
    have g0 := free_at (j := 0) B0.out.s
    have g1 := free_at (j := 1) B0.out.s
    have g2 := free_at (j := 2) B0.out.s
    have g3 := free_at (j := 3) B0.out.s
    have g4 := free_at (j := 4) B0.out.s
    have lS := lt_of_block B0.out.s
    obtain ⟨w1, hw1⟩ : ∃ w1, w1 = (w0.setCell ⟨S, 0, none⟩ (.int .i64 3)) := ⟨_, rfl⟩
    have B1 := Lib.hid (show SB R (some ⟨b, off, none⟩) n c T w X S ⟨i + 1, 0⟩ #[.int .i64 3, .string ⟨#[]⟩, .slice none 0 0, .int .i64 0, .slice none 0 0] w1 by rw [hw1]; exact (B0.out.set 0 (.int .i64 3)))
    have HW1 := Lib.hid hw1
    clear hw1
    go_wp2_with fail
    rw [← HW1.out]
    clear p0 p1 p2 p3 p4 g0 g1 g2 g3 g4 lS
    refine (IB.out R n c _ T ⟨i + 1, 0⟩ k w1 B1.out.rd hn hT.out KD.out).mono ?_
    rintro e w4 ⟨Ab, nb, cb, l', rfl, hl, htr, hr, hg⟩
    have B4 := Lib.hid (B1.out.call hg hr)
    have hz4 := hg.size
    have hSb := lt_of_block B1.out.s
    have HL := Lib.hid hl
    have TR := Lib.hid htr
    clear hl htr hr hg
    obtain ⟨p0, p1, p2, p3, p4⟩ := cells5G (lay := Below.refl _ _) B4.out.s
    have g0 := free_at (j := 0) B4.out.s
    have g1 := free_at (j := 1) B4.out.s
    have g2 := free_at (j := 2) B4.out.s
    have g3 := free_at (j := 3) B4.out.s
    have g4 := free_at (j := 4) B4.out.s
    have lS := lt_of_block B4.out.s
    obtain ⟨w5, hw5⟩ : ∃ w5, w5 = (w4.setCell ⟨S, 4, none⟩ (.slice Ab nb cb)) := ⟨_, rfl⟩
    have B5 := Lib.hid (show SB R (some ⟨b, off, none⟩) n c T w X S (bodyR T (innerR T d) ⟨i + 1, 0⟩).1 #[.int .i64 3, .string ⟨#[]⟩, .slice none 0 0, .int .i64 0, .slice Ab nb cb] w5 by rw [hw5]; exact (B4.out.set 4 (.slice Ab nb cb)))
    have HW5 := Lib.hid hw5
    clear hw5
    have TR5 := Lib.hid (trI_gr TR.out (show w4.grownBy w5 (some S) by rw [HW5.out]; exact gr_set _) (by omega))
    have hz5 : w4.heap.size ≤ w5.heap.size := by rw [HW5.out, size_setCell]; exact Nat.le_refl _
    go_upto_region 13 with (fail)
    rw [← HW5.out]
    clear p0 p1 p2 p3 p4 g0 g1 g2 g3 g4 lS
    obtain ⟨p0, p1, p2, p3, p4⟩ := cells5G (lay := Below.refl _ _) B5.out.s
    have g0 := free_at (j := 0) B5.out.s
    have g1 := free_at (j := 1) B5.out.s
    have g2 := free_at (j := 2) B5.out.s
    have g3 := free_at (j := 3) B5.out.s
    have g4 := free_at (j := 4) B5.out.s
    have lS := lt_of_block B5.out.s
    have SQ := Lib.hid (stI_mk (h := ⟨3, ⟨#[]⟩, [], 0⟩) (Aa := none) (ca := 0) (cb := cb) (n := 0) rfl (Nat.le_refl w1.heap.size) (by omega) slI_none (TR5.out.wide (Nat.le_refl _) (show w4.heap.size ≤ w5.heap.size from hz5)) (Nat.le_refl _))
    obtain ⟨x0, x1, x2, x3, x4⟩ := cells5G (lay := Below.refl _ _) B5.out.x
    have q0 := free_at (j := 0) B5.out.x
    have q1 := free_at (j := 1) B5.out.x
    have q2 := free_at (j := 2) B5.out.x
    have q3 := free_at (j := 3) B5.out.x
    have q4 := free_at (j := 4) B5.out.x
    have lX := lt_of_block B5.out.x
    obtain ⟨w9, hw9⟩ : ∃ w9, w9 = ((((w5.setCell ⟨X, 0, none⟩ (.int .i64 3)).setCell ⟨X, 1, none⟩ (.string ⟨#[]⟩)).setCell ⟨X, 2, none⟩ (.slice none 0 0)).setCell ⟨X, 3, none⟩ (.int .i64 0)).setCell ⟨X, 4, none⟩ (.slice Ab nb cb) := ⟨_, rfl⟩
    have X9 : w9.heap[X]? = some (.cells #[.int .i64 3, .string ⟨#[]⟩, .slice none 0 0, .int .i64 0, .slice Ab nb cb] 66 (0, 0)) := by rw [hw9]; exact heap_set5 B5.out.x
    have G9 : w5.grownBy w9 (some X) := by rw [hw9]; exact gr_set5 _ _ _ _ _ _ _
    obtain ⟨r0, r1, r2, r3, r4⟩ := cells5G (lay := Below.refl _ _) X9
    have hz9 := G9.size
    have HW9 := Lib.hid hw9
    clear hw9
    go_wp2_with fail
    rw [← HW9.out]
    exact bodyPost_ret (v := .agg #[.int .i64 3, .string ⟨#[]⟩, .slice none 0 0, .int .i64 0, .slice Ab nb cb]) (by simp [results, Tryz.results132, go_sem, r0, r1, r2, r3, r4]) rfl ⟨_, _, _, _, _, mkT ⟨3, ⟨#[]⟩, [], 0⟩ l', rfl, by rw [SE.out, HE.out]; exact fun h => by rw [HL.out h], stI_wide (stI_gr SQ.out G9 (by omega)) (by omega) (by omega), by rw [SE.out, HE.out]; exact B5.out.rd.own G9 (fun k hk => by injection hk with hk; omega), gr_own2 B5.out.gr G9 (by omega)⟩
  · obtain ⟨q2, q3, q4, q5, q6, q7⟩ := kw_4 hk
    have SE := Lib.hid (SY.out (beg_4 hk))
    have HE := Lib.hid (WD.out.2.2.2.2 4 (by decide) hk)
    clear hk
    obtain ⟨p0, p1, p2, p3, p4⟩ := cells5G (lay := Below.refl _ _) B0.out.s
    have g0 := free_at (j := 0) B0.out.s
    have g1 := free_at (j := 1) B0.out.s
    have g2 := free_at (j := 2) B0.out.s
    have g3 := free_at (j := 3) B0.out.s
    have g4 := free_at (j := 4) B0.out.s
    have lS := lt_of_block B0.out.s
    go_upto_region 22 with (fail)
    refine wp_name (fun w1 hw1 => ?_)
    have B1 := Lib.hid (show SB R (some ⟨b, off, none⟩) n c T w X S ⟨i + 1, 0⟩ #[.int .i64 4, .string ⟨#[]⟩, .slice none 0 0, .int .i64 0, .slice none 0 0] w1 by rw [hw1]; exact (B0.out.set 0 (.int .i64 4)))
    have OW1 := Lib.hid (own_nil w1 (S + 1) 9 1)
    clear hw1
    clear p0 p1 p2 p3 p4 g0 g1 g2 g3 g4 lS
    have TK1 := Lib.hid (show Calls Tryz.prog 131 #[.pointer (some ⟨R, 0, none⟩), .int .i64 1, .int .i64 3] w1.drew (fun e1 y1 => e1 = .returned (.string (takeR T ⟨i + 1, 0⟩ 1 3).2) ∧ y1.ownsRow (S + 1) 9 1 (.slice none 0 0) 0 (strs []) ∧ Hid (SB R (some ⟨b, off, none⟩) n c T w X S (takeR T ⟨i + 1, 0⟩ 1 3).1 #[.int .i64 4, .string ⟨#[]⟩, (.slice none 0 0), .int .i64 0, .slice none 0 0] y1) ∧ y1.cell? ⟨S, 2, none⟩ = some (.slice none 0 0) ∧ (∀ ob, (y1.alloc ob).cell? ⟨S, 2, none⟩ = some (.slice none 0 0)) ∧ S + 1 ≤ y1.heap.size) by
      refine (l18Take_any R n c _ T ⟨i + 1, 0⟩ 1 3 w1.drew B1.out.drew.rd (by omega) (by decide)).mono ?_
      rintro e y1 ⟨rfl, hr, hg⟩
      have hb := B1.out.drew.call hg hr
      have hc := cell_at (j := 2) hb.s rfl
      exact ⟨rfl, own_drawG (own_drewG OW1.out) hg (by omega), hb, hc, fun ob => (World.cell?_alloc_lt y1 ob ⟨S, 2, none⟩ (lt_of_block hb.s)).trans hc, lt_of_block hb.s⟩)
    have pS1 := cell_at (j := 2) B1.out.s rfl
    obtain ⟨aw1, hx1⟩ : ∃ x, x = (takeR T ⟨i + 1, 0⟩ 1 3).2 := ⟨_, rfl⟩
    have HX1 := Lib.hid hx1
    rw [← hx1] at TK1
    clear hx1
    go_region_law (first
      | (go_simp; go_at_call 131; (with_reducible refine TK1.out.mono ?_); rintro e1 y1 ⟨rfl, hox, HB1, hc2, hc2a, hy1⟩)
      | (refine step_append_rdO _ (by rfl) (.tmp 61) (.tmp 64) 24 (by rfl) (S + 1) 9 i0 _ 1 16 Tryz.underlying24 hi hz0 hz1 hz2 (by rfl) (by decide) _ 0 _ (by rfl) (by exact hox.alloc _) _ 1 _ [.string aw1] (by rfl) (by exact rd_lit2 (w := y1) (cs := #[.string aw1]) (by rfl) rfl) (by exact one_str1 _) (by simp only [maxLen]; omega) (by omega) (by simp; omega) ?_; intro v6 w6 own6 gr6 hat; obtain ⟨A2, c2, rfl, hcc2, _, _⟩ := rd_of_own (show w6.ownsRow _ _ _ v6 1 _ from own6); have HB6 := Lib.hid ((HB1.out.alloc _).own gr6 (HB1.out.sub (own_lowT hox (by omega))) lR); have p2 := cell_at (j := 2) HB6.out.s rfl; have g2 := free_at (j := 2) HB6.out.s; have lS := lt_of_block HB6.out.s))
    all_goals
      obtain ⟨w2, hw2⟩ : ∃ w2, w2 = w6.setCell ⟨S, 2, none⟩ (.slice A2 1 c2) := ⟨_, rfl⟩
      have B2 := Lib.hid (show SB R (some ⟨b, off, none⟩) n c T w X S (takeR T ⟨i + 1, 0⟩ 1 3).1 #[.int .i64 4, .string ⟨#[]⟩, .slice A2 1 c2, .int .i64 0, .slice none 0 0] w2 by rw [hw2]; exact HB6.out.set 2 _)
      have OW2 := Lib.hid (show w2.ownsRow (S + 1) 9 1 (.slice A2 1 c2) 1 (strs ([] ++ [aw1])) by rw [hw2, strs_snoc1]; exact own_setfarG own6 (own_ne_typeG own6 HB6.out.s (by decide)) _)
      have HCC2 := Lib.hid hcc2
      have HW2 := Lib.hid hw2
      clear hw2 own6 gr6 hat hox hc2 hc2a p2 g2 pS1 hcc2 HB6 HB1 hy1 lS
      go_wp2_with fail
      rw [← HW2.out]
      refine (IB.out R n c _ T (takeR T ⟨i + 1, 0⟩ 1 3).1 k w2 B2.out.rd hn hT.out KD.out).mono ?_
      rintro e w4 ⟨Ab, nb, cb, l', rfl, hl, htr, hr, hg⟩
      have B4 := Lib.hid (B2.out.call hg hr)
      have hz4 := hg.size
      have hSb := lt_of_block B2.out.s
      have SL4 := Lib.hid (slI_gr (slI_of_own OW2.out) hg (by omega))
      have HL := Lib.hid hl
      have TR := Lib.hid htr
      clear hl htr hr hg
      obtain ⟨p0, p1, p2, p3, p4⟩ := cells5G (lay := Below.refl _ _) B4.out.s
      have g0 := free_at (j := 0) B4.out.s
      have g1 := free_at (j := 1) B4.out.s
      have g2 := free_at (j := 2) B4.out.s
      have g3 := free_at (j := 3) B4.out.s
      have g4 := free_at (j := 4) B4.out.s
      have lS := lt_of_block B4.out.s
      obtain ⟨w5, hw5⟩ : ∃ w5, w5 = (w4.setCell ⟨S, 4, none⟩ (.slice Ab nb cb)) := ⟨_, rfl⟩
      have B5 := Lib.hid (show SB R (some ⟨b, off, none⟩) n c T w X S (bodyR T (innerR T d) (takeR T ⟨i + 1, 0⟩ 1 3).1).1 #[.int .i64 4, .string ⟨#[]⟩, .slice A2 1 c2, .int .i64 0, .slice Ab nb cb] w5 by rw [hw5]; exact (B4.out.set 4 (.slice Ab nb cb)))
      have HW5 := Lib.hid hw5
      clear hw5
      have G45 : w4.grownBy w5 (some S) := by rw [HW5.out]; exact gr_set _
      have TR5 := Lib.hid (trI_gr TR.out G45 (by omega))
      have SL5 := Lib.hid (SL4.out.keepS G45 (own_ne_typeG OW2.out B2.out.s (by decide)))
      have hz5 : w4.heap.size ≤ w5.heap.size := G45.size
      go_upto_region 24 with (fail)
      rw [← HW5.out]
      clear p0 p1 p2 p3 p4 g0 g1 g2 g3 g4 lS
      obtain ⟨p0, p1, p2, p3, p4⟩ := cells5G (lay := Below.refl _ _) B5.out.s
      have g0 := free_at (j := 0) B5.out.s
      have g1 := free_at (j := 1) B5.out.s
      have g2 := free_at (j := 2) B5.out.s
      have g3 := free_at (j := 3) B5.out.s
      have g4 := free_at (j := 4) B5.out.s
      have lS := lt_of_block B5.out.s
      have SQ := Lib.hid (stI_mk (h := ⟨4, ⟨#[]⟩, [aw1], 0⟩) (Aa := A2) (ca := c2) (cb := cb) (n := 1) rfl (show S + 1 ≤ w2.heap.size from hSb) (by omega) SL5.out (TR5.out.wide (Nat.le_refl _) (show w4.heap.size ≤ w5.heap.size from hz5)) HCC2.out)
      obtain ⟨x0, x1, x2, x3, x4⟩ := cells5G (lay := Below.refl _ _) B5.out.x
      have q0 := free_at (j := 0) B5.out.x
      have q1 := free_at (j := 1) B5.out.x
      have q2 := free_at (j := 2) B5.out.x
      have q3 := free_at (j := 3) B5.out.x
      have q4 := free_at (j := 4) B5.out.x
      have lX := lt_of_block B5.out.x
      obtain ⟨w9, hw9⟩ : ∃ w9, w9 = ((((w5.setCell ⟨X, 0, none⟩ (.int .i64 4)).setCell ⟨X, 1, none⟩ (.string ⟨#[]⟩)).setCell ⟨X, 2, none⟩ (.slice A2 1 c2)).setCell ⟨X, 3, none⟩ (.int .i64 0)).setCell ⟨X, 4, none⟩ (.slice Ab nb cb) := ⟨_, rfl⟩
      have X9 : w9.heap[X]? = some (.cells #[.int .i64 4, .string ⟨#[]⟩, .slice A2 1 c2, .int .i64 0, .slice Ab nb cb] 66 (0, 0)) := by rw [hw9]; exact heap_set5 B5.out.x
      have G9 : w5.grownBy w9 (some X) := by rw [hw9]; exact gr_set5 _ _ _ _ _ _ _
      obtain ⟨r0, r1, r2, r3, r4⟩ := cells5G (lay := Below.refl _ _) X9
      have hz9 := G9.size
      have HW9 := Lib.hid hw9
      clear hw9
      go_wp2_with fail
      rw [← HW9.out]
      exact bodyPost_ret (v := .agg #[.int .i64 4, .string ⟨#[]⟩, .slice A2 1 c2, .int .i64 0, .slice Ab nb cb]) (by simp [results, Tryz.results132, go_sem, r0, r1, r2, r3, r4]) rfl ⟨_, _, _, _, _, mkT ⟨4, ⟨#[]⟩, [aw1], 0⟩ l', rfl, by rw [SE.out, HE.out, HX1.out]; exact fun h => by rw [HL.out h]; rfl, stI_wide (stI_gr SQ.out G9 (by omega)) (by omega) (by omega), by rw [SE.out, HE.out]; exact B5.out.rd.own G9 (fun k hk => by injection hk with hk; omega), gr_own2 B5.out.gr G9 (by omega)⟩
  · obtain ⟨q2, q3, q4, q5, q6, q7⟩ := kw_5 hk
    have SE := Lib.hid (SY.out (beg_5 hk))
    have HE := Lib.hid (WD.out.2.2.2.2 5 (by decide) hk)
    clear hk
    obtain ⟨p0, p1, p2, p3, p4⟩ := cells5G (lay := Below.refl _ _) B0.out.s
    have g0 := free_at (j := 0) B0.out.s
    have g1 := free_at (j := 1) B0.out.s
    have g2 := free_at (j := 2) B0.out.s
    have g3 := free_at (j := 3) B0.out.s
    have g4 := free_at (j := 4) B0.out.s
    have lS := lt_of_block B0.out.s
    go_upto_region 22 with (fail)
    refine wp_name (fun w1 hw1 => ?_)
    have B1 := Lib.hid (show SB R (some ⟨b, off, none⟩) n c T w X S ⟨i + 1, 0⟩ #[.int .i64 5, .string ⟨#[]⟩, .slice none 0 0, .int .i64 0, .slice none 0 0] w1 by rw [hw1]; exact ((B0.out.set 0 (.int .i64 4)).set 0 (.int .i64 5)))
    have OW1 := Lib.hid (own_nil w1 (S + 1) 9 1)
    clear hw1
    clear p0 p1 p2 p3 p4 g0 g1 g2 g3 g4 lS
    have TK1 := Lib.hid (show Calls Tryz.prog 131 #[.pointer (some ⟨R, 0, none⟩), .int .i64 1, .int .i64 3] w1.drew (fun e1 y1 => e1 = .returned (.string (takeR T ⟨i + 1, 0⟩ 1 3).2) ∧ y1.ownsRow (S + 1) 9 1 (.slice none 0 0) 0 (strs []) ∧ Hid (SB R (some ⟨b, off, none⟩) n c T w X S (takeR T ⟨i + 1, 0⟩ 1 3).1 #[.int .i64 5, .string ⟨#[]⟩, (.slice none 0 0), .int .i64 0, .slice none 0 0] y1) ∧ y1.cell? ⟨S, 2, none⟩ = some (.slice none 0 0) ∧ (∀ ob, (y1.alloc ob).cell? ⟨S, 2, none⟩ = some (.slice none 0 0)) ∧ S + 1 ≤ y1.heap.size) by
      refine (l18Take_any R n c _ T ⟨i + 1, 0⟩ 1 3 w1.drew B1.out.drew.rd (by omega) (by decide)).mono ?_
      rintro e y1 ⟨rfl, hr, hg⟩
      have hb := B1.out.drew.call hg hr
      have hc := cell_at (j := 2) hb.s rfl
      exact ⟨rfl, own_drawG (own_drewG OW1.out) hg (by omega), hb, hc, fun ob => (World.cell?_alloc_lt y1 ob ⟨S, 2, none⟩ (lt_of_block hb.s)).trans hc, lt_of_block hb.s⟩)
    have pS1 := cell_at (j := 2) B1.out.s rfl
    obtain ⟨aw1, hx1⟩ : ∃ x, x = (takeR T ⟨i + 1, 0⟩ 1 3).2 := ⟨_, rfl⟩
    have HX1 := Lib.hid hx1
    rw [← hx1] at TK1
    clear hx1
    go_region_law (first
      | (go_simp; go_at_call 131; (with_reducible refine TK1.out.mono ?_); rintro e1 y1 ⟨rfl, hox, HB1, hc2, hc2a, hy1⟩)
      | (refine step_append_rdO _ (by rfl) (.tmp 61) (.tmp 64) 24 (by rfl) (S + 1) 9 i0 _ 1 16 Tryz.underlying24 hi hz0 hz1 hz2 (by rfl) (by decide) _ 0 _ (by rfl) (by exact hox.alloc _) _ 1 _ [.string aw1] (by rfl) (by exact rd_lit2 (w := y1) (cs := #[.string aw1]) (by rfl) rfl) (by exact one_str1 _) (by simp only [maxLen]; omega) (by omega) (by simp; omega) ?_; intro v6 w6 own6 gr6 hat; obtain ⟨A2, c2, rfl, hcc2, _, _⟩ := rd_of_own (show w6.ownsRow _ _ _ v6 1 _ from own6); have HB6 := Lib.hid ((HB1.out.alloc _).own gr6 (HB1.out.sub (own_lowT hox (by omega))) lR); have p2 := cell_at (j := 2) HB6.out.s rfl; have g2 := free_at (j := 2) HB6.out.s; have lS := lt_of_block HB6.out.s))
    all_goals
      obtain ⟨w2, hw2⟩ : ∃ w2, w2 = w6.setCell ⟨S, 2, none⟩ (.slice A2 1 c2) := ⟨_, rfl⟩
      have B2 := Lib.hid (show SB R (some ⟨b, off, none⟩) n c T w X S (takeR T ⟨i + 1, 0⟩ 1 3).1 #[.int .i64 5, .string ⟨#[]⟩, .slice A2 1 c2, .int .i64 0, .slice none 0 0] w2 by rw [hw2]; exact HB6.out.set 2 _)
      have OW2 := Lib.hid (show w2.ownsRow (S + 1) 9 1 (.slice A2 1 c2) 1 (strs ([] ++ [aw1])) by rw [hw2, strs_snoc1]; exact own_setfarG own6 (own_ne_typeG own6 HB6.out.s (by decide)) _)
      have HCC2 := Lib.hid hcc2
      have HW2 := Lib.hid hw2
      clear hw2 own6 gr6 hat hox hc2 hc2a p2 g2 pS1 hcc2 HB6 HB1 hy1 lS
      go_wp2_with fail
      rw [← HW2.out]
      refine (IB.out R n c _ T (takeR T ⟨i + 1, 0⟩ 1 3).1 k w2 B2.out.rd hn hT.out KD.out).mono ?_
      rintro e w4 ⟨Ab, nb, cb, l', rfl, hl, htr, hr, hg⟩
      have B4 := Lib.hid (B2.out.call hg hr)
      have hz4 := hg.size
      have hSb := lt_of_block B2.out.s
      have SL4 := Lib.hid (slI_gr (slI_of_own OW2.out) hg (by omega))
      have HL := Lib.hid hl
      have TR := Lib.hid htr
      clear hl htr hr hg
      obtain ⟨p0, p1, p2, p3, p4⟩ := cells5G (lay := Below.refl _ _) B4.out.s
      have g0 := free_at (j := 0) B4.out.s
      have g1 := free_at (j := 1) B4.out.s
      have g2 := free_at (j := 2) B4.out.s
      have g3 := free_at (j := 3) B4.out.s
      have g4 := free_at (j := 4) B4.out.s
      have lS := lt_of_block B4.out.s
      obtain ⟨w5, hw5⟩ : ∃ w5, w5 = (w4.setCell ⟨S, 4, none⟩ (.slice Ab nb cb)) := ⟨_, rfl⟩
      have B5 := Lib.hid (show SB R (some ⟨b, off, none⟩) n c T w X S (bodyR T (innerR T d) (takeR T ⟨i + 1, 0⟩ 1 3).1).1 #[.int .i64 5, .string ⟨#[]⟩, .slice A2 1 c2, .int .i64 0, .slice Ab nb cb] w5 by rw [hw5]; exact (B4.out.set 4 (.slice Ab nb cb)))
      have HW5 := Lib.hid hw5
      clear hw5
      have G45 : w4.grownBy w5 (some S) := by rw [HW5.out]; exact gr_set _
      have TR5 := Lib.hid (trI_gr TR.out G45 (by omega))
      have SL5 := Lib.hid (SL4.out.keepS G45 (own_ne_typeG OW2.out B2.out.s (by decide)))
      have hz5 : w4.heap.size ≤ w5.heap.size := G45.size
      go_upto_region 24 with (fail)
      rw [← HW5.out]
      clear p0 p1 p2 p3 p4 g0 g1 g2 g3 g4 lS
      obtain ⟨p0, p1, p2, p3, p4⟩ := cells5G (lay := Below.refl _ _) B5.out.s
      have g0 := free_at (j := 0) B5.out.s
      have g1 := free_at (j := 1) B5.out.s
      have g2 := free_at (j := 2) B5.out.s
      have g3 := free_at (j := 3) B5.out.s
      have g4 := free_at (j := 4) B5.out.s
      have lS := lt_of_block B5.out.s
      have SQ := Lib.hid (stI_mk (h := ⟨5, ⟨#[]⟩, [aw1], 0⟩) (Aa := A2) (ca := c2) (cb := cb) (n := 1) rfl (show S + 1 ≤ w2.heap.size from hSb) (by omega) SL5.out (TR5.out.wide (Nat.le_refl _) (show w4.heap.size ≤ w5.heap.size from hz5)) HCC2.out)
      obtain ⟨x0, x1, x2, x3, x4⟩ := cells5G (lay := Below.refl _ _) B5.out.x
      have q0 := free_at (j := 0) B5.out.x
      have q1 := free_at (j := 1) B5.out.x
      have q2 := free_at (j := 2) B5.out.x
      have q3 := free_at (j := 3) B5.out.x
      have q4 := free_at (j := 4) B5.out.x
      have lX := lt_of_block B5.out.x
      obtain ⟨w9, hw9⟩ : ∃ w9, w9 = ((((w5.setCell ⟨X, 0, none⟩ (.int .i64 5)).setCell ⟨X, 1, none⟩ (.string ⟨#[]⟩)).setCell ⟨X, 2, none⟩ (.slice A2 1 c2)).setCell ⟨X, 3, none⟩ (.int .i64 0)).setCell ⟨X, 4, none⟩ (.slice Ab nb cb) := ⟨_, rfl⟩
      have X9 : w9.heap[X]? = some (.cells #[.int .i64 5, .string ⟨#[]⟩, .slice A2 1 c2, .int .i64 0, .slice Ab nb cb] 66 (0, 0)) := by rw [hw9]; exact heap_set5 B5.out.x
      have G9 : w5.grownBy w9 (some X) := by rw [hw9]; exact gr_set5 _ _ _ _ _ _ _
      obtain ⟨r0, r1, r2, r3, r4⟩ := cells5G (lay := Below.refl _ _) X9
      have hz9 := G9.size
      have HW9 := Lib.hid hw9
      clear hw9
      go_wp2_with fail
      rw [← HW9.out]
      exact bodyPost_ret (v := .agg #[.int .i64 5, .string ⟨#[]⟩, .slice A2 1 c2, .int .i64 0, .slice Ab nb cb]) (by simp [results, Tryz.results132, go_sem, r0, r1, r2, r3, r4]) rfl ⟨_, _, _, _, _, mkT ⟨5, ⟨#[]⟩, [aw1], 0⟩ l', rfl, by rw [SE.out, HE.out, HX1.out]; exact fun h => by rw [HL.out h]; rfl, stI_wide (stI_gr SQ.out G9 (by omega)) (by omega) (by omega), by rw [SE.out, HE.out]; exact B5.out.rd.own G9 (fun k hk => by injection hk with hk; omega), gr_own2 B5.out.gr G9 (by omega)⟩
  · obtain ⟨q2, q3, q4, q5, q6, q7⟩ := kw_6 hk
    have SE := Lib.hid (SY.out (beg_6 hk))
    have HE := Lib.hid (WD.out.2.2.1 hk)
    clear hk
    obtain ⟨p0, p1, p2, p3, p4⟩ := cells5G (lay := Below.refl _ _) B0.out.s
    have g0 := free_at (j := 0) B0.out.s
    have g1 := free_at (j := 1) B0.out.s
    have g2 := free_at (j := 2) B0.out.s
    have g3 := free_at (j := 3) B0.out.s
    have g4 := free_at (j := 4) B0.out.s
    have lS := lt_of_block B0.out.s
    go_upto_region 27 with (fail)
    refine wp_name (fun w1 hw1 => ?_)
    have B1 := Lib.hid (show SB R (some ⟨b, off, none⟩) n c T w X S ⟨i + 1, 0⟩ #[.int .i64 6, .string ⟨#[]⟩, .slice none 0 0, .int .i64 0, .slice none 0 0] w1 by rw [hw1]; exact (B0.out.set 0 (.int .i64 6)))
    have OW1 := Lib.hid (own_nil w1 (S + 1) 9 1)
    clear hw1
    clear p0 p1 p2 p3 p4 g0 g1 g2 g3 g4 lS
    have TK1 := Lib.hid (show Calls Tryz.prog 131 #[.pointer (some ⟨R, 0, none⟩), .int .i64 1, .int .i64 3] w1.drew (fun e1 y1 => e1 = .returned (.string (takeR T ⟨i + 1, 0⟩ 1 3).2) ∧ y1.ownsRow (S + 1) 9 1 (.slice none 0 0) 0 (strs []) ∧ Hid (SB R (some ⟨b, off, none⟩) n c T w X S (takeR T ⟨i + 1, 0⟩ 1 3).1 #[.int .i64 6, .string ⟨#[]⟩, (.slice none 0 0), .int .i64 0, .slice none 0 0] y1) ∧ y1.cell? ⟨S, 2, none⟩ = some (.slice none 0 0) ∧ (∀ ob, (y1.alloc ob).cell? ⟨S, 2, none⟩ = some (.slice none 0 0)) ∧ S + 1 ≤ y1.heap.size) by
      refine (l18Take_any R n c _ T ⟨i + 1, 0⟩ 1 3 w1.drew B1.out.drew.rd (by omega) (by decide)).mono ?_
      rintro e y1 ⟨rfl, hr, hg⟩
      have hb := B1.out.drew.call hg hr
      have hc := cell_at (j := 2) hb.s rfl
      exact ⟨rfl, own_drawG (own_drewG OW1.out) hg (by omega), hb, hc, fun ob => (World.cell?_alloc_lt y1 ob ⟨S, 2, none⟩ (lt_of_block hb.s)).trans hc, lt_of_block hb.s⟩)
    have pS1 := cell_at (j := 2) B1.out.s rfl
    obtain ⟨aw1, hx1⟩ : ∃ x, x = (takeR T ⟨i + 1, 0⟩ 1 3).2 := ⟨_, rfl⟩
    have HX1 := Lib.hid hx1
    rw [← hx1] at TK1
    clear hx1
    go_region_law (first
      | (go_simp; go_at_call 131; (with_reducible refine TK1.out.mono ?_); rintro e1 y1 ⟨rfl, hox, HB1, hc2, hc2a, hy1⟩)
      | (refine step_append_rdO _ (by rfl) (.tmp 76) (.tmp 79) 24 (by rfl) (S + 1) 9 i0 _ 1 16 Tryz.underlying24 hi hz0 hz1 hz2 (by rfl) (by decide) _ 0 _ (by rfl) (by exact hox.alloc _) _ 1 _ [.string aw1] (by rfl) (by exact rd_lit2 (w := y1) (cs := #[.string aw1]) (by rfl) rfl) (by exact one_str1 _) (by simp only [maxLen]; omega) (by omega) (by simp; omega) ?_; intro v6 w6 own6 gr6 hat; obtain ⟨A2, c2, rfl, hcc2, _, _⟩ := rd_of_own (show w6.ownsRow _ _ _ v6 1 _ from own6); have HB6 := Lib.hid ((HB1.out.alloc _).own gr6 (HB1.out.sub (own_lowT hox (by omega))) lR); have p2 := cell_at (j := 2) HB6.out.s rfl; have g2 := free_at (j := 2) HB6.out.s; have lS := lt_of_block HB6.out.s))
    all_goals
      obtain ⟨w2, hw2⟩ : ∃ w2, w2 = w6.setCell ⟨S, 2, none⟩ (.slice A2 1 c2) := ⟨_, rfl⟩
      have B2 := Lib.hid (show SB R (some ⟨b, off, none⟩) n c T w X S (takeR T ⟨i + 1, 0⟩ 1 3).1 #[.int .i64 6, .string ⟨#[]⟩, .slice A2 1 c2, .int .i64 0, .slice none 0 0] w2 by rw [hw2]; exact HB6.out.set 2 _)
      have OW2 := Lib.hid (show w2.ownsRow (S + 1) 9 1 (.slice A2 1 c2) 1 (strs ([] ++ [aw1])) by rw [hw2, strs_snoc1]; exact own_setfarG own6 (own_ne_typeG own6 HB6.out.s (by decide)) _)
      have HCC2 := Lib.hid hcc2
      have HW2 := Lib.hid hw2
      clear hw2 own6 gr6 hat hox hc2 hc2a p2 g2 pS1 hcc2 HB6 HB1 hy1 lS
      go_upto_region 28 with (fail)
      rw [← HW2.out]
      have TK2 := Lib.hid (show Calls Tryz.prog 131 #[.pointer (some ⟨R, 0, none⟩), .int .i64 1, .int .i64 3] w2.drew (fun e1 y1 => e1 = .returned (.string (takeR T (takeR T ⟨i + 1, 0⟩ 1 3).1 1 3).2) ∧ y1.ownsRow (S + 1) 9 1 (.slice A2 1 c2) 1 (strs [aw1]) ∧ Hid (SB R (some ⟨b, off, none⟩) n c T w X S (takeR T (takeR T ⟨i + 1, 0⟩ 1 3).1 1 3).1 #[.int .i64 6, .string ⟨#[]⟩, (.slice A2 1 c2), .int .i64 0, .slice none 0 0] y1) ∧ y1.cell? ⟨S, 2, none⟩ = some (.slice A2 1 c2) ∧ (∀ ob, (y1.alloc ob).cell? ⟨S, 2, none⟩ = some (.slice A2 1 c2)) ∧ S + 1 ≤ y1.heap.size) by
        refine (l18Take_any R n c _ T (takeR T ⟨i + 1, 0⟩ 1 3).1 1 3 w2.drew B2.out.drew.rd (by omega) (by decide)).mono ?_
        rintro e y1 ⟨rfl, hr, hg⟩
        have hb := B2.out.drew.call hg hr
        have hc := cell_at (j := 2) hb.s rfl
        exact ⟨rfl, own_drawG (own_drewG OW2.out) hg (by omega), hb, hc, fun ob => (World.cell?_alloc_lt y1 ob ⟨S, 2, none⟩ (lt_of_block hb.s)).trans hc, lt_of_block hb.s⟩)
      have pS2 := cell_at (j := 2) B2.out.s rfl
      obtain ⟨aw2, hx2⟩ : ∃ x, x = (takeR T (takeR T ⟨i + 1, 0⟩ 1 3).1 1 3).2 := ⟨_, rfl⟩
      have HX2 := Lib.hid hx2
      rw [← hx2] at TK2
      clear hx2
      go_region_law (first
        | (go_simp; go_at_call 131; (with_reducible refine TK2.out.mono ?_); rintro e1 y1 ⟨rfl, hox, HB1, hc2, hc2a, hy1⟩)
        | (refine step_append_rdO _ (by rfl) (.tmp 83) (.tmp 86) 24 (by rfl) (S + 1) 9 i0 _ 1 16 Tryz.underlying24 hi hz0 hz1 hz2 (by rfl) (by decide) _ 1 _ (by rfl) (by exact hox.alloc _) _ 1 _ [.string aw2] (by rfl) (by exact rd_lit2 (w := y1) (cs := #[.string aw2]) (by rfl) rfl) (by exact one_str1 _) (by simp only [maxLen]; omega) (by omega) (by simp; omega) ?_; intro v6 w6 own6 gr6 hat; obtain ⟨A3, c3, rfl, hcc3, _, _⟩ := rd_of_own (show w6.ownsRow _ _ _ v6 2 _ from own6); have HB6 := Lib.hid ((HB1.out.alloc _).own gr6 (HB1.out.sub (own_lowT hox (by omega))) lR); have p2 := cell_at (j := 2) HB6.out.s rfl; have g2 := free_at (j := 2) HB6.out.s; have lS := lt_of_block HB6.out.s))
      all_goals
        obtain ⟨w3, hw3⟩ : ∃ w3, w3 = w6.setCell ⟨S, 2, none⟩ (.slice A3 2 c3) := ⟨_, rfl⟩
        have B3 := Lib.hid (show SB R (some ⟨b, off, none⟩) n c T w X S (takeR T (takeR T ⟨i + 1, 0⟩ 1 3).1 1 3).1 #[.int .i64 6, .string ⟨#[]⟩, .slice A3 2 c3, .int .i64 0, .slice none 0 0] w3 by rw [hw3]; exact HB6.out.set 2 _)
        have OW3 := Lib.hid (show w3.ownsRow (S + 1) 9 1 (.slice A3 2 c3) 2 (strs ([aw1] ++ [aw2])) by rw [hw3, strs_snoc1]; exact own_setfarG own6 (own_ne_typeG own6 HB6.out.s (by decide)) _)
        have HCC3 := Lib.hid hcc3
        have HW3 := Lib.hid hw3
        clear hw3 own6 gr6 hat hox hc2 hc2a p2 g2 pS2 hcc3 HB6 HB1 hy1 lS
        go_wp2_with fail
        rw [← HW3.out]
        refine (l18Take_any R n c _ T (takeR T (takeR T ⟨i + 1, 0⟩ 1 3).1 1 3).1 2 4 w3 B3.out.rd (by omega) (by decide)).mono ?_
        rintro e w4 ⟨rfl, hr, hg⟩
        have B4 := Lib.hid (B3.out.call hg hr)
        have hz4 := hg.size
        have hz3 : S + 1 ≤ w3.heap.size := lt_of_block B3.out.s
        have SL4 := Lib.hid (slI_gr (slI_of_own OW3.out) hg (by omega))
        clear hr hg
        obtain ⟨p0, p1, p2, p3, p4⟩ := cells5G (lay := Below.refl _ _) B4.out.s
        have g0 := free_at (j := 0) B4.out.s
        have g1 := free_at (j := 1) B4.out.s
        have g2 := free_at (j := 2) B4.out.s
        have g3 := free_at (j := 3) B4.out.s
        have g4 := free_at (j := 4) B4.out.s
        have lS := lt_of_block B4.out.s
        have SQ := Lib.hid (stI_mk (d := d) (h := ⟨6, ⟨#[]⟩, [aw1, aw2], 0⟩) (Aa := A3) (ca := c3) (Ab := none) (cb := 0) (n := 2) (m2 := w4.heap.size) rfl hz3 (by omega) SL4.out trI_nil HCC3.out)
        obtain ⟨x0, x1, x2, x3, x4⟩ := cells5G (lay := Below.refl _ _) B4.out.x
        have q0 := free_at (j := 0) B4.out.x
        have q1 := free_at (j := 1) B4.out.x
        have q2 := free_at (j := 2) B4.out.x
        have q3 := free_at (j := 3) B4.out.x
        have q4 := free_at (j := 4) B4.out.x
        have lX := lt_of_block B4.out.x
        obtain ⟨w9, hw9⟩ : ∃ w9, w9 = ((((w4.setCell ⟨X, 0, none⟩ (.int .i64 6)).setCell ⟨X, 1, none⟩ (.string ⟨#[]⟩)).setCell ⟨X, 2, none⟩ (.slice A3 2 c3)).setCell ⟨X, 3, none⟩ (.int .i64 0)).setCell ⟨X, 4, none⟩ (.slice none 0 0) := ⟨_, rfl⟩
        have X9 : w9.heap[X]? = some (.cells #[.int .i64 6, .string ⟨#[]⟩, .slice A3 2 c3, .int .i64 0, .slice none 0 0] 66 (0, 0)) := by rw [hw9]; exact heap_set5 B4.out.x
        have G9 : w4.grownBy w9 (some X) := by rw [hw9]; exact gr_set5 _ _ _ _ _ _ _
        obtain ⟨r0, r1, r2, r3, r4⟩ := cells5G (lay := Below.refl _ _) X9
        have hz9 := G9.size
        have HW9 := Lib.hid hw9
        clear hw9
        go_wp2_with fail
        rw [← HW9.out]
        exact bodyPost_ret (v := .agg #[.int .i64 6, .string ⟨#[]⟩, .slice A3 2 c3, .int .i64 0, .slice none 0 0]) (by simp [results, Tryz.results132, go_sem, r0, r1, r2, r3, r4]) rfl ⟨_, _, _, _, _, mkT ⟨6, ⟨#[]⟩, [aw1, aw2], 0⟩ [], rfl, by rw [SE.out, HE.out, HX1.out, HX2.out]; exact fun _ => rfl, stI_wide (stI_gr SQ.out G9 (by omega)) (by omega) (by omega), by rw [SE.out, HE.out]; exact B4.out.rd.own G9 (fun k hk => by injection hk with hk; omega), gr_own2 B4.out.gr G9 (by omega)⟩
  · obtain ⟨q2, q3, q4, q5, q6, q7⟩ := kw_7 hk
    have SE := Lib.hid (SY.out (beg_7 hk))
    have HE := Lib.hid (WD.out.2.2.2.2 7 (by decide) hk)
    clear hk
    obtain ⟨p0, p1, p2, p3, p4⟩ := cells5G (lay := Below.refl _ _) B0.out.s
    have g0 := free_at (j := 0) B0.out.s
    have g1 := free_at (j := 1) B0.out.s
    have g2 := free_at (j := 2) B0.out.s
    have g3 := free_at (j := 3) B0.out.s
    have g4 := free_at (j := 4) B0.out.s
    have lS := lt_of_block B0.out.s
    go_upto_region 22 with (fail)
    refine wp_name (fun w1 hw1 => ?_)
    have B1 := Lib.hid (show SB R (some ⟨b, off, none⟩) n c T w X S ⟨i + 1, 0⟩ #[.int .i64 7, .string ⟨#[]⟩, .slice none 0 0, .int .i64 0, .slice none 0 0] w1 by rw [hw1]; exact ((B0.out.set 0 (.int .i64 4)).set 0 (.int .i64 7)))
    have OW1 := Lib.hid (own_nil w1 (S + 1) 9 1)
    clear hw1
    clear p0 p1 p2 p3 p4 g0 g1 g2 g3 g4 lS
    have TK1 := Lib.hid (show Calls Tryz.prog 131 #[.pointer (some ⟨R, 0, none⟩), .int .i64 1, .int .i64 3] w1.drew (fun e1 y1 => e1 = .returned (.string (takeR T ⟨i + 1, 0⟩ 1 3).2) ∧ y1.ownsRow (S + 1) 9 1 (.slice none 0 0) 0 (strs []) ∧ Hid (SB R (some ⟨b, off, none⟩) n c T w X S (takeR T ⟨i + 1, 0⟩ 1 3).1 #[.int .i64 7, .string ⟨#[]⟩, (.slice none 0 0), .int .i64 0, .slice none 0 0] y1) ∧ y1.cell? ⟨S, 2, none⟩ = some (.slice none 0 0) ∧ (∀ ob, (y1.alloc ob).cell? ⟨S, 2, none⟩ = some (.slice none 0 0)) ∧ S + 1 ≤ y1.heap.size) by
      refine (l18Take_any R n c _ T ⟨i + 1, 0⟩ 1 3 w1.drew B1.out.drew.rd (by omega) (by decide)).mono ?_
      rintro e y1 ⟨rfl, hr, hg⟩
      have hb := B1.out.drew.call hg hr
      have hc := cell_at (j := 2) hb.s rfl
      exact ⟨rfl, own_drawG (own_drewG OW1.out) hg (by omega), hb, hc, fun ob => (World.cell?_alloc_lt y1 ob ⟨S, 2, none⟩ (lt_of_block hb.s)).trans hc, lt_of_block hb.s⟩)
    have pS1 := cell_at (j := 2) B1.out.s rfl
    obtain ⟨aw1, hx1⟩ : ∃ x, x = (takeR T ⟨i + 1, 0⟩ 1 3).2 := ⟨_, rfl⟩
    have HX1 := Lib.hid hx1
    rw [← hx1] at TK1
    clear hx1
    go_region_law (first
      | (go_simp; go_at_call 131; (with_reducible refine TK1.out.mono ?_); rintro e1 y1 ⟨rfl, hox, HB1, hc2, hc2a, hy1⟩)
      | (refine step_append_rdO _ (by rfl) (.tmp 61) (.tmp 64) 24 (by rfl) (S + 1) 9 i0 _ 1 16 Tryz.underlying24 hi hz0 hz1 hz2 (by rfl) (by decide) _ 0 _ (by rfl) (by exact hox.alloc _) _ 1 _ [.string aw1] (by rfl) (by exact rd_lit2 (w := y1) (cs := #[.string aw1]) (by rfl) rfl) (by exact one_str1 _) (by simp only [maxLen]; omega) (by omega) (by simp; omega) ?_; intro v6 w6 own6 gr6 hat; obtain ⟨A2, c2, rfl, hcc2, _, _⟩ := rd_of_own (show w6.ownsRow _ _ _ v6 1 _ from own6); have HB6 := Lib.hid ((HB1.out.alloc _).own gr6 (HB1.out.sub (own_lowT hox (by omega))) lR); have p2 := cell_at (j := 2) HB6.out.s rfl; have g2 := free_at (j := 2) HB6.out.s; have lS := lt_of_block HB6.out.s))
    all_goals
      obtain ⟨w2, hw2⟩ : ∃ w2, w2 = w6.setCell ⟨S, 2, none⟩ (.slice A2 1 c2) := ⟨_, rfl⟩
      have B2 := Lib.hid (show SB R (some ⟨b, off, none⟩) n c T w X S (takeR T ⟨i + 1, 0⟩ 1 3).1 #[.int .i64 7, .string ⟨#[]⟩, .slice A2 1 c2, .int .i64 0, .slice none 0 0] w2 by rw [hw2]; exact HB6.out.set 2 _)
      have OW2 := Lib.hid (show w2.ownsRow (S + 1) 9 1 (.slice A2 1 c2) 1 (strs ([] ++ [aw1])) by rw [hw2, strs_snoc1]; exact own_setfarG own6 (own_ne_typeG own6 HB6.out.s (by decide)) _)
      have HCC2 := Lib.hid hcc2
      have HW2 := Lib.hid hw2
      clear hw2 own6 gr6 hat hox hc2 hc2a p2 g2 pS1 hcc2 HB6 HB1 hy1 lS
      go_wp2_with fail
      rw [← HW2.out]
      refine (IB.out R n c _ T (takeR T ⟨i + 1, 0⟩ 1 3).1 k w2 B2.out.rd hn hT.out KD.out).mono ?_
      rintro e w4 ⟨Ab, nb, cb, l', rfl, hl, htr, hr, hg⟩
      have B4 := Lib.hid (B2.out.call hg hr)
      have hz4 := hg.size
      have hSb := lt_of_block B2.out.s
      have SL4 := Lib.hid (slI_gr (slI_of_own OW2.out) hg (by omega))
      have HL := Lib.hid hl
      have TR := Lib.hid htr
      clear hl htr hr hg
      obtain ⟨p0, p1, p2, p3, p4⟩ := cells5G (lay := Below.refl _ _) B4.out.s
      have g0 := free_at (j := 0) B4.out.s
      have g1 := free_at (j := 1) B4.out.s
      have g2 := free_at (j := 2) B4.out.s
      have g3 := free_at (j := 3) B4.out.s
      have g4 := free_at (j := 4) B4.out.s
      have lS := lt_of_block B4.out.s
      obtain ⟨w5, hw5⟩ : ∃ w5, w5 = (w4.setCell ⟨S, 4, none⟩ (.slice Ab nb cb)) := ⟨_, rfl⟩
      have B5 := Lib.hid (show SB R (some ⟨b, off, none⟩) n c T w X S (bodyR T (innerR T d) (takeR T ⟨i + 1, 0⟩ 1 3).1).1 #[.int .i64 7, .string ⟨#[]⟩, .slice A2 1 c2, .int .i64 0, .slice Ab nb cb] w5 by rw [hw5]; exact (B4.out.set 4 (.slice Ab nb cb)))
      have HW5 := Lib.hid hw5
      clear hw5
      have G45 : w4.grownBy w5 (some S) := by rw [HW5.out]; exact gr_set _
      have TR5 := Lib.hid (trI_gr TR.out G45 (by omega))
      have SL5 := Lib.hid (SL4.out.keepS G45 (own_ne_typeG OW2.out B2.out.s (by decide)))
      have hz5 : w4.heap.size ≤ w5.heap.size := G45.size
      go_upto_region 24 with (fail)
      rw [← HW5.out]
      clear p0 p1 p2 p3 p4 g0 g1 g2 g3 g4 lS
      obtain ⟨p0, p1, p2, p3, p4⟩ := cells5G (lay := Below.refl _ _) B5.out.s
      have g0 := free_at (j := 0) B5.out.s
      have g1 := free_at (j := 1) B5.out.s
      have g2 := free_at (j := 2) B5.out.s
      have g3 := free_at (j := 3) B5.out.s
      have g4 := free_at (j := 4) B5.out.s
      have lS := lt_of_block B5.out.s
      have SQ := Lib.hid (stI_mk (h := ⟨7, ⟨#[]⟩, [aw1], 0⟩) (Aa := A2) (ca := c2) (cb := cb) (n := 1) rfl (show S + 1 ≤ w2.heap.size from hSb) (by omega) SL5.out (TR5.out.wide (Nat.le_refl _) (show w4.heap.size ≤ w5.heap.size from hz5)) HCC2.out)
      obtain ⟨x0, x1, x2, x3, x4⟩ := cells5G (lay := Below.refl _ _) B5.out.x
      have q0 := free_at (j := 0) B5.out.x
      have q1 := free_at (j := 1) B5.out.x
      have q2 := free_at (j := 2) B5.out.x
      have q3 := free_at (j := 3) B5.out.x
      have q4 := free_at (j := 4) B5.out.x
      have lX := lt_of_block B5.out.x
      obtain ⟨w9, hw9⟩ : ∃ w9, w9 = ((((w5.setCell ⟨X, 0, none⟩ (.int .i64 7)).setCell ⟨X, 1, none⟩ (.string ⟨#[]⟩)).setCell ⟨X, 2, none⟩ (.slice A2 1 c2)).setCell ⟨X, 3, none⟩ (.int .i64 0)).setCell ⟨X, 4, none⟩ (.slice Ab nb cb) := ⟨_, rfl⟩
      have X9 : w9.heap[X]? = some (.cells #[.int .i64 7, .string ⟨#[]⟩, .slice A2 1 c2, .int .i64 0, .slice Ab nb cb] 66 (0, 0)) := by rw [hw9]; exact heap_set5 B5.out.x
      have G9 : w5.grownBy w9 (some X) := by rw [hw9]; exact gr_set5 _ _ _ _ _ _ _
      obtain ⟨r0, r1, r2, r3, r4⟩ := cells5G (lay := Below.refl _ _) X9
      have hz9 := G9.size
      have HW9 := Lib.hid hw9
      clear hw9
      go_wp2_with fail
      rw [← HW9.out]
      exact bodyPost_ret (v := .agg #[.int .i64 7, .string ⟨#[]⟩, .slice A2 1 c2, .int .i64 0, .slice Ab nb cb]) (by simp [results, Tryz.results132, go_sem, r0, r1, r2, r3, r4]) rfl ⟨_, _, _, _, _, mkT ⟨7, ⟨#[]⟩, [aw1], 0⟩ l', rfl, by rw [SE.out, HE.out, HX1.out]; exact fun h => by rw [HL.out h]; rfl, stI_wide (stI_gr SQ.out G9 (by omega)) (by omega) (by omega), by rw [SE.out, HE.out]; exact B5.out.rd.own G9 (fun k hk => by injection hk with hk; omega), gr_own2 B5.out.gr G9 (by omega)⟩
end Go.Proofs.YthkbckkghnbonaaGreatDoor
