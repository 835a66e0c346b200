/- What the calls that this law reaches answer, part 14 of 16. -/
import Derived.Test.YthkbckkghnbonaaGreatDoorJParse13
import Derived.Test.YthkbckkghnbonaaGreatDoorJParse12
import Derived.Test.YthkbckkghnbonaaGreatDoorJParse2
namespace Go.Proofs.YthkbckkghnbonaaGreatDoor
open Go.RowKit
set_option linter.unusedVariables false
theorem namesR_step {T : List Tk} {m t : Nat} {s st : Rs} {Q : List ByteArray} (ht : t < m) (h : namesR T m s = ((namesR T (m - t) st).1, Q ++ (namesR T (m - t) st).2)) :
    namesR T m s = ((namesR T (m - (t + 1)) (takeR T st 1 3).1).1, (Q ++ [(takeR T st 1 3).2]) ++ (namesR T (m - (t + 1)) (takeR T st 1 3).1).2) := by
  obtain ⟨f, hf⟩ : ∃ f, m - t = f + 1 := ⟨m - t - 1, by omega⟩
  have hf2 : m - (t + 1) = f := by omega
  rw [h, hf, hf2, namesR]
  simp
theorem strs_snoc1 (Q : List ByteArray) (a : ByteArray) : strs (Q ++ [a]) = strs Q ++ [.string a] := by simp [strs]
theorem one_strN (a : ByteArray) : ∀ u ∈ (#[Value.string a] : Array Value).toList, u.oneCell' = true := by
  intro u hu
  rw [List.mem_singleton.1 hu]
  rfl
def RnI (R : Nat) (A : Option Addr) (n c : Nat) (T : List Tk) (o : Int) (Q : List ByteArray) (s : Rs) (w : World) (e : Ending) (w' : World) : Prop :=
  ∃ A' c', e = .returned (.slice A' Q.length c') ∧ w'.ownsRow w.heap.size 9 1 (.slice A' Q.length c') Q.length (strs Q) ∧ RdI R A n c T o s w' ∧ w.grownBy w' (some R)
set_option maxRecDepth 100000 in
set_option maxHeartbeats 4000000 in
theorem names_any (R n c : Nat) (A : Option Addr) (T : List Tk) (o : Int) (s : Rs) (m : Nat) (w : World) (h : RdI R A n c T o s w) (hn : n ≤ 1048576) (hm : m ≤ 3) : Calls Tryz.prog 110 #[.pointer (some ⟨R, 0, none⟩), .int .i64 m] w (RnI R A n c T o (namesR T m s).2 (namesR T m s).1 w) := by
  obtain ⟨i0, hi, hz0, hz1, hz2⟩ := info_parts info_str
  have lR := h.cells.2.2
  have H := Lib.hid h
  clear h
  go_enter Tryz.func110, Tryz.ntmps110
  go_wp2_with fail
  obtain ⟨w0, hw0⟩ : ∃ w0, w0 = w.alloc (.cells #[] 9) := ⟨_, rfl⟩
  rw [← hw0]
  have b0 : Below w.heap.size w w0 := by rw [hw0]; exact (by repeat (first | exact Below.refl _ _ | assumption | (refine Below.trans ?_ (Below.mono (by assumption) (by first | omega | (simp; done) | (simp; omega)))) | (with_reducible refine Below.drew ?_) | (with_reducible refine Below.alloc ?_ (by first | omega | (simp; done) | (simp; omega)) _) | (with_reducible refine Below.setCell ?_ (by first | omega | (simp; done) | (simp; omega)) _)))
  have OW := Lib.hid (show w0.ownsRow w.heap.size 9 1 (.slice (some ⟨w.heap.size, 0, none⟩) 0 0) 0 [] by rw [hw0]; exact own_empty _ _ _)
  have H0 := Lib.hid (H.out.below b0)
  have G0 := Lib.hid (only_of_below b0 (some R))
  clear hw0 b0 H
  go_loopw [5, 6] (fun v i wr => ∃ (t : Nat) (Q : List ByteArray) (st : Rs), i = .int .i64 t ∧ t ≤ m ∧ Hid (Q.length = t) ∧ Hid (wr.ownsRow w.heap.size 9 1 v t (strs Q)) ∧ Hid (RdI R A n c T o st wr) ∧ Hid (w.grownBy wr (some R)) ∧ Hid (namesR T m s = ((namesR T (m - t) st).1, Q ++ (namesR T (m - t) st).2))) (fun _ i _ => m - (intOf i).toNat)
  case atStart => exact ⟨0, [], s, rfl, Nat.zero_le _, rfl, OW.out, H0.out, G0.out, rfl⟩
  case round =>
    obtain ⟨t, Q, st, rfl, ht, hQ, hown, hrd, hgr, heq⟩ := hrel
    obtain ⟨wE, rfl⟩ : ∃ wE : World, wE = wr := ⟨_, rfl⟩
    by_cases hlt : t < m
    · obtain ⟨A0, c0, rfl, _, _, _⟩ := rd_of_own hown.out
      go_wp2_with fail
      refine (take_any R n c A T o st 1 3 _ hrd.out hn (by decide)).mono ?_
      rintro e w1 ⟨rfl, hr1, hg1⟩
      have own1 := own_drawG hown.out hg1 lR
      have hgw := hgr.out.andThen hg1 (fun j hj => .inr hj)
      have hs1 := hgw.size
      have lr1 := hr1.cells.2.2
      have H1 := Lib.hid hr1
      have HG := Lib.hid hgw
      have HW := Lib.hid own1.lt
      clear hg1 hgw hr1
      go_wp2_with (at_builtin; refine wpList_append_rd _ rfl _ _ 24 rfl w.heap.size 9 i0 _ 1 16 Tryz.underlying24 hi hz0 hz1 hz2 rfl (by decide) _ _ _ rfl (own1.alloc _) _ 1 1 _ rfl (rd_lit1 ?c0 rfl) (one_strN _) ?c3 ?c4 ?c5 ?_)
      try (case c0 => first | rfl | simp)
      case c3 => simp only [maxLen]; omega
      case c4 => omega
      case c5 => first | omega | (simp; omega)
      intro v6 w6 own6 gr6 hat
      have hge : ∀ k, (Value.slice A0 t c0).ownBlock = some k → w.heap.size ≤ k := fun k hk => (own1.lt k hk).1
      have H6 := Lib.hid ((H1.out.below ((Below.refl _ _).alloc (Nat.le_refl _) _)).own gr6 (fun k hk => by have := hge k hk; omega))
      have G6 := Lib.hid (gr_own (gr_below HG.out ((Below.refl _ _).alloc (Nat.le_refl _) _)) gr6 hge)
      have O6 := Lib.hid own6
      clear gr6 own6 own1 hge
      go_wp2_with fail
      go_roundw
      case rel => exact ⟨t + 1, Q ++ [(takeR T st 1 3).2], (takeR T st 1 3).1, by go_num, by omega, by rw [List.length_append, hQ.out]; rfl, by rw [strs_snoc1]; exact O6.out, H6.out, G6.out, namesR_step hlt heq.out⟩
      case measure => simp [intOf]; omega
    · obtain rfl : t = m := by omega
      have HF : Hid (namesR T t s = (st, Q)) := by
        show namesR T t s = _
        rw [heq.out, Nat.sub_self]
        simp [namesR]
      obtain ⟨A0, c0, rfl, _, _, _⟩ := rd_of_own hown.out
      go_wp2_with fail
      go_ret
      rw [HF.out]
      exact ⟨A0, c0, by rw [hQ.out]; rfl, by rw [hQ.out]; exact hown.out, hrd.out, hgr.out⟩
end Go.Proofs.YthkbckkghnbonaaGreatDoor
namespace Go.Proofs.YthkbckkghnbonaaGreatDoor
open Go.RowKit
set_option linter.unusedVariables false
theorem takeR_keep {T : List Tk} {s : Rs} {k c : Int} (h : s.code ≠ 0) : (takeR T s k c).1 = s := by rw [takeR_no (fun e => h e.1)]; exact failR_1 h c
theorem takeR_code {T : List Tk} {s : Rs} {k c : Int} (h : (takeR T s k c).1.code = 0) : s.code = 0 := Classical.byContradiction fun h1 => h1 (by rw [takeR_keep h1] at h; exact h)
theorem failR_ne {s : Rs} {c : Int} (hc : c ≠ 0) : (failR s c).code ≠ 0 := by
  unfold failR
  split
  · exact hc
  · assumption
theorem takeR_ne {T : List Tk} {s : Rs} {k c : Int} (hc : c ≠ 0) (h : ¬ (s.code = 0 ∧ kindT T s.i = k)) : (takeR T s k c).1.code ≠ 0 := by rw [takeR_no h]; exact failR_ne hc
theorem bodyR_a {d : Nat} {T : List Tk} {inner : Rs → Rs × List (Tr d)} {s : Rs} (h : d = 0 ∧ s.code = 0 ∧ kindT T s.i = 3) : bodyR T inner s = ((takeR T (inner (takeR T (failR s 9) 3 7).1).1 4 8).1, (inner (takeR T (failR s 9) 3 7).1).2) := by
  unfold bodyR
  simp only [if_pos h]
theorem bodyR_b {d : Nat} {T : List Tk} {inner : Rs → Rs × List (Tr d)} {s : Rs} (h : ¬ (d = 0 ∧ s.code = 0 ∧ kindT T s.i = 3)) : bodyR T inner s = ((takeR T (inner (takeR T s 3 7).1).1 4 8).1, (inner (takeR T s 3 7).1).2) := by
  unfold bodyR
  simp only [if_neg h]
theorem gr_refl (w : World) (R : Nat) : w.grownBy w (some R) := World.grownBy.refl _ _
theorem gr_gr {w w' w'' : World} {R : Nat} (h : w.grownBy w' (some R)) (k : w'.grownBy w'' (some R)) : w.grownBy w'' (some R) := h.andThen k (fun j hj => .inr hj)
theorem trI_gr {w w' : World} {d R lo hi n : Nat} {A : Option Addr} {l : List (Tr d)} (h : TrI w d lo hi A n l) (hg : w.grownBy w' (some R)) (hR : R < lo) : TrI w' d lo hi A n l :=
  h.keep hg.size (fun b h1 _ h3 => hg.block b h3 (fun e => by injection e with e; omega))
theorem slI_gr {w w' : World} {R lo hi size n : Nat} {A : Option Addr} {xs : List Value} (h : SlI w lo hi size A n xs) (hg : w.grownBy w' (some R)) (hR : R < lo) : SlI w' lo hi size A n xs :=
  h.keep (fun b h1 _ h3 => hg.block b h3 (fun e => by injection e with e; omega)) hg.size

def RlS (R : Nat) (A : Option Addr) (n c : Nat) (T : List Tk) (d : Nat) (s : Rs) (l : List (Tr d)) (w : World) (e : Ending) (w' : World) : Prop :=
  ∃ Ab nb cb l', e = .returned (.slice Ab nb cb) ∧ (s.code = 0 → l' = l) ∧ TrI w' d w.heap.size w'.heap.size Ab nb l' ∧ RdS R A n c T s w' ∧ w.grownBy w' (some R)
def InnerS (d : Nat) : Prop := ∀ (R n c : Nat) (A : Option Addr) (T : List Tk) (s : Rs) (k : Int) (w : World), RdS R A n c T s w → n ≤ 160 → (∀ t ∈ T, wellTk t) → (d = 0 → s.code ≠ 0) → k = 5 - d →
  Calls Tryz.prog 87 #[.pointer (some ⟨R, 0, none⟩), .int .i64 k] w (RlS R A n c T d (innerR T d s).1 (innerR T d s).2 w)
def BodyS (d : Nat) : Prop := ∀ (R n c : Nat) (A : Option Addr) (T : List Tk) (s : Rs) (k : Int) (w : World), RdS R A n c T s w → n ≤ 160 → (∀ t ∈ T, wellTk t) → k = 4 - d →
  Calls Tryz.prog 165 #[.pointer (some ⟨R, 0, none⟩), .int .i64 k] w (RlS R A n c T d (bodyR T (innerR T d) s).1 (bodyR T (innerR T d) s).2 w)
set_option maxRecDepth 100000 in
set_option maxHeartbeats 1000000 in
theorem l18Body_of (d : Nat) (hd : d ≤ 4) (ih0 : InnerS d) : BodyS d := by
  intro R n c A T s k w h hn hT0 hk
  obtain ⟨⟨k0, k1, k2⟩, f1, f2, lR⟩ := h.cells
  have H := Lib.hid h
  have ih := Lib.hid ih0
  have hT := Lib.hid hT0
  have hk1 : 0 ≤ k := by omega
  have hk2 : k ≤ 4 := by omega
  have KD := Lib.hid hk
  clear h ih0 hT0 hk
  by_cases h0 : s.code = 0
  · have H0 := Lib.hid h0
    by_cases h1 : kindT T s.i = 3
    · have HK := Lib.hid h1
      by_cases h2 : d = 0
      · obtain rfl : k = 4 := by have := KD.out; omega
        have HE := Lib.hid (bodyR_a (T := T) (inner := innerR T d) (s := s) ⟨h2, h0, h1⟩)
        rw [h0] at k2
        clear h0 h1
        go_enter Tryz.func165, Tryz.ntmps165
        go_wp2_with (first | (go_at_call 85; refine (l18Kind_any R n c _ T s w H.out (by omega)).mono ?_; rintro e w' ⟨rfl, m, rfl⟩; rw [HK.out]) | (go_at_call 130; refine (l18Fail_any R n c _ T s 9 _ (H.out.drewN _)).mono ?_; rintro e w1 ⟨rfl, hr1, hg1⟩))
        have GR1 := Lib.hid (gr_gr (gr_drewN (gr_refl w R) _) hg1)
        have H1 := Lib.hid hr1
        clear hg1 hr1
        refine (l18Take_any R n c _ T _ 3 7 _ H1.out (by omega) (by decide)).mono ?_
        rintro e w2 ⟨rfl, hr2, hg2⟩
        have GR2 := Lib.hid (gr_gr GR1.out hg2)
        have H2 := Lib.hid hr2
        clear hg2 hr2
        go_wp2_with fail
        refine (ih.out R n c _ T (takeR T (failR s 9) 3 7).1 5 _ H2.out hn hT.out (fun h0 => ?_) (by have := KD.out; omega)).mono ?_
        · exact takeR_ne (by decide) (fun e => failR_ne (by decide) e.1)
        rintro e w3 ⟨Ab, nb, cb, l', rfl, hl, htr, hr3, hg3⟩
        have GR3 := Lib.hid (gr_gr GR2.out hg3)
        have hz2 := GR2.out.size
        have hz3 := hg3.size
        have HT := Lib.hid htr
        have HL := Lib.hid hl
        have H3 := Lib.hid hr3
        have lR3 := GR2.out.size
        clear hg3 hr3 htr hl
        go_wp2_with fail
        refine (l18Take_any R n c _ T _ 4 8 _ H3.out (by omega) (by decide)).mono ?_
        rintro e w4 ⟨rfl, hr4, hg4⟩
        have hz4 := hg4.size
        go_wp2_with fail
        go_ret
        rw [HE.out]
        refine ⟨Ab, nb, cb, l', rfl, fun h => HL.out (takeR_code h), ?_, hr4, gr_gr GR3.out hg4⟩
        exact (trI_gr (HT.out) hg4 (by omega)).wide (by omega) (by omega)
      · have hk4 : (k == 4) = false := by have := KD.out; simp; omega
        have HE := Lib.hid (bodyR_b (T := T) (inner := innerR T d) (s := s) (fun e => h2 e.1))
        rw [h0] at k2
        clear h0 h1
        go_enter Tryz.func165, Tryz.ntmps165
        go_wp2_with (go_at_call 85; refine (l18Kind_any R n c _ T s w H.out (by omega)).mono ?_; rintro e w' ⟨rfl, m, rfl⟩; rw [HK.out])
        have GR1 := Lib.hid (gr_drewN (gr_refl w R) m)
        have H1 := Lib.hid (H.out.drewN m)
        refine (l18Take_any R n c _ T _ 3 7 _ H1.out (by omega) (by decide)).mono ?_
        rintro e w2 ⟨rfl, hr2, hg2⟩
        have GR2 := Lib.hid (gr_gr GR1.out hg2)
        have H2 := Lib.hid hr2
        clear hg2 hr2
        go_wp2_with fail
        refine (ih.out R n c _ T (takeR T s 3 7).1 (k + 1) _ H2.out hn hT.out (fun h0 => ?_) (by have := KD.out; omega)).mono ?_
        · exact absurd h0 h2
        rintro e w3 ⟨Ab, nb, cb, l', rfl, hl, htr, hr3, hg3⟩
        have GR3 := Lib.hid (gr_gr GR2.out hg3)
        have hz2 := GR2.out.size
        have hz3 := hg3.size
        have HT := Lib.hid htr
        have HL := Lib.hid hl
        have H3 := Lib.hid hr3
        have lR3 := GR2.out.size
        clear hg3 hr3 htr hl
        go_wp2_with fail
        refine (l18Take_any R n c _ T _ 4 8 _ H3.out (by omega) (by decide)).mono ?_
        rintro e w4 ⟨rfl, hr4, hg4⟩
        have hz4 := hg4.size
        go_wp2_with fail
        go_ret
        rw [HE.out]
        refine ⟨Ab, nb, cb, l', rfl, fun h => HL.out (takeR_code h), ?_, hr4, gr_gr GR3.out hg4⟩
        exact (trI_gr (HT.out) hg4 (by omega)).wide (by omega) (by omega)
    · have e1 : (kindT T s.i == 3) = false := by simp [h1]
      have HE := Lib.hid (bodyR_b (T := T) (inner := innerR T d) (s := s) (fun e => h1 e.2.2))
      have H1N := Lib.hid h1
      rw [h0] at k2
      clear h0 h1
      go_enter Tryz.func165, Tryz.ntmps165
      go_wp2_with (go_at_call 85; refine (l18Kind_any R n c _ T s w H.out (by omega)).mono ?_; rintro e w' ⟨rfl, m, rfl⟩)
      have GR1 := Lib.hid (gr_drewN (gr_refl w R) m)
      have H1 := Lib.hid (H.out.drewN m)
      refine (l18Take_any R n c _ T _ 3 7 _ H1.out (by omega) (by decide)).mono ?_
      rintro e w2 ⟨rfl, hr2, hg2⟩
      have GR2 := Lib.hid (gr_gr GR1.out hg2)
      have H2 := Lib.hid hr2
      clear hg2 hr2
      go_wp2_with fail
      refine (ih.out R n c _ T (takeR T s 3 7).1 (k + 1) _ H2.out hn hT.out (fun h0 => ?_) (by have := KD.out; omega)).mono ?_
      · exact takeR_ne (by decide) (fun e => H1N.out e.2)
      rintro e w3 ⟨Ab, nb, cb, l', rfl, hl, htr, hr3, hg3⟩
      have GR3 := Lib.hid (gr_gr GR2.out hg3)
      have hz2 := GR2.out.size
      have hz3 := hg3.size
      have HT := Lib.hid htr
      have HL := Lib.hid hl
      have H3 := Lib.hid hr3
      have lR3 := GR2.out.size
      clear hg3 hr3 htr hl
      go_wp2_with fail
      refine (l18Take_any R n c _ T _ 4 8 _ H3.out (by omega) (by decide)).mono ?_
      rintro e w4 ⟨rfl, hr4, hg4⟩
      have hz4 := hg4.size
      go_wp2_with fail
      go_ret
      rw [HE.out]
      refine ⟨Ab, nb, cb, l', rfl, fun h => HL.out (takeR_code h), ?_, hr4, gr_gr GR3.out hg4⟩
      exact (trI_gr (HT.out) hg4 (by omega)).wide (by omega) (by omega)
  · have e0 : (s.code == 0) = false := by simp [h0]
    have HE := Lib.hid (bodyR_b (T := T) (inner := innerR T d) (s := s) (fun e => h0 e.2.1))
    have H0N := Lib.hid h0
    clear h0
    go_enter Tryz.func165, Tryz.ntmps165
    go_wp2_with fail
    have GR1 := Lib.hid (gr_refl w R)
    have H1 := Lib.hid H.out
    refine (l18Take_any R n c _ T _ 3 7 _ H1.out (by omega) (by decide)).mono ?_
    rintro e w2 ⟨rfl, hr2, hg2⟩
    have GR2 := Lib.hid (gr_gr GR1.out hg2)
    have H2 := Lib.hid hr2
    clear hg2 hr2
    go_wp2_with fail
    refine (ih.out R n c _ T (takeR T s 3 7).1 (k + 1) _ H2.out hn hT.out (fun h0 => ?_) (by have := KD.out; omega)).mono ?_
    · exact takeR_ne (by decide) (fun e => H0N.out e.1)
    rintro e w3 ⟨Ab, nb, cb, l', rfl, hl, htr, hr3, hg3⟩
    have GR3 := Lib.hid (gr_gr GR2.out hg3)
    have hz2 := GR2.out.size
    have hz3 := hg3.size
    have HT := Lib.hid htr
    have HL := Lib.hid hl
    have H3 := Lib.hid hr3
    have lR3 := GR2.out.size
    clear hg3 hr3 htr hl
    go_wp2_with fail
    refine (l18Take_any R n c _ T _ 4 8 _ H3.out (by omega) (by decide)).mono ?_
    rintro e w4 ⟨rfl, hr4, hg4⟩
    have hz4 := hg4.size
    go_wp2_with fail
    go_ret
    rw [HE.out]
    refine ⟨Ab, nb, cb, l', rfl, fun h => HL.out (takeR_code h), ?_, hr4, gr_gr GR3.out hg4⟩
    exact (trI_gr (HT.out) hg4 (by omega)).wide (by omega) (by omega)
def RlI (R : Nat) (A : Option Addr) (n c : Nat) (T : List Tk) (o : Int) (d : Nat) (s : Rs) (l : List (Tr d)) (w : World) (e : Ending) (w' : World) : Prop :=
  ∃ Ab nb cb l', e = .returned (.slice Ab nb cb) ∧ (s.code = 0 → l' = l) ∧ TrI w' d w.heap.size w'.heap.size Ab nb l' ∧ RdI R A n c T o s w' ∧ w.grownBy w' (some R)
def InnerI (d : Nat) : Prop := ∀ (B R n c : Nat) (A : Option Addr) (T : List Tk) (o : Int) (s : Rs) (w : World), RdI R A n c T o s w → LVb B w → B ≤ R → n ≤ 160 → (∀ t ∈ T, wellTk t) → (d = 0 → s.code ≠ 0) → o = 5 - d →
  Calls Tryz.prog 54 #[.pointer (some ⟨R, 0, none⟩)] w (RlI R A n c T o d (innerR T d s).1 (innerR T d s).2 w)
def BodyI (d : Nat) : Prop := ∀ (B R n c : Nat) (A : Option Addr) (T : List Tk) (o : Int) (s : Rs) (w : World), RdI R A n c T o s w → LVb B w → B ≤ R → n ≤ 160 → (∀ t ∈ T, wellTk t) → o = 4 - d →
  Calls Tryz.prog 138 #[.pointer (some ⟨R, 0, none⟩)] w (RlI R A n c T o d (bodyR T (innerR T d) s).1 (bodyR T (innerR T d) s).2 w)
set_option maxRecDepth 100000 in
set_option maxHeartbeats 1000000 in
theorem body_of (d : Nat) (hd : d ≤ 4) (ih0 : InnerI d) : BodyI d := by
  intro B R n c A T o s w h hv hBR hn hT0 hk
  obtain ⟨⟨k0, k1, ko, k2⟩, ⟨f1, f3, f2⟩, lR⟩ := h.cells
  have H := Lib.hid h
  have HV := Lib.hid hv
  have ih := Lib.hid ih0
  have hT := Lib.hid hT0
  have hk1 : 0 ≤ o := by omega
  have hk2 : o ≤ 4 := by omega
  have KD := Lib.hid hk
  clear h hv ih0 hT0 hk
  by_cases h0 : s.code = 0
  · have H0 := Lib.hid h0
    by_cases h1 : kindT T s.i = 3
    · have HK := Lib.hid h1
      by_cases h2 : d = 0
      · obtain rfl : o = 4 := by have := KD.out; omega
        have HE := Lib.hid (bodyR_a (T := T) (inner := innerR T d) (s := s) ⟨h2, h0, h1⟩)
        rw [h0] at k2
        clear h0 h1
        go_enter Tryz.func138, Tryz.ntmps138
        go_wp2_with (first | (go_at_call 108; refine (kind_any R n c _ T 4 s w H.out (by omega)).mono ?_; rintro e w' ⟨rfl, m, rfl⟩; rw [HK.out]) | (go_at_call 109; refine (fail_any R n c _ T 4 s 9 _ (H.out.drewN _)).mono ?_; rintro e w1 ⟨rfl, hr1, hg1⟩))
        have GR1 := Lib.hid (gr_gr (gr_drewN (gr_refl w R) _) hg1)
        have H1 := Lib.hid hr1
        clear hg1 hr1
        refine (take_any R n c _ T 4 _ 3 7 _ H1.out (by omega) (by decide)).mono ?_
        rintro e w2 ⟨rfl, hr2, hg2⟩
        have GR2 := Lib.hid (gr_gr GR1.out hg2)
        have H2 := Lib.hid hr2
        clear hg2 hr2
        obtain ⟨⟨a0, a1, ao, a2⟩, ⟨g1, g3, g2⟩, lR2⟩ := H2.out.cells
        have H2o := Lib.hid (H2.out.opn 5)
        have GR2o := Lib.hid (gr_gr GR2.out (gr_set (W := w2) (R := R) (j := 2) (.int .i64 5)))
        clear k0 k1 ko k2 f1 f2 f3
        go_wp2_with fail
        refine (ih.out B R n c _ T 5 (takeR T (failR s 9) 3 7).1 _ H2o.out (HV.out.grown GR2o.out (fun k hk => by injection hk with hk; omega)) hBR hn hT.out (fun h0 => ?_) (by have := KD.out; omega)).mono ?_
        · exact takeR_ne (by decide) (fun e => failR_ne (by decide) e.1)
        rintro e w3 ⟨Ab, nb, cb, l', rfl, hl, htr, hr3, hg3⟩
        have GR3 := Lib.hid (gr_gr GR2o.out hg3)
        have hz2 := GR2.out.size
        have hz2o : (w2.setCell ⟨R, 2, none⟩ (.int .i64 5)).heap.size = w2.heap.size := by rw [size_setCell]
        have hz3 := hg3.size
        have HT := Lib.hid htr
        have HL := Lib.hid hl
        have H3 := Lib.hid hr3
        have lR3 := GR2.out.size
        clear hg3 hr3 htr hl
        clear a0 a1 ao a2 g1 g2 g3 lR2
        obtain ⟨⟨a0, a1, ao, a2⟩, ⟨g1, g3, g2⟩, lR4⟩ := H3.out.cells
        have H3o := Lib.hid (H3.out.opn 4)
        have HTo := Lib.hid (trI_gr HT.out (gr_set (W := w3) (R := R) (j := 2) (.int .i64 4)) (by omega))
        have GR3o := Lib.hid (gr_gr GR3.out (gr_set (W := w3) (R := R) (j := 2) (.int .i64 4)))
        have hzo : (w3.setCell ⟨R, 2, none⟩ (.int .i64 4)).heap.size = w3.heap.size := by rw [size_setCell]
        go_wp2_with fail
        refine (take_any R n c _ T 4 _ 4 8 _ H3o.out (by omega) (by decide)).mono ?_
        rintro e w4 ⟨rfl, hr4, hg4⟩
        have hz4 := hg4.size
        go_wp2_with fail
        go_ret
        rw [HE.out]
        refine ⟨Ab, nb, cb, l', rfl, fun h => HL.out (takeR_code h), ?_, hr4, gr_gr GR3o.out hg4⟩
        exact (trI_gr (HTo.out) hg4 (by rw [size_setCell]; omega)).wide (by rw [size_setCell]; omega) (by omega)
      · have hk4 : (o == 4) = false := by have := KD.out; simp; omega
        have HE := Lib.hid (bodyR_b (T := T) (inner := innerR T d) (s := s) (fun e => h2 e.1))
        rw [h0] at k2
        clear h0 h1
        go_enter Tryz.func138, Tryz.ntmps138
        go_wp2_with (go_at_call 108; refine (kind_any R n c _ T o s w H.out (by omega)).mono ?_; rintro e w' ⟨rfl, m, rfl⟩; rw [HK.out])
        have GR1 := Lib.hid (gr_drewN (gr_refl w R) m)
        have H1 := Lib.hid (H.out.drewN m)
        refine (take_any R n c _ T o _ 3 7 _ H1.out (by omega) (by decide)).mono ?_
        rintro e w2 ⟨rfl, hr2, hg2⟩
        have GR2 := Lib.hid (gr_gr GR1.out hg2)
        have H2 := Lib.hid hr2
        clear hg2 hr2
        obtain ⟨⟨a0, a1, ao, a2⟩, ⟨g1, g3, g2⟩, lR2⟩ := H2.out.cells
        have H2o := Lib.hid (H2.out.opn (o + 1))
        have GR2o := Lib.hid (gr_gr GR2.out (gr_set (W := w2) (R := R) (j := 2) (.int .i64 (o + 1))))
        clear k0 k1 ko k2 f1 f2 f3
        go_wp2_with fail
        refine (ih.out B R n c _ T (o + 1) (takeR T s 3 7).1 _ H2o.out (HV.out.grown GR2o.out (fun k hk => by injection hk with hk; omega)) hBR hn hT.out (fun h0 => ?_) (by have := KD.out; omega)).mono ?_
        · exact absurd h0 h2
        rintro e w3 ⟨Ab, nb, cb, l', rfl, hl, htr, hr3, hg3⟩
        have GR3 := Lib.hid (gr_gr GR2o.out hg3)
        have hz2 := GR2.out.size
        have hz2o : (w2.setCell ⟨R, 2, none⟩ (.int .i64 (o + 1))).heap.size = w2.heap.size := by rw [size_setCell]
        have hz3 := hg3.size
        have HT := Lib.hid htr
        have HL := Lib.hid hl
        have H3 := Lib.hid hr3
        have lR3 := GR2.out.size
        clear hg3 hr3 htr hl
        clear a0 a1 ao a2 g1 g2 g3 lR2
        obtain ⟨⟨a0, a1, ao, a2⟩, ⟨g1, g3, g2⟩, lR4⟩ := H3.out.cells
        have H3o := Lib.hid (H3.out.opn o)
        have HTo := Lib.hid (trI_gr HT.out (gr_set (W := w3) (R := R) (j := 2) (.int .i64 o)) (by omega))
        have GR3o := Lib.hid (gr_gr GR3.out (gr_set (W := w3) (R := R) (j := 2) (.int .i64 o)))
        have hzo : (w3.setCell ⟨R, 2, none⟩ (.int .i64 o)).heap.size = w3.heap.size := by rw [size_setCell]
        go_wp2_with fail
        refine (take_any R n c _ T o _ 4 8 _ H3o.out (by omega) (by decide)).mono ?_
        rintro e w4 ⟨rfl, hr4, hg4⟩
        have hz4 := hg4.size
        go_wp2_with fail
        go_ret
        rw [HE.out]
        refine ⟨Ab, nb, cb, l', rfl, fun h => HL.out (takeR_code h), ?_, hr4, gr_gr GR3o.out hg4⟩
        exact (trI_gr (HTo.out) hg4 (by rw [size_setCell]; omega)).wide (by rw [size_setCell]; omega) (by omega)
    · have e1 : (kindT T s.i == 3) = false := by simp [h1]
      have HE := Lib.hid (bodyR_b (T := T) (inner := innerR T d) (s := s) (fun e => h1 e.2.2))
      have H1N := Lib.hid h1
      rw [h0] at k2
      clear h0 h1
      go_enter Tryz.func138, Tryz.ntmps138
      go_wp2_with (go_at_call 108; refine (kind_any R n c _ T o s w H.out (by omega)).mono ?_; rintro e w' ⟨rfl, m, rfl⟩)
      have GR1 := Lib.hid (gr_drewN (gr_refl w R) m)
      have H1 := Lib.hid (H.out.drewN m)
      refine (take_any R n c _ T o _ 3 7 _ H1.out (by omega) (by decide)).mono ?_
      rintro e w2 ⟨rfl, hr2, hg2⟩
      have GR2 := Lib.hid (gr_gr GR1.out hg2)
      have H2 := Lib.hid hr2
      clear hg2 hr2
      obtain ⟨⟨a0, a1, ao, a2⟩, ⟨g1, g3, g2⟩, lR2⟩ := H2.out.cells
      have H2o := Lib.hid (H2.out.opn (o + 1))
      have GR2o := Lib.hid (gr_gr GR2.out (gr_set (W := w2) (R := R) (j := 2) (.int .i64 (o + 1))))
      clear k0 k1 ko k2 f1 f2 f3
      go_wp2_with fail
      refine (ih.out B R n c _ T (o + 1) (takeR T s 3 7).1 _ H2o.out (HV.out.grown GR2o.out (fun k hk => by injection hk with hk; omega)) hBR hn hT.out (fun h0 => ?_) (by have := KD.out; omega)).mono ?_
      · exact takeR_ne (by decide) (fun e => H1N.out e.2)
      rintro e w3 ⟨Ab, nb, cb, l', rfl, hl, htr, hr3, hg3⟩
      have GR3 := Lib.hid (gr_gr GR2o.out hg3)
      have hz2 := GR2.out.size
      have hz2o : (w2.setCell ⟨R, 2, none⟩ (.int .i64 (o + 1))).heap.size = w2.heap.size := by rw [size_setCell]
      have hz3 := hg3.size
      have HT := Lib.hid htr
      have HL := Lib.hid hl
      have H3 := Lib.hid hr3
      have lR3 := GR2.out.size
      clear hg3 hr3 htr hl
      clear a0 a1 ao a2 g1 g2 g3 lR2
      obtain ⟨⟨a0, a1, ao, a2⟩, ⟨g1, g3, g2⟩, lR4⟩ := H3.out.cells
      have H3o := Lib.hid (H3.out.opn o)
      have HTo := Lib.hid (trI_gr HT.out (gr_set (W := w3) (R := R) (j := 2) (.int .i64 o)) (by omega))
      have GR3o := Lib.hid (gr_gr GR3.out (gr_set (W := w3) (R := R) (j := 2) (.int .i64 o)))
      have hzo : (w3.setCell ⟨R, 2, none⟩ (.int .i64 o)).heap.size = w3.heap.size := by rw [size_setCell]
      go_wp2_with fail
      refine (take_any R n c _ T o _ 4 8 _ H3o.out (by omega) (by decide)).mono ?_
      rintro e w4 ⟨rfl, hr4, hg4⟩
      have hz4 := hg4.size
      go_wp2_with fail
      go_ret
      rw [HE.out]
      refine ⟨Ab, nb, cb, l', rfl, fun h => HL.out (takeR_code h), ?_, hr4, gr_gr GR3o.out hg4⟩
      exact (trI_gr (HTo.out) hg4 (by rw [size_setCell]; omega)).wide (by rw [size_setCell]; omega) (by omega)
  · have e0 : (s.code == 0) = false := by simp [h0]
    have HE := Lib.hid (bodyR_b (T := T) (inner := innerR T d) (s := s) (fun e => h0 e.2.1))
    have H0N := Lib.hid h0
    clear h0
    go_enter Tryz.func138, Tryz.ntmps138
    go_wp2_with fail
    have GR1 := Lib.hid (gr_refl w R)
    have H1 := Lib.hid H.out
    refine (take_any R n c _ T o _ 3 7 _ H1.out (by omega) (by decide)).mono ?_
    rintro e w2 ⟨rfl, hr2, hg2⟩
    have GR2 := Lib.hid (gr_gr GR1.out hg2)
    have H2 := Lib.hid hr2
    clear hg2 hr2
    obtain ⟨⟨a0, a1, ao, a2⟩, ⟨g1, g3, g2⟩, lR2⟩ := H2.out.cells
    have H2o := Lib.hid (H2.out.opn (o + 1))
    have GR2o := Lib.hid (gr_gr GR2.out (gr_set (W := w2) (R := R) (j := 2) (.int .i64 (o + 1))))
    clear k0 k1 ko k2 f1 f2 f3
    go_wp2_with fail
    refine (ih.out B R n c _ T (o + 1) (takeR T s 3 7).1 _ H2o.out (HV.out.grown GR2o.out (fun k hk => by injection hk with hk; omega)) hBR hn hT.out (fun h0 => ?_) (by have := KD.out; omega)).mono ?_
    · exact takeR_ne (by decide) (fun e => H0N.out e.1)
    rintro e w3 ⟨Ab, nb, cb, l', rfl, hl, htr, hr3, hg3⟩
    have GR3 := Lib.hid (gr_gr GR2o.out hg3)
    have hz2 := GR2.out.size
    have hz2o : (w2.setCell ⟨R, 2, none⟩ (.int .i64 (o + 1))).heap.size = w2.heap.size := by rw [size_setCell]
    have hz3 := hg3.size
    have HT := Lib.hid htr
    have HL := Lib.hid hl
    have H3 := Lib.hid hr3
    have lR3 := GR2.out.size
    clear hg3 hr3 htr hl
    clear a0 a1 ao a2 g1 g2 g3 lR2
    obtain ⟨⟨a0, a1, ao, a2⟩, ⟨g1, g3, g2⟩, lR4⟩ := H3.out.cells
    have H3o := Lib.hid (H3.out.opn o)
    have HTo := Lib.hid (trI_gr HT.out (gr_set (W := w3) (R := R) (j := 2) (.int .i64 o)) (by omega))
    have GR3o := Lib.hid (gr_gr GR3.out (gr_set (W := w3) (R := R) (j := 2) (.int .i64 o)))
    have hzo : (w3.setCell ⟨R, 2, none⟩ (.int .i64 o)).heap.size = w3.heap.size := by rw [size_setCell]
    go_wp2_with fail
    refine (take_any R n c _ T o _ 4 8 _ H3o.out (by omega) (by decide)).mono ?_
    rintro e w4 ⟨rfl, hr4, hg4⟩
    have hz4 := hg4.size
    go_wp2_with fail
    go_ret
    rw [HE.out]
    refine ⟨Ab, nb, cb, l', rfl, fun h => HL.out (takeR_code h), ?_, hr4, gr_gr GR3o.out hg4⟩
    exact (trI_gr (HTo.out) hg4 (by rw [size_setCell]; omega)).wide (by rw [size_setCell]; omega) (by omega)
end Go.Proofs.YthkbckkghnbonaaGreatDoor
namespace Go.Proofs.YthkbckkghnbonaaGreatDoor
open Go.RowKit
set_option linter.unusedVariables false

def KwF (word : ByteArray) (k : Int) : Prop := (word.toList == [114, 101, 112, 101, 97, 116]) = decide (k = 2) ∧ (word.toList == [97, 100, 106, 111, 105, 110, 116]) = decide (k = 3) ∧ (word.toList == [99, 111, 110, 116, 114, 111, 108]) = decide (k = 4) ∧ (word.toList == [97, 110, 99, 105, 108, 108, 97]) = decide (k = 5) ∧ (word.toList == [109, 101, 97, 115, 117, 114, 101]) = decide (k = 6) ∧ (word.toList == [105, 102]) = decide (k = 7)
theorem kw_facts (word : ByteArray) : KwF word (kindW word) := by
  unfold KwF kindW
  generalize word.toList = l
  by_cases h2 : l = [114, 101, 112, 101, 97, 116]
  · subst h2
    decide
  by_cases h3 : l = [97, 100, 106, 111, 105, 110, 116]
  · subst h3
    decide
  by_cases h4 : l = [99, 111, 110, 116, 114, 111, 108]
  · subst h4
    decide
  by_cases h5 : l = [97, 110, 99, 105, 108, 108, 97]
  · subst h5
    decide
  by_cases h6 : l = [109, 101, 97, 115, 117, 114, 101]
  · subst h6
    decide
  by_cases h7 : l = [105, 102]
  · subst h7
    decide
  simp [h2, h3, h4, h5, h6, h7]
theorem kw_val (word : ByteArray) : kindW word = 1 ∨ kindW word = 2 ∨ kindW word = 3 ∨ kindW word = 4 ∨ kindW word = 5 ∨ kindW word = 6 ∨ kindW word = 7 := by
  unfold kindW
  repeat' split
  all_goals simp
theorem kw_1 {word : ByteArray} (h : kindW word = 1) : (word.toList == [114, 101, 112, 101, 97, 116]) = false ∧ (word.toList == [97, 100, 106, 111, 105, 110, 116]) = false ∧ (word.toList == [99, 111, 110, 116, 114, 111, 108]) = false ∧ (word.toList == [97, 110, 99, 105, 108, 108, 97]) = false ∧ (word.toList == [109, 101, 97, 115, 117, 114, 101]) = false ∧ (word.toList == [105, 102]) = false := by
  have := kw_facts word
  rw [h] at this
  exact this
theorem kw_2 {word : ByteArray} (h : kindW word = 2) : (word.toList == [114, 101, 112, 101, 97, 116]) = true ∧ (word.toList == [97, 100, 106, 111, 105, 110, 116]) = false ∧ (word.toList == [99, 111, 110, 116, 114, 111, 108]) = false ∧ (word.toList == [97, 110, 99, 105, 108, 108, 97]) = false ∧ (word.toList == [109, 101, 97, 115, 117, 114, 101]) = false ∧ (word.toList == [105, 102]) = false := by
  have := kw_facts word
  rw [h] at this
  exact this
theorem kw_3 {word : ByteArray} (h : kindW word = 3) : (word.toList == [114, 101, 112, 101, 97, 116]) = false ∧ (word.toList == [97, 100, 106, 111, 105, 110, 116]) = true ∧ (word.toList == [99, 111, 110, 116, 114, 111, 108]) = false ∧ (word.toList == [97, 110, 99, 105, 108, 108, 97]) = false ∧ (word.toList == [109, 101, 97, 115, 117, 114, 101]) = false ∧ (word.toList == [105, 102]) = false := by
  have := kw_facts word
  rw [h] at this
  exact this
theorem kw_4 {word : ByteArray} (h : kindW word = 4) : (word.toList == [114, 101, 112, 101, 97, 116]) = false ∧ (word.toList == [97, 100, 106, 111, 105, 110, 116]) = false ∧ (word.toList == [99, 111, 110, 116, 114, 111, 108]) = true ∧ (word.toList == [97, 110, 99, 105, 108, 108, 97]) = false ∧ (word.toList == [109, 101, 97, 115, 117, 114, 101]) = false ∧ (word.toList == [105, 102]) = false := by
  have := kw_facts word
  rw [h] at this
  exact this
theorem kw_5 {word : ByteArray} (h : kindW word = 5) : (word.toList == [114, 101, 112, 101, 97, 116]) = false ∧ (word.toList == [97, 100, 106, 111, 105, 110, 116]) = false ∧ (word.toList == [99, 111, 110, 116, 114, 111, 108]) = false ∧ (word.toList == [97, 110, 99, 105, 108, 108, 97]) = true ∧ (word.toList == [109, 101, 97, 115, 117, 114, 101]) = false ∧ (word.toList == [105, 102]) = false := by
  have := kw_facts word
  rw [h] at this
  exact this
theorem kw_6 {word : ByteArray} (h : kindW word = 6) : (word.toList == [114, 101, 112, 101, 97, 116]) = false ∧ (word.toList == [97, 100, 106, 111, 105, 110, 116]) = false ∧ (word.toList == [99, 111, 110, 116, 114, 111, 108]) = false ∧ (word.toList == [97, 110, 99, 105, 108, 108, 97]) = false ∧ (word.toList == [109, 101, 97, 115, 117, 114, 101]) = true ∧ (word.toList == [105, 102]) = false := by
  have := kw_facts word
  rw [h] at this
  exact this
theorem kw_7 {word : ByteArray} (h : kindW word = 7) : (word.toList == [114, 101, 112, 101, 97, 116]) = false ∧ (word.toList == [97, 100, 106, 111, 105, 110, 116]) = false ∧ (word.toList == [99, 111, 110, 116, 114, 111, 108]) = false ∧ (word.toList == [97, 110, 99, 105, 108, 108, 97]) = false ∧ (word.toList == [109, 101, 97, 115, 117, 114, 101]) = false ∧ (word.toList == [105, 102]) = true := by
  have := kw_facts word
  rw [h] at this
  exact this
theorem beg_2 {word : ByteArray} (h : kindW word = 2) : begW word = true := by unfold begW; rw [h]; rfl
theorem beg_3 {word : ByteArray} (h : kindW word = 3) : begW word = true := by unfold begW; rw [h]; rfl
theorem beg_4 {word : ByteArray} (h : kindW word = 4) : begW word = true := by unfold begW; rw [h]; rfl
theorem beg_5 {word : ByteArray} (h : kindW word = 5) : begW word = true := by unfold begW; rw [h]; rfl
theorem beg_6 {word : ByteArray} (h : kindW word = 6) : begW word = true := by unfold begW; rw [h]; rfl
theorem beg_7 {word : ByteArray} (h : kindW word = 7) : begW word = true := by unfold begW; rw [h]; rfl
theorem beg_1 {word : ByteArray} (h : kindW word = 1) : begW word = !(gkind word == 0) := by
  unfold begW
  rw [h]
  cases e : decide (gkind word ≠ 0)
  · have e2 : gkind word = 0 := by simpa using e
    simp [e2]
  · have e2 : gkind word ≠ 0 := by simpa using e
    simp [e2]
set_option maxRecDepth 100000 in
set_option maxHeartbeats 1000000 in
theorem begins_any (word : ByteArray) (w : World) (hG : GN w) : Calls Tryz.prog 112 #[.string word] w fun e w' => e = .returned (.bool (begW word)) ∧ w = w' := by
  have HGN := Lib.hid hG
  clear hG
  rcases kw_val word with h | h | h | h | h | h | h
  · have HB := Lib.hid (beg_1 h)
    obtain ⟨q2, q3, q4, q5, q6, q7⟩ := kw_1 h
    clear h
    go_enter Tryz.func112, Tryz.ntmps112
    go_wp2_with (go_at_call 102; refine (GateKind_impl word _ HGN.out).mono ?_; rintro e w' ⟨rfl, rfl⟩)
    go_ret
    exact ⟨by rw [HB.out]; cases gkind word <;> rfl, rfl⟩
  · have HB := Lib.hid (beg_2 h)
    obtain ⟨q2, q3, q4, q5, q6, q7⟩ := kw_2 h
    clear h
    go_enter Tryz.func112, Tryz.ntmps112
    go_wp2_with fail
    go_ret
    exact ⟨by rw [HB.out]; rfl, rfl⟩
  · have HB := Lib.hid (beg_3 h)
    obtain ⟨q2, q3, q4, q5, q6, q7⟩ := kw_3 h
    clear h
    go_enter Tryz.func112, Tryz.ntmps112
    go_wp2_with fail
    go_ret
    exact ⟨by rw [HB.out]; rfl, rfl⟩
  · have HB := Lib.hid (beg_4 h)
    obtain ⟨q2, q3, q4, q5, q6, q7⟩ := kw_4 h
    clear h
    go_enter Tryz.func112, Tryz.ntmps112
    go_wp2_with fail
    go_ret
    exact ⟨by rw [HB.out]; rfl, rfl⟩
  · have HB := Lib.hid (beg_5 h)
    obtain ⟨q2, q3, q4, q5, q6, q7⟩ := kw_5 h
    clear h
    go_enter Tryz.func112, Tryz.ntmps112
    go_wp2_with fail
    go_ret
    exact ⟨by rw [HB.out]; rfl, rfl⟩
  · have HB := Lib.hid (beg_6 h)
    obtain ⟨q2, q3, q4, q5, q6, q7⟩ := kw_6 h
    clear h
    go_enter Tryz.func112, Tryz.ntmps112
    go_wp2_with fail
    go_ret
    exact ⟨by rw [HB.out]; rfl, rfl⟩
  · have HB := Lib.hid (beg_7 h)
    obtain ⟨q2, q3, q4, q5, q6, q7⟩ := kw_7 h
    clear h
    go_enter Tryz.func112, Tryz.ntmps112
    go_wp2_with fail
    go_ret
    exact ⟨by rw [HB.out]; rfl, rfl⟩
end Go.Proofs.YthkbckkghnbonaaGreatDoor
namespace Go.Proofs.YthkbckkghnbonaaGreatDoor
open Go.RowKit
set_option linter.unusedVariables false
theorem heap_gr {w w' : World} {R X : Nat} {ob : Obj} (h : w.heap[X]? = some ob) (hg : w.grownBy w' (some R)) (hne : X ≠ R) : w'.heap[X]? = some ob := (hg.block X (lt_of_block h) (fun e => by injection e with e; exact hne e)).trans h
theorem stI_gr {w w' : World} {d R m1 m2 : Nat} {cs : List Value} {s : Tr (d + 1)} (h : StI w d m1 m2 cs s) (hg : w.grownBy w' (some R)) (hR : R < m1) : StI w' d m1 m2 cs s :=
  h.keep hg.size (fun b h1 _ h3 => hg.block b h3 (fun e => by injection e with e; omega))
theorem gr_set5 (w : World) (X : Nat) (v0 v1 v2 v3 v4 : Value) : w.grownBy (((((w.setCell ⟨X, 0, none⟩ v0).setCell ⟨X, 1, none⟩ v1).setCell ⟨X, 2, none⟩ v2).setCell ⟨X, 3, none⟩ v3).setCell ⟨X, 4, none⟩ v4) (some X) :=
  gr_gr (gr_gr (gr_gr (gr_gr (gr_set v0) (gr_set v1)) (gr_set v2)) (gr_set v3)) (gr_set v4)
/-- A block of the call's own may turn. -/
theorem gr_own2 {w w1 w2 : World} {R X : Nat} (h : w.grownBy w1 (some R)) (k : w1.grownBy w2 (some X)) (hX : w.heap.size ≤ X) : w.grownBy w2 (some R) := h.andThen k (fun j hj => .inl (by injection hj with hj; omega))
theorem stI_wide {w : World} {d m1 m2 m1' m2' : Nat} {cs : List Value} {s : Tr (d + 1)} (h : StI w d m1 m2 cs s) (h1 : m1' ≤ m1) (h2 : m2 ≤ m2') : StI w d m1' m2' cs s := by
  obtain ⟨Aa, ca, Ab, nb, cb, c, k1, ⟨k2, k3⟩, k4, k5, k6⟩ := h
  exact ⟨Aa, ca, Ab, nb, cb, c, k1, ⟨by omega, by omega⟩, k4.wide h1 (Nat.le_refl _), k5.wide (Nat.le_refl _) h2, k6⟩
theorem RdI.far {R n c X : Nat} {A : Option Addr} {T : List Tk} {o : Int} {s : Rs} {w w' : World} (h : RdI R A n c T o s w) (hg : w.grownBy w' (some X)) (hX : R < X) : RdI R A n c T o s w' := h.own hg (fun k hk => by injection hk with hk; omega)
def RsI (R : Nat) (A : Option Addr) (n c : Nat) (T : List Tk) (o : Int) (d : Nat) (s : Rs) (st : Tr (d + 1)) (w : World) (e : Ending) (w' : World) : Prop :=
  ∃ x0 x1 x2 x3 x4 st', e = .returned (.agg #[x0, x1, x2, x3, x4]) ∧ (s.code = 0 → st' = st) ∧ StI w' d w.heap.size w'.heap.size [x0, x1, x2, x3, x4] st' ∧ RdI R A n c T o s w' ∧ w.grownBy w' (some R)
def StmtI (d : Nat) : Prop := ∀ (B R n c : Nat) (A : Option Addr) (T : List Tk) (o : Int) (i : Nat) (w : World), RdI R A n c T o ⟨i, 0⟩ w → LVb B w → B ≤ R → n ≤ 160 → (∀ t ∈ T, wellTk t) → i < n → begW (textT T i) = true → o = 4 - d →
  Calls Tryz.prog 113 #[.pointer (some ⟨R, 0, none⟩), .string (textT T i)] w (RsI R A n c T o d (stmtR T (innerR T d) ⟨i, 0⟩).1 (stmtR T (innerR T d) ⟨i, 0⟩).2 w)
set_option maxRecDepth 100000 in
set_option maxHeartbeats 2000000 in
theorem statement_of (d : Nat) (hd : d ≤ 4) (hb0 : BodyI d) : StmtI d := by
  intro B R n c A T o i w h hv hBR hn hT0 hi0 hbg hk
  obtain ⟨⟨k0, k1, ko, k2⟩, ⟨f1, f3, f2⟩, lR⟩ := h.cells
  have IB := Lib.hid hb0
  have hT := Lib.hid hT0
  have KD := Lib.hid hk
  have hiT : i + 1 ≤ T.length := by have := h.l; omega
  have WD := Lib.hid (stmtR_word (T := T) (inner := innerR T d) (i := i) rfl)
  obtain ⟨word, hw⟩ : ∃ word, word = textT T i := ⟨_, rfl⟩
  rw [← hw] at WD hbg ⊢
  have HW := Lib.hid hw
  obtain ⟨w0, hw0⟩ : ∃ w0, w0 = (w.setCell ⟨R, 1, none⟩ (.int .i64 ((i : Int) + 1))).alloc (.cells #[.int .i64 0, .string ⟨#[]⟩, .slice none 0 0, .int .i64 0, .slice none 0 0] 66) := ⟨_, rfl⟩
  have GR0 : w.grownBy w0 (some R) := by rw [hw0]; exact gr_below (gr_set _) ((Below.refl _ _).alloc (Nat.le_refl _) _)
  have H0 : RdI R A n c T o ⟨i + 1, 0⟩ w0 := by rw [hw0]; exact (h.atv (i := i + 1) (v := (i : Int) + 1) hiT (by simp)).below ((Below.refl _ _).alloc (Nat.le_refl _) _)
  have X0 : w0.heap[w.heap.size]? = some (.cells #[.int .i64 0, .string ⟨#[]⟩, .slice none 0 0, .int .i64 0, .slice none 0 0] 66 (0, 0)) := by rw [hw0]; exact heap_topG (by rw [size_setCell])
  have hz0 : w.heap.size < w0.heap.size := by rw [hw0]; simp
  have V0 := Lib.hid (hv.grown GR0 (fun k hk => by injection hk with hk; omega))
  have HW0 := Lib.hid hw0
  have GR0 := Lib.hid GR0
  have H0 := Lib.hid H0
  have X0 := Lib.hid X0
  obtain ⟨X, hX⟩ : ∃ X, X = w.heap.size := ⟨_, rfl⟩
  have HX := Lib.hid hX
  rw [← hX] at X0 hz0
  have hRX : R < X := by omega
  simp only [] at k1 k2
  clear h hv hb0 hT0 hk hw hw0 hX
  rcases kw_val word with hk | hk | hk | hk | hk | hk | hk
  · obtain ⟨q2, q3, q4, q5, q6, q7⟩ := kw_1 hk
    have HE := Lib.hid (WD.out.2.2.2.1 hk)
    have har := ar_le (gkind word)
    clear hk hbg
    go_enter Tryz.func113, Tryz.ntmps113
    go_wp2_with (first | (go_at_call 102; rw [← HW0.out, ← HX.out]; refine (GateKind_impl word _ V0.out.gn').mono ?_; rintro e w' ⟨rfl, rfl⟩) | (go_at_call 101; refine (Arity_impl _ _).mono ?_; rintro e w' ⟨rfl, rfl⟩))
    obtain ⟨m, hm⟩ : ∃ m, m = ar (gkind word) := ⟨_, rfl⟩
    rw [← hm] at HE har ⊢
    clear hm
    refine (names_any R n c _ T o ⟨i + 1, 0⟩ m w0 H0.out (by omega) (by omega)).mono ?_
    rintro e w1 ⟨A1, c1, rfl, ho, hr, hg⟩
    have hql := namesR_len (T := T) m ⟨i + 1, 0⟩
    obtain ⟨Q, hQ⟩ : ∃ Q, Q = (namesR T m ⟨i + 1, 0⟩).2 := ⟨_, rfl⟩
    obtain ⟨s1, hs1⟩ : ∃ s1, s1 = (namesR T m ⟨i + 1, 0⟩).1 := ⟨_, rfl⟩
    rw [← hQ] at HE ho hql ⊢
    rw [← hs1] at HE hr
    have HQL := Lib.hid hql
    have SL := Lib.hid (slI_of_own ho)
    have hc1 : Q.length ≤ c1 := by
      obtain ⟨A9, c9, e9, h9, _⟩ := rd_of_own ho
      injection e9 with _ _ e9
      omega
    have GR1 := Lib.hid (gr_gr GR0.out hg)
    have X1 := Lib.hid (heap_gr X0.out hg (by omega))
    have V1 := Lib.hid (V0.out.grown hg (fun k hk => by injection hk with hk; omega))
    have H1 := Lib.hid hr
    have hz1 := hg.size
    clear hg hr ho hQ hs1 hql
    go_wp2_with fail
    obtain ⟨wy, hwy⟩ : ∃ wy, wy = w1.alloc (.cells #[.int .i64 1, .string word, .slice A1 Q.length c1, .int .i64 0, .slice none 0 0] 66) := ⟨_, rfl⟩
    rw [← hwy]
    have by1 : Below w1.heap.size w1 wy := by rw [hwy]; exact (Below.refl _ _).alloc (Nat.le_refl _) _
    have Y1 : wy.heap[w1.heap.size]? = some (.cells #[.int .i64 1, .string word, .slice A1 Q.length c1, .int .i64 0, .slice none 0 0] 66 (0, 0)) := by rw [hwy]; exact heap_topG rfl
    have GRy := Lib.hid (gr_below GR1.out by1)
    have Hy := Lib.hid (H1.out.below by1)
    have Xy := Lib.hid ((by1.block X (lt_of_block X1.out)).trans X1.out)
    have SLy := Lib.hid (SL.out.keep (fun b _ _ h => by1.block b h) by1.size)
    have Y1 := Lib.hid Y1
    have Vy := Lib.hid (V1.out.below (by1.mono V1.out.le))
    have hzy := by1.size
    clear hwy by1
    refine (take_any R n c _ T o s1 2 4 wy Hy.out (by omega) (by decide)).mono ?_
    rintro e w2 ⟨rfl, hr, hg⟩
    have GR2 := Lib.hid (gr_gr GRy.out hg)
    have X2 := Lib.hid (heap_gr Xy.out hg (by omega))
    have V2 := Lib.hid (Vy.out.grown hg (fun k hk => by injection hk with hk; omega))
    have H2 := Lib.hid hr
    have hz2 := hg.size
    have Y2 := Lib.hid (heap_gr Y1.out hg (by omega))
    have GRy2 := Lib.hid hg
    clear hg hr
    obtain ⟨y0, y1, y2, y3, y4⟩ := cells5G (lay := Below.refl _ _) Y2.out
    have SQ := Lib.hid (stI_mk (d := d) (h := ⟨1, word, Q, 0⟩) (Aa := A1) (ca := c1) (Ab := none) (cb := 0) (n := Q.length) (m2 := w2.heap.size) rfl hz1 (by omega) (slI_gr SLy.out GRy2.out (by omega)) trI_nil hc1)
    obtain ⟨p0, p1, p2, p3, p4⟩ := cells5G (lay := Below.refl _ _) X2.out
    have g0 := free_at (j := 0) X2.out
    have g1 := free_at (j := 1) X2.out
    have g2 := free_at (j := 2) X2.out
    have g3 := free_at (j := 3) X2.out
    have g4 := free_at (j := 4) X2.out
    have lX := lt_of_block X2.out
    go_wp2_with fail
    obtain ⟨w9, hw9⟩ : ∃ w9, w9 = ((((w2.setCell ⟨X, 0, none⟩ (.int .i64 1)).setCell ⟨X, 1, none⟩ (.string word)).setCell ⟨X, 2, none⟩ ((.slice A1 Q.length c1))).setCell ⟨X, 3, none⟩ (.int .i64 0)).setCell ⟨X, 4, none⟩ (.slice none 0 0) := ⟨_, rfl⟩
    have X9 : w9.heap[X]? = some (.cells #[.int .i64 1, .string word, (.slice A1 Q.length c1), .int .i64 0, .slice none 0 0] 66 (0, 0)) := by rw [hw9]; exact heap_set5 X2.out
    have G9 : w2.grownBy w9 (some X) := by rw [hw9]; exact gr_set5 _ _ _ _ _ _ _
    obtain ⟨r0, r1, r2, r3, r4⟩ := cells5G (lay := Below.refl _ _) X9
    have hz9 := G9.size
    rw [← hw9]
    exact bodyPost_ret (v := .agg #[.int .i64 1, .string word, (.slice A1 Q.length c1), .int .i64 0, .slice none 0 0]) (by simp [results, Tryz.results113, go_sem, r0, r1, r2, r3, r4]) rfl ⟨_, _, _, _, _, mkT ⟨1, word, Q, 0⟩ [], rfl, by rw [HE.out]; exact fun _ => rfl, stI_wide (stI_gr SQ.out G9 (by omega)) (by have := HX.out; omega) (by omega), by rw [HE.out]; exact H2.out.far G9 (by omega), gr_own2 GR2.out G9 (by have := HX.out; omega)⟩
  · obtain ⟨q2, q3, q4, q5, q6, q7⟩ := kw_2 hk
    have HE := Lib.hid (WD.out.1 hk)
    clear hk hbg
    go_enter Tryz.func113, Tryz.ntmps113
    go_wp2_with fail
    rw [← HW0.out, ← HX.out]
    refine (number_any B R n c _ T o ⟨i + 1, 0⟩ w0 H0.out V0.out hBR (by omega) hT.out).mono ?_
    rintro e w1 ⟨rfl, hr, hg⟩
    have GR1 := Lib.hid (gr_gr GR0.out hg)
    have X1 := Lib.hid (heap_gr X0.out hg (by omega))
    have V1 := Lib.hid (V0.out.grown hg (fun k hk => by injection hk with hk; omega))
    have H1 := Lib.hid hr
    have hz1 := hg.size

    clear hg hr
    obtain ⟨x, hx⟩ : ∃ x, x = (numR T ⟨i + 1, 0⟩).2 := ⟨_, rfl⟩
    rw [← hx] at HE ⊢
    clear hx
    go_wp2_with fail
    refine (IB.out B R n c _ T o (numR T ⟨i + 1, 0⟩).1 w1 H1.out V1.out hBR hn hT.out KD.out).mono ?_
    rintro e w2 ⟨Ab, nb, cb, l', rfl, hl, htr, hr, hg⟩
    have GR2 := Lib.hid (gr_gr GR1.out hg)
    have X2 := Lib.hid (heap_gr X1.out hg (by omega))
    have V2 := Lib.hid (V1.out.grown hg (fun k hk => by injection hk with hk; omega))
    have H2 := Lib.hid hr
    have hz2 := hg.size
    have HL := Lib.hid hl
    have TR := Lib.hid htr
    have GR12 := Lib.hid hg
    clear hl htr
    clear hg hr
    have SQ := Lib.hid (stI_mk (h := ⟨2, ⟨#[]⟩, [], x⟩) (Aa := none) (ca := 0) (cb := cb) (n := 0) rfl (Nat.le_refl w1.heap.size) hz2 slI_none TR.out (Nat.le_refl _))
    obtain ⟨p0, p1, p2, p3, p4⟩ := cells5G (lay := Below.refl _ _) X2.out
    have g0 := free_at (j := 0) X2.out
    have g1 := free_at (j := 1) X2.out
    have g2 := free_at (j := 2) X2.out
    have g3 := free_at (j := 3) X2.out
    have g4 := free_at (j := 4) X2.out
    have lX := lt_of_block X2.out
    go_wp2_with fail
    obtain ⟨w9, hw9⟩ : ∃ w9, w9 = ((((w2.setCell ⟨X, 0, none⟩ (.int .i64 2)).setCell ⟨X, 1, none⟩ (.string ⟨#[]⟩)).setCell ⟨X, 2, none⟩ (.slice none 0 0)).setCell ⟨X, 3, none⟩ (.int .i64 x)).setCell ⟨X, 4, none⟩ (.slice Ab nb cb) := ⟨_, rfl⟩
    have X9 : w9.heap[X]? = some (.cells #[.int .i64 2, .string ⟨#[]⟩, .slice none 0 0, .int .i64 x, .slice Ab nb cb] 66 (0, 0)) := by rw [hw9]; exact heap_set5 X2.out
    have G9 : w2.grownBy w9 (some X) := by rw [hw9]; exact gr_set5 _ _ _ _ _ _ _
    obtain ⟨r0, r1, r2, r3, r4⟩ := cells5G (lay := Below.refl _ _) X9
    have hz9 := G9.size
    rw [← hw9]
    exact bodyPost_ret (v := .agg #[.int .i64 2, .string ⟨#[]⟩, .slice none 0 0, .int .i64 x, .slice Ab nb cb]) (by simp [results, Tryz.results113, go_sem, r0, r1, r2, r3, r4]) rfl ⟨_, _, _, _, _, mkT ⟨2, ⟨#[]⟩, [], x⟩ l', rfl, by rw [HE.out]; exact fun h => by rw [HL.out h], stI_wide (stI_gr SQ.out G9 (by omega)) (by have := HX.out; omega) (by omega), by rw [HE.out]; exact H2.out.far G9 (by omega), gr_own2 GR2.out G9 (by have := HX.out; omega)⟩
  · obtain ⟨q2, q3, q4, q5, q6, q7⟩ := kw_3 hk
    have HE := Lib.hid (WD.out.2.1 hk)
    clear hk hbg
    go_enter Tryz.func113, Tryz.ntmps113
    go_wp2_with fail
    rw [← HW0.out, ← HX.out]
    refine (IB.out B R n c _ T o ⟨i + 1, 0⟩ w0 H0.out V0.out hBR hn hT.out KD.out).mono ?_
    rintro e w1 ⟨Ab, nb, cb, l', rfl, hl, htr, hr, hg⟩
    have GR1 := Lib.hid (gr_gr GR0.out hg)
    have X1 := Lib.hid (heap_gr X0.out hg (by omega))
    have V1 := Lib.hid (V0.out.grown hg (fun k hk => by injection hk with hk; omega))
    have H1 := Lib.hid hr
    have hz1 := hg.size
    have HL := Lib.hid hl
    have TR := Lib.hid htr
    have GR12 := Lib.hid hg
    clear hl htr
    clear hg hr
    have SQ := Lib.hid (stI_mk (h := ⟨3, ⟨#[]⟩, [], 0⟩) (Aa := none) (ca := 0) (cb := cb) (n := 0) rfl (Nat.le_refl w0.heap.size) hz1 slI_none TR.out (Nat.le_refl _))
    obtain ⟨p0, p1, p2, p3, p4⟩ := cells5G (lay := Below.refl _ _) X1.out
    have g0 := free_at (j := 0) X1.out
    have g1 := free_at (j := 1) X1.out
    have g2 := free_at (j := 2) X1.out
    have g3 := free_at (j := 3) X1.out
    have g4 := free_at (j := 4) X1.out
    have lX := lt_of_block X1.out
    go_wp2_with fail
    obtain ⟨w9, hw9⟩ : ∃ w9, w9 = ((((w1.setCell ⟨X, 0, none⟩ (.int .i64 3)).setCell ⟨X, 1, none⟩ (.string ⟨#[]⟩)).setCell ⟨X, 2, none⟩ (.slice none 0 0)).setCell ⟨X, 3, none⟩ (.int .i64 0)).setCell ⟨X, 4, none⟩ (.slice Ab nb cb) := ⟨_, rfl⟩
    have X9 : w9.heap[X]? = some (.cells #[.int .i64 3, .string ⟨#[]⟩, .slice none 0 0, .int .i64 0, .slice Ab nb cb] 66 (0, 0)) := by rw [hw9]; exact heap_set5 X1.out
    have G9 : w1.grownBy w9 (some X) := by rw [hw9]; exact gr_set5 _ _ _ _ _ _ _
    obtain ⟨r0, r1, r2, r3, r4⟩ := cells5G (lay := Below.refl _ _) X9
    have hz9 := G9.size
    rw [← hw9]
    exact bodyPost_ret (v := .agg #[.int .i64 3, .string ⟨#[]⟩, .slice none 0 0, .int .i64 0, .slice Ab nb cb]) (by simp [results, Tryz.results113, go_sem, r0, r1, r2, r3, r4]) rfl ⟨_, _, _, _, _, mkT ⟨3, ⟨#[]⟩, [], 0⟩ l', rfl, by rw [HE.out]; exact fun h => by rw [HL.out h], stI_wide (stI_gr SQ.out G9 (by omega)) (by have := HX.out; omega) (by omega), by rw [HE.out]; exact H1.out.far G9 (by omega), gr_own2 GR1.out G9 (by have := HX.out; omega)⟩
  · obtain ⟨q2, q3, q4, q5, q6, q7⟩ := kw_4 hk
    have HE := Lib.hid (WD.out.2.2.2.2 4 (by decide) hk)
    clear hk hbg
    go_enter Tryz.func113, Tryz.ntmps113
    go_wp2_with fail
    rw [← HW0.out, ← HX.out]
    refine (names_any R n c _ T o ⟨i + 1, 0⟩ 1 w0 H0.out (by omega) (by omega)).mono ?_
    rintro e w1 ⟨A1, c1, rfl, ho, hr, hg⟩
    have hql := namesR_len (T := T) 1 ⟨i + 1, 0⟩
    obtain ⟨Q, hQ⟩ : ∃ Q, Q = (namesR T 1 ⟨i + 1, 0⟩).2 := ⟨_, rfl⟩
    obtain ⟨s1, hs1⟩ : ∃ s1, s1 = (namesR T 1 ⟨i + 1, 0⟩).1 := ⟨_, rfl⟩
    rw [← hQ] at HE ho hql ⊢
    rw [← hs1] at HE hr
    have HQL := Lib.hid hql
    have SL := Lib.hid (slI_of_own ho)
    have hc1 : Q.length ≤ c1 := by
      obtain ⟨A9, c9, e9, h9, _⟩ := rd_of_own ho
      injection e9 with _ _ e9
      omega
    have GR1 := Lib.hid (gr_gr GR0.out hg)
    have X1 := Lib.hid (heap_gr X0.out hg (by omega))
    have V1 := Lib.hid (V0.out.grown hg (fun k hk => by injection hk with hk; omega))
    have H1 := Lib.hid hr
    have hz1 := hg.size
    clear hg hr ho hQ hs1 hql
    go_wp2_with fail
    refine (IB.out B R n c _ T o s1 w1 H1.out V1.out hBR hn hT.out KD.out).mono ?_
    rintro e w2 ⟨Ab, nb, cb, l', rfl, hl, htr, hr, hg⟩
    have GR2 := Lib.hid (gr_gr GR1.out hg)
    have X2 := Lib.hid (heap_gr X1.out hg (by omega))
    have V2 := Lib.hid (V1.out.grown hg (fun k hk => by injection hk with hk; omega))
    have H2 := Lib.hid hr
    have hz2 := hg.size
    have HL := Lib.hid hl
    have TR := Lib.hid htr
    have GR12 := Lib.hid hg
    clear hl htr
    clear hg hr
    have SQ := Lib.hid (stI_mk (h := ⟨4, ⟨#[]⟩, Q, 0⟩) (Aa := A1) (ca := c1) (cb := cb) (n := Q.length) rfl hz1 hz2 (slI_gr SL.out GR12.out (by omega)) TR.out hc1)
    obtain ⟨p0, p1, p2, p3, p4⟩ := cells5G (lay := Below.refl _ _) X2.out
    have g0 := free_at (j := 0) X2.out
    have g1 := free_at (j := 1) X2.out
    have g2 := free_at (j := 2) X2.out
    have g3 := free_at (j := 3) X2.out
    have g4 := free_at (j := 4) X2.out
    have lX := lt_of_block X2.out
    go_wp2_with fail
    obtain ⟨w9, hw9⟩ : ∃ w9, w9 = ((((w2.setCell ⟨X, 0, none⟩ (.int .i64 4)).setCell ⟨X, 1, none⟩ (.string ⟨#[]⟩)).setCell ⟨X, 2, none⟩ ((.slice A1 Q.length c1))).setCell ⟨X, 3, none⟩ (.int .i64 0)).setCell ⟨X, 4, none⟩ (.slice Ab nb cb) := ⟨_, rfl⟩
    have X9 : w9.heap[X]? = some (.cells #[.int .i64 4, .string ⟨#[]⟩, (.slice A1 Q.length c1), .int .i64 0, .slice Ab nb cb] 66 (0, 0)) := by rw [hw9]; exact heap_set5 X2.out
    have G9 : w2.grownBy w9 (some X) := by rw [hw9]; exact gr_set5 _ _ _ _ _ _ _
    obtain ⟨r0, r1, r2, r3, r4⟩ := cells5G (lay := Below.refl _ _) X9
    have hz9 := G9.size
    rw [← hw9]
    exact bodyPost_ret (v := .agg #[.int .i64 4, .string ⟨#[]⟩, (.slice A1 Q.length c1), .int .i64 0, .slice Ab nb cb]) (by simp [results, Tryz.results113, go_sem, r0, r1, r2, r3, r4]) rfl ⟨_, _, _, _, _, mkT ⟨4, ⟨#[]⟩, Q, 0⟩ l', rfl, by rw [HE.out]; exact fun h => by rw [HL.out h], stI_wide (stI_gr SQ.out G9 (by omega)) (by have := HX.out; omega) (by omega), by rw [HE.out]; exact H2.out.far G9 (by omega), gr_own2 GR2.out G9 (by have := HX.out; omega)⟩
  · obtain ⟨q2, q3, q4, q5, q6, q7⟩ := kw_5 hk
    have HE := Lib.hid (WD.out.2.2.2.2 5 (by decide) hk)
    clear hk hbg
    go_enter Tryz.func113, Tryz.ntmps113
    go_wp2_with fail
    rw [← HW0.out, ← HX.out]
    refine (names_any R n c _ T o ⟨i + 1, 0⟩ 1 w0 H0.out (by omega) (by omega)).mono ?_
    rintro e w1 ⟨A1, c1, rfl, ho, hr, hg⟩
    have hql := namesR_len (T := T) 1 ⟨i + 1, 0⟩
    obtain ⟨Q, hQ⟩ : ∃ Q, Q = (namesR T 1 ⟨i + 1, 0⟩).2 := ⟨_, rfl⟩
    obtain ⟨s1, hs1⟩ : ∃ s1, s1 = (namesR T 1 ⟨i + 1, 0⟩).1 := ⟨_, rfl⟩
    rw [← hQ] at HE ho hql ⊢
    rw [← hs1] at HE hr
    have HQL := Lib.hid hql
    have SL := Lib.hid (slI_of_own ho)
    have hc1 : Q.length ≤ c1 := by
      obtain ⟨A9, c9, e9, h9, _⟩ := rd_of_own ho
      injection e9 with _ _ e9
      omega
    have GR1 := Lib.hid (gr_gr GR0.out hg)
    have X1 := Lib.hid (heap_gr X0.out hg (by omega))
    have V1 := Lib.hid (V0.out.grown hg (fun k hk => by injection hk with hk; omega))
    have H1 := Lib.hid hr
    have hz1 := hg.size
    clear hg hr ho hQ hs1 hql
    go_wp2_with fail
    refine (IB.out B R n c _ T o s1 w1 H1.out V1.out hBR hn hT.out KD.out).mono ?_
    rintro e w2 ⟨Ab, nb, cb, l', rfl, hl, htr, hr, hg⟩
    have GR2 := Lib.hid (gr_gr GR1.out hg)
    have X2 := Lib.hid (heap_gr X1.out hg (by omega))
    have V2 := Lib.hid (V1.out.grown hg (fun k hk => by injection hk with hk; omega))
    have H2 := Lib.hid hr
    have hz2 := hg.size
    have HL := Lib.hid hl
    have TR := Lib.hid htr
    have GR12 := Lib.hid hg
    clear hl htr
    clear hg hr
    have SQ := Lib.hid (stI_mk (h := ⟨5, ⟨#[]⟩, Q, 0⟩) (Aa := A1) (ca := c1) (cb := cb) (n := Q.length) rfl hz1 hz2 (slI_gr SL.out GR12.out (by omega)) TR.out hc1)
    obtain ⟨p0, p1, p2, p3, p4⟩ := cells5G (lay := Below.refl _ _) X2.out
    have g0 := free_at (j := 0) X2.out
    have g1 := free_at (j := 1) X2.out
    have g2 := free_at (j := 2) X2.out
    have g3 := free_at (j := 3) X2.out
    have g4 := free_at (j := 4) X2.out
    have lX := lt_of_block X2.out
    go_wp2_with fail
    obtain ⟨w9, hw9⟩ : ∃ w9, w9 = ((((w2.setCell ⟨X, 0, none⟩ (.int .i64 5)).setCell ⟨X, 1, none⟩ (.string ⟨#[]⟩)).setCell ⟨X, 2, none⟩ ((.slice A1 Q.length c1))).setCell ⟨X, 3, none⟩ (.int .i64 0)).setCell ⟨X, 4, none⟩ (.slice Ab nb cb) := ⟨_, rfl⟩
    have X9 : w9.heap[X]? = some (.cells #[.int .i64 5, .string ⟨#[]⟩, (.slice A1 Q.length c1), .int .i64 0, .slice Ab nb cb] 66 (0, 0)) := by rw [hw9]; exact heap_set5 X2.out
    have G9 : w2.grownBy w9 (some X) := by rw [hw9]; exact gr_set5 _ _ _ _ _ _ _
    obtain ⟨r0, r1, r2, r3, r4⟩ := cells5G (lay := Below.refl _ _) X9
    have hz9 := G9.size
    rw [← hw9]
    exact bodyPost_ret (v := .agg #[.int .i64 5, .string ⟨#[]⟩, (.slice A1 Q.length c1), .int .i64 0, .slice Ab nb cb]) (by simp [results, Tryz.results113, go_sem, r0, r1, r2, r3, r4]) rfl ⟨_, _, _, _, _, mkT ⟨5, ⟨#[]⟩, Q, 0⟩ l', rfl, by rw [HE.out]; exact fun h => by rw [HL.out h], stI_wide (stI_gr SQ.out G9 (by omega)) (by have := HX.out; omega) (by omega), by rw [HE.out]; exact H2.out.far G9 (by omega), gr_own2 GR2.out G9 (by have := HX.out; omega)⟩
  · obtain ⟨q2, q3, q4, q5, q6, q7⟩ := kw_6 hk
    have HE := Lib.hid (WD.out.2.2.1 hk)
    clear hk hbg
    go_enter Tryz.func113, Tryz.ntmps113
    go_wp2_with fail
    rw [← HW0.out, ← HX.out]
    refine (names_any R n c _ T o ⟨i + 1, 0⟩ 2 w0 H0.out (by omega) (by omega)).mono ?_
    rintro e w1 ⟨A1, c1, rfl, ho, hr, hg⟩
    have hql := namesR_len (T := T) 2 ⟨i + 1, 0⟩
    obtain ⟨Q, hQ⟩ : ∃ Q, Q = (namesR T 2 ⟨i + 1, 0⟩).2 := ⟨_, rfl⟩
    obtain ⟨s1, hs1⟩ : ∃ s1, s1 = (namesR T 2 ⟨i + 1, 0⟩).1 := ⟨_, rfl⟩
    rw [← hQ] at HE ho hql ⊢
    rw [← hs1] at HE hr
    have HQL := Lib.hid hql
    have SL := Lib.hid (slI_of_own ho)
    have hc1 : Q.length ≤ c1 := by
      obtain ⟨A9, c9, e9, h9, _⟩ := rd_of_own ho
      injection e9 with _ _ e9
      omega
    have GR1 := Lib.hid (gr_gr GR0.out hg)
    have X1 := Lib.hid (heap_gr X0.out hg (by omega))
    have V1 := Lib.hid (V0.out.grown hg (fun k hk => by injection hk with hk; omega))
    have H1 := Lib.hid hr
    have hz1 := hg.size
    clear hg hr ho hQ hs1 hql
    go_wp2_with fail
    obtain ⟨wy, hwy⟩ : ∃ wy, wy = w1.alloc (.cells #[.int .i64 6, .string ⟨#[]⟩, .slice A1 Q.length c1, .int .i64 0, .slice none 0 0] 66) := ⟨_, rfl⟩
    rw [← hwy]
    have by1 : Below w1.heap.size w1 wy := by rw [hwy]; exact (Below.refl _ _).alloc (Nat.le_refl _) _
    have Y1 : wy.heap[w1.heap.size]? = some (.cells #[.int .i64 6, .string ⟨#[]⟩, .slice A1 Q.length c1, .int .i64 0, .slice none 0 0] 66 (0, 0)) := by rw [hwy]; exact heap_topG rfl
    have GRy := Lib.hid (gr_below GR1.out by1)
    have Hy := Lib.hid (H1.out.below by1)
    have Xy := Lib.hid ((by1.block X (lt_of_block X1.out)).trans X1.out)
    have SLy := Lib.hid (SL.out.keep (fun b _ _ h => by1.block b h) by1.size)
    have Y1 := Lib.hid Y1
    have Vy := Lib.hid (V1.out.below (by1.mono V1.out.le))
    have hzy := by1.size
    clear hwy by1
    refine (take_any R n c _ T o s1 2 4 wy Hy.out (by omega) (by decide)).mono ?_
    rintro e w2 ⟨rfl, hr, hg⟩
    have GR2 := Lib.hid (gr_gr GRy.out hg)
    have X2 := Lib.hid (heap_gr Xy.out hg (by omega))
    have V2 := Lib.hid (Vy.out.grown hg (fun k hk => by injection hk with hk; omega))
    have H2 := Lib.hid hr
    have hz2 := hg.size
    have Y2 := Lib.hid (heap_gr Y1.out hg (by omega))
    have GRy2 := Lib.hid hg
    clear hg hr
    obtain ⟨y0, y1, y2, y3, y4⟩ := cells5G (lay := Below.refl _ _) Y2.out
    have SQ := Lib.hid (stI_mk (d := d) (h := ⟨6, ⟨#[]⟩, Q, 0⟩) (Aa := A1) (ca := c1) (Ab := none) (cb := 0) (n := Q.length) (m2 := w2.heap.size) rfl hz1 (by omega) (slI_gr SLy.out GRy2.out (by omega)) trI_nil hc1)
    obtain ⟨p0, p1, p2, p3, p4⟩ := cells5G (lay := Below.refl _ _) X2.out
    have g0 := free_at (j := 0) X2.out
    have g1 := free_at (j := 1) X2.out
    have g2 := free_at (j := 2) X2.out
    have g3 := free_at (j := 3) X2.out
    have g4 := free_at (j := 4) X2.out
    have lX := lt_of_block X2.out
    go_wp2_with fail
    obtain ⟨w9, hw9⟩ : ∃ w9, w9 = ((((w2.setCell ⟨X, 0, none⟩ (.int .i64 6)).setCell ⟨X, 1, none⟩ (.string ⟨#[]⟩)).setCell ⟨X, 2, none⟩ ((.slice A1 Q.length c1))).setCell ⟨X, 3, none⟩ (.int .i64 0)).setCell ⟨X, 4, none⟩ (.slice none 0 0) := ⟨_, rfl⟩
    have X9 : w9.heap[X]? = some (.cells #[.int .i64 6, .string ⟨#[]⟩, (.slice A1 Q.length c1), .int .i64 0, .slice none 0 0] 66 (0, 0)) := by rw [hw9]; exact heap_set5 X2.out
    have G9 : w2.grownBy w9 (some X) := by rw [hw9]; exact gr_set5 _ _ _ _ _ _ _
    obtain ⟨r0, r1, r2, r3, r4⟩ := cells5G (lay := Below.refl _ _) X9
    have hz9 := G9.size
    rw [← hw9]
    exact bodyPost_ret (v := .agg #[.int .i64 6, .string ⟨#[]⟩, (.slice A1 Q.length c1), .int .i64 0, .slice none 0 0]) (by simp [results, Tryz.results113, go_sem, r0, r1, r2, r3, r4]) rfl ⟨_, _, _, _, _, mkT ⟨6, ⟨#[]⟩, Q, 0⟩ [], rfl, by rw [HE.out]; exact fun _ => rfl, stI_wide (stI_gr SQ.out G9 (by omega)) (by have := HX.out; omega) (by omega), by rw [HE.out]; exact H2.out.far G9 (by omega), gr_own2 GR2.out G9 (by have := HX.out; omega)⟩
  · obtain ⟨q2, q3, q4, q5, q6, q7⟩ := kw_7 hk
    have HE := Lib.hid (WD.out.2.2.2.2 7 (by decide) hk)
    clear hk hbg
    go_enter Tryz.func113, Tryz.ntmps113
    go_wp2_with fail
    rw [← HW0.out, ← HX.out]
    refine (names_any R n c _ T o ⟨i + 1, 0⟩ 1 w0 H0.out (by omega) (by omega)).mono ?_
    rintro e w1 ⟨A1, c1, rfl, ho, hr, hg⟩
    have hql := namesR_len (T := T) 1 ⟨i + 1, 0⟩
    obtain ⟨Q, hQ⟩ : ∃ Q, Q = (namesR T 1 ⟨i + 1, 0⟩).2 := ⟨_, rfl⟩
    obtain ⟨s1, hs1⟩ : ∃ s1, s1 = (namesR T 1 ⟨i + 1, 0⟩).1 := ⟨_, rfl⟩
    rw [← hQ] at HE ho hql ⊢
    rw [← hs1] at HE hr
    have HQL := Lib.hid hql
    have SL := Lib.hid (slI_of_own ho)
    have hc1 : Q.length ≤ c1 := by
      obtain ⟨A9, c9, e9, h9, _⟩ := rd_of_own ho
      injection e9 with _ _ e9
      omega
    have GR1 := Lib.hid (gr_gr GR0.out hg)
    have X1 := Lib.hid (heap_gr X0.out hg (by omega))
    have V1 := Lib.hid (V0.out.grown hg (fun k hk => by injection hk with hk; omega))
    have H1 := Lib.hid hr
    have hz1 := hg.size
    clear hg hr ho hQ hs1 hql
    go_wp2_with fail
    refine (IB.out B R n c _ T o s1 w1 H1.out V1.out hBR hn hT.out KD.out).mono ?_
    rintro e w2 ⟨Ab, nb, cb, l', rfl, hl, htr, hr, hg⟩
    have GR2 := Lib.hid (gr_gr GR1.out hg)
    have X2 := Lib.hid (heap_gr X1.out hg (by omega))
    have V2 := Lib.hid (V1.out.grown hg (fun k hk => by injection hk with hk; omega))
    have H2 := Lib.hid hr
    have hz2 := hg.size
    have HL := Lib.hid hl
    have TR := Lib.hid htr
    have GR12 := Lib.hid hg
    clear hl htr
    clear hg hr
    have SQ := Lib.hid (stI_mk (h := ⟨7, ⟨#[]⟩, Q, 0⟩) (Aa := A1) (ca := c1) (cb := cb) (n := Q.length) rfl hz1 hz2 (slI_gr SL.out GR12.out (by omega)) TR.out hc1)
    obtain ⟨p0, p1, p2, p3, p4⟩ := cells5G (lay := Below.refl _ _) X2.out
    have g0 := free_at (j := 0) X2.out
    have g1 := free_at (j := 1) X2.out
    have g2 := free_at (j := 2) X2.out
    have g3 := free_at (j := 3) X2.out
    have g4 := free_at (j := 4) X2.out
    have lX := lt_of_block X2.out
    go_wp2_with fail
    obtain ⟨w9, hw9⟩ : ∃ w9, w9 = ((((w2.setCell ⟨X, 0, none⟩ (.int .i64 7)).setCell ⟨X, 1, none⟩ (.string ⟨#[]⟩)).setCell ⟨X, 2, none⟩ ((.slice A1 Q.length c1))).setCell ⟨X, 3, none⟩ (.int .i64 0)).setCell ⟨X, 4, none⟩ (.slice Ab nb cb) := ⟨_, rfl⟩
    have X9 : w9.heap[X]? = some (.cells #[.int .i64 7, .string ⟨#[]⟩, (.slice A1 Q.length c1), .int .i64 0, .slice Ab nb cb] 66 (0, 0)) := by rw [hw9]; exact heap_set5 X2.out
    have G9 : w2.grownBy w9 (some X) := by rw [hw9]; exact gr_set5 _ _ _ _ _ _ _
    obtain ⟨r0, r1, r2, r3, r4⟩ := cells5G (lay := Below.refl _ _) X9
    have hz9 := G9.size
    rw [← hw9]
    exact bodyPost_ret (v := .agg #[.int .i64 7, .string ⟨#[]⟩, (.slice A1 Q.length c1), .int .i64 0, .slice Ab nb cb]) (by simp [results, Tryz.results113, go_sem, r0, r1, r2, r3, r4]) rfl ⟨_, _, _, _, _, mkT ⟨7, ⟨#[]⟩, Q, 0⟩ l', rfl, by rw [HE.out]; exact fun h => by rw [HL.out h], stI_wide (stI_gr SQ.out G9 (by omega)) (by have := HX.out; omega) (by omega), by rw [HE.out]; exact H2.out.far G9 (by omega), gr_own2 GR2.out G9 (by have := HX.out; omega)⟩
end Go.Proofs.YthkbckkghnbonaaGreatDoor
namespace Go.Proofs.YthkbckkghnbonaaGreatDoor
open Go.RowKit
set_option linter.unusedVariables false
/-- The whole list of statements, read from s on with f rounds. -/
def Lp (T : List Tk) (e f : Nat) (s : Rs) : Rs × List (Tr (e + 1)) := loopR T (decide (e = 4)) (stmtR T (innerR T e)) f s
/-- So much has been read (l, to the state st), f rounds are left. -/
def EqL (T : List Tk) (e : Nat) (s0 : Rs) (f : Nat) (st : Rs) (l : List (Tr (e + 1))) : Prop :=
  (st.code = 0 → T.length + 1 ≤ f + st.i) ∧ (Lp T e (T.length + 1) s0).1 = (Lp T e f st).1 ∧ ((Lp T e (T.length + 1) s0).1.code = 0 → (Lp T e (T.length + 1) s0).2 = l ++ (Lp T e f st).2)
section
variable {T : List Tk} {e f : Nat} {s0 st : Rs} {l : List (Tr (e + 1))}
theorem eqL_start : EqL T e s0 (T.length + 1) s0 [] := ⟨fun _ => Nat.le_add_right _ _, rfl, fun _ => rfl⟩
theorem eqL_end (h : EqL T e s0 f st l) (hx : st.code ≠ 0 ∨ T.length ≤ st.i ∨ (kindT T st.i = 4 ∧ e ≠ 4)) : (Lp T e (T.length + 1) s0).1 = st ∧ (st.code = 0 → l = (Lp T e (T.length + 1) s0).2) := by
  have e1 : Lp T e f st = (st, []) := by
    unfold Lp
    rcases hx with hx | hx | hx
    · exact loopR_code hx
    · exact loopR_end (.inl hx)
    · exact loopR_end (.inr ⟨hx.1, decide_eq_false hx.2⟩)
  have e2 : (Lp T e (T.length + 1) s0).1 = st := by rw [h.2.1, e1]
  refine ⟨e2, fun h0 => ?_⟩
  have := h.2.2 (by rw [e2]; exact h0)
  rw [e1] at this
  simpa using this.symm
theorem eqL_bad (l' : List (Tr (e + 1))) (h : EqL T e s0 f st l) (h0 : st.code = 0) (h1 : st.i < T.length) (h2 : ¬ (kindT T st.i = 4 ∧ e ≠ 4)) (h3 : ¬ (kindT T st.i = 1 ∧ begW (textT T st.i) = true)) : EqL T e s0 0 ⟨st.i, 5⟩ l' := by
  obtain ⟨g, rfl⟩ : ∃ g, f = g + 1 := ⟨f - 1, by have := h.1 h0; omega⟩
  have e1 : Lp T e (g + 1) st = (⟨st.i, 5⟩, []) := loopR_bad h0 h1 (fun hh => h2 ⟨hh.1, by have := hh.2; simpa using this⟩) h3
  have e2 : (Lp T e (T.length + 1) s0).1 = ⟨st.i, 5⟩ := by rw [h.2.1, e1]
  exact ⟨fun h => absurd (show (5 : Int) = 0 from h) (by decide), e2, fun h => absurd (show (5 : Int) = 0 by rw [e2] at h; exact h) (by decide)⟩
theorem eqL_step {st2 : Tr (e + 1)} (h : EqL T e s0 f st l) (h0 : st.code = 0) (h1 : st.i < T.length) (h2 : kindT T st.i = 1) (h3 : begW (textT T st.i) = true) (h4 : (stmtR T (innerR T e) st).1.code = 0 → st2 = (stmtR T (innerR T e) st).2) :
    ∃ g, EqL T e s0 g (stmtR T (innerR T e) st).1 (l ++ [st2]) := by
  obtain ⟨g, rfl⟩ : ∃ g, f = g + 1 := ⟨f - 1, by have := h.1 h0; omega⟩
  have e1 : Lp T e (g + 1) st = ((Lp T e g (stmtR T (innerR T e) st).1).1, (stmtR T (innerR T e) st).2 :: (Lp T e g (stmtR T (innerR T e) st).1).2) := loopR_step h0 h1 h2 h3
  have hi := (stmtR_goes (innerR_goes (T := T) e) h1).1
  refine ⟨g, fun _ => by have := h.1 h0; omega, by rw [h.2.1, e1], fun hc => ?_⟩
  have hc2 : (stmtR T (innerR T e) st).1.code = 0 := by
    refine Classical.byContradiction fun hne => ?_
    have e3 : Lp T e g (stmtR T (innerR T e) st).1 = ((stmtR T (innerR T e) st).1, []) := loopR_code hne
    rw [h.2.1, e1, e3] at hc
    exact hne hc
  have := h.2.2 hc
  rw [e1] at this
  rw [this, h4 hc2]
  simp
end
def msr (n : Nat) (st : Rs) : Nat := 2 * (n - st.i) + (if st.code = 0 then 1 else 0)
theorem msr_fail {n : Nat} {st : Rs} (h : st.code = 0) : msr n ⟨st.i, 5⟩ < msr n st := by
  have e1 : msr n ⟨st.i, 5⟩ = 2 * (n - st.i) + 0 := rfl
  unfold msr at e1 ⊢
  rw [e1, if_pos h]
  omega
theorem msr_step {n : Nat} {st st2 : Rs} (h : st.i + 1 ≤ st2.i) (h1 : st.i < n) : msr n st2 < msr n st := by
  unfold msr
  split <;> split <;> omega
end Go.Proofs.YthkbckkghnbonaaGreatDoor
namespace Go.Proofs.YthkbckkghnbonaaGreatDoor
open Go.RowKit
set_option linter.unusedVariables false
theorem lvb_drewN {B : Nat} {w : World} (h : LVb B w) (k : Nat) : LVb B (w.drewN k) := h.below (below_drewN (Below.refl _ _) k)
theorem lvb_drew {B : Nat} {w : World} (h : LVb B w) : LVb B w.drew := h.below ⟨rfl, rfl, rfl, Nat.le_refl _, fun _ _ => rfl⟩
theorem ownI_drewN {w : World} {base hi d : Nat} {v : Value} {l : List (Tr (d + 1))} (h : OwnI w base hi d v l) (k : Nat) : OwnI (w.drewN k) base hi d v l := h.below (below_drewN (Below.refl _ _) k)
theorem rdI_drew {R n c : Nat} {A : Option Addr} {T : List Tk} {o : Int} {s : Rs} {W : World} (h : RdI R A n c T o s W) : RdI R A n c T o s W.drew := ⟨h.x, h.t, h.l, h.i⟩
theorem rlI_end {R n c hi e c0 : Nat} {A A0 : Option Addr} {T : List Tk} {o : Int} {s0 st : Rs} {l L : List (Tr (e + 1))} {w wr : World} (hE : s0 = st ∧ (st.code = 0 → l = L)) (hown : OwnI wr w.heap.size hi e (.slice A0 l.length c0) l) (hrd : RdI R A n c T o st wr) (hgr : w.grownBy wr (some R)) (q : Nat) :
    RlI R A n c T o (e + 1) s0 L w (.returned (.slice A0 l.length c0)) (wr.drewN q) := by
  rw [hE.1]
  exact ⟨A0, l.length, c0, l, rfl, hE.2, TrI.keep (w := wr) (w' := wr.drewN q) (Nat.le_refl _) (hown.tr rfl) (fun _ _ _ _ => rfl), hrd.drewN q, gr_drewN hgr q⟩
def StmtsI (e : Nat) : Prop := ∀ (B R n c : Nat) (A : Option Addr) (T : List Tk) (o : Int) (s : Rs) (w : World), RdI R A n c T o s w → LVb B w → B ≤ R → n ≤ 160 → (∀ t ∈ T, wellTk t) → o = 4 - e →
  Calls Tryz.prog 54 #[.pointer (some ⟨R, 0, none⟩)] w (RlI R A n c T o (e + 1) (Lp T e (T.length + 1) s).1 (Lp T e (T.length + 1) s).2 w)
set_option maxRecDepth 100000 in
set_option maxHeartbeats 4000000 in
theorem statements_of (e : Nat) (he : e ≤ 4) (hs0 : StmtI e) : StmtsI e := by
  intro B R n c A T o s w h hv hBR hn hT0 hk
  obtain ⟨i0, hi, hz0, hz1, hz2⟩ := info_parts info_Stmt
  have hnT := h.l
  have lR := h.cells.2.2
  have hsi := h.i
  have H := Lib.hid h
  have HV := Lib.hid hv
  have IS := Lib.hid hs0
  have hT := Lib.hid hT0
  have KD := Lib.hid hk
  have hk1 : 0 ≤ o := by omega
  have hk2 : o ≤ 4 := by omega
  have HN := Lib.hid hnT
  clear h hv hs0 hT0 hk hnT
  go_enter Tryz.func54, Tryz.ntmps54
  go_wp2_with fail
  obtain ⟨w0, hw0⟩ : ∃ w0, w0 = w.alloc (.cells #[] 66) := ⟨_, rfl⟩
  rw [← hw0]
  have b0 : Below w.heap.size w w0 := by rw [hw0]; exact (by repeat (first | exact Below.refl _ _ | assumption | (refine Below.trans ?_ (Below.mono (by assumption) (by first | omega | (simp; done) | (simp; omega)))) | (with_reducible refine Below.drew ?_) | (with_reducible refine Below.alloc ?_ (by first | omega | (simp; done) | (simp; omega)) _) | (with_reducible refine Below.setCell ?_ (by first | omega | (simp; done) | (simp; omega)) _)))
  have OW := Lib.hid (show OwnI w0 w.heap.size w.heap.size e (.slice (some ⟨w.heap.size, 0, none⟩) 0 0) [] by rw [hw0]; exact ownI_empty w e)
  have H0 := Lib.hid (H.out.below b0)
  have G0 := Lib.hid (only_of_below b0 (some R))
  have V0 := Lib.hid (HV.out.below (b0.mono HV.out.le))
  clear hw0 b0 H HV
  go_loopg [3] (msr n s) (fun k v wr => ∃ (l : List (Tr (e + 1))) (st : Rs) (f hi : Nat), k = msr n st ∧ l.length ≤ st.i ∧ st.i ≤ n ∧ Hid (OwnI wr w.heap.size hi e v l) ∧ Hid (RdI R A n c T o st wr) ∧ Hid (w.grownBy wr (some R)) ∧ Hid (LVb B wr) ∧ Hid (EqL T e s f st l))
  case atStart => exact ⟨[], s, T.length + 1, w.heap.size, rfl, Nat.zero_le _, by have := HN.out; omega, OW.out, H0.out, G0.out, V0.out, Lib.hid eqL_start⟩
  case round =>
    obtain ⟨l, st, f, h9, hgk, hll, hin, hown, hrd, hgr, hlv, heq⟩ := hrel
    have HGK := Lib.hid hgk
    clear hgk
    obtain ⟨A0, c0, rfl, _, _⟩ := hown.out.slice
    obtain ⟨⟨k0, k1, ko, k2⟩, ⟨f1, f3, f2⟩, lR1⟩ := hrd.out.cells
    by_cases h0 : st.code = 0
    · have HC := Lib.hid h0
      have RC := Lib.hid (show RdI R A n c T o ⟨st.i, 0⟩ wr by rw [← h0]; exact hrd.out)
      rw [h0] at k2
      by_cases hlt : st.i < n
      · have hbn : ((st.i : Int) == (n : Int)) = false := by simp; omega
        have hlT : st.i < T.length := by have := HN.out; omega
        obtain ⟨K, hK⟩ : ∃ K, K = kindT T st.i := ⟨_, rfl⟩
        have HK := Lib.hid hK
        have KQ := Lib.hid (show ∀ q : Nat, Calls Tryz.prog 108 #[.pointer (some ⟨R, 0, none⟩)] (wr.drewN q) (fun e w' => e = .returned (.int .i64 K) ∧ ∃ m, w' = (wr.drewN q).drewN m) from fun q => by rw [hK]; exact kind_any R n c _ T o st _ (hrd.out.drewN q) (by omega))
        clear h0 hK
        by_cases h4 : K = 4
        · subst h4
          by_cases h44 : e = 4
          · have hop : decide (0 < o) = false := decide_eq_false (by have := KD.out; omega)
            go_wp2_with fail
            go_quiet ((go_at_call 108; exact quiet_any (KQ.out _)))
            go_upto_region 6 with (fail)
            refine wp_name (fun wz hwz => ?_)
            have Rwz := Lib.hid (show RdI R A n c T o ⟨st.i, 0⟩ wz by rw [hwz]; exact (RC.out).drewN _)
            have Gwz := Lib.hid (show w.grownBy wz (some R) by rw [hwz]; exact gr_drewN (hgr.out) _)
            have Vwz := Lib.hid (show LVb B wz by rw [hwz]; exact lvb_drewN (hlv.out) _)
            have Owz := Lib.hid (show OwnI wz w.heap.size h9 e (.slice A0 l.length c0) l by rw [hwz]; exact ownI_drewN (hown.out) _)
            have KQwz := Lib.hid (show ∀ q : Nat, Calls Tryz.prog 108 #[.pointer (some ⟨R, 0, none⟩)] (wz.drewN q) (fun e w' => e = .returned (.int .i64 4) ∧ ∃ m, w' = (wz.drewN q).drewN m) from fun q => by rw [HK.out]; exact kind_any R n c _ T o ⟨st.i, 0⟩ _ (Rwz.out.drewN q) (by omega))
            clear hwz k0 k1 ko k2 f1 f2 f3 lR1 KQ
            obtain ⟨⟨k0, k1, ko, k2⟩, ⟨f1, f3, f2⟩, lR1⟩ := Rwz.out.cells
            simp only [] at k1 k2
            go_quiet ((go_at_call 108; exact quiet_any (KQwz.out _)))
            go_wp2_with (go_at_call 109; refine (fail_any R n c _ T o ⟨st.i, 0⟩ 5 _ (Rwz.out.drewN _)).mono ?_; rintro e1 w1 ⟨rfl, hr1, hg1⟩)
            have hg1 := hg1
            have HR1 := Lib.hid (show RdI R _ n c T o ⟨st.i, 5⟩ w1 from hr1)
            have hgz : wz.grownBy w1 (some R) := gr_gr (gr_drewN (gr_refl _ _) _) hg1
            have HG1 := Lib.hid (gr_gr Gwz.out hgz)
            have HO1 := Lib.hid (Owz.out.grown hgz (fun k hk => by injection hk with hk; omega))
            have HV1 := Lib.hid (Vwz.out.grown hgz (fun k hk => by injection hk with hk; omega))
            have HE1 := Lib.hid (eqL_bad l heq.out HC.out hlT (fun h => h.2 h44) (fun h => by have := HK.out; omega))
            clear hr1 hg1 hgz
            go_roundg (msr n ⟨st.i, 5⟩)
            case rel => exact ⟨l, ⟨st.i, 5⟩, 0, h9, rfl, hll, hin, HO1.out, HR1.out, HG1.out, HV1.out, HE1.out⟩
            case measure => rw [HGK.out]; exact msr_fail HC.out
          · have hE := eqL_end heq.out (.inr (.inr ⟨HK.out.symm, h44⟩))
            have hop : decide (0 < o) = true := decide_eq_true (by have := KD.out; omega)
            go_wp2_with fail
            go_quiet ((go_at_call 108; exact quiet_any (KQ.out _)))
            go_wp2_with fail
            go_ret
            exact rlI_end hE (hown.out) hrd.out hgr.out _
        · have h4b : (K == 4) = false := by simp [h4]
          by_cases h1 : K = 1
          · subst h1
            go_wp2_with fail
            go_quiet ((go_at_call 108; exact quiet_any (KQ.out _)))
            go_upto_region 6 with (fail)
            refine wp_name (fun wz hwz => ?_)
            have Rwz := Lib.hid (show RdI R A n c T o ⟨st.i, 0⟩ wz by rw [hwz]; exact (RC.out).drewN _)
            have Gwz := Lib.hid (show w.grownBy wz (some R) by rw [hwz]; exact gr_drewN (hgr.out) _)
            have Vwz := Lib.hid (show LVb B wz by rw [hwz]; exact lvb_drewN (hlv.out) _)
            have Owz := Lib.hid (show OwnI wz w.heap.size h9 e (.slice A0 l.length c0) l by rw [hwz]; exact ownI_drewN (hown.out) _)
            have KQwz := Lib.hid (show ∀ q : Nat, Calls Tryz.prog 108 #[.pointer (some ⟨R, 0, none⟩)] (wz.drewN q) (fun e w' => e = .returned (.int .i64 1) ∧ ∃ m, w' = (wz.drewN q).drewN m) from fun q => by rw [HK.out]; exact kind_any R n c _ T o ⟨st.i, 0⟩ _ (Rwz.out.drewN q) (by omega))
            clear hwz k0 k1 ko k2 f1 f2 f3 lR1 KQ
            obtain ⟨⟨k0, k1, ko, k2⟩, ⟨f1, f3, f2⟩, lR1⟩ := Rwz.out.cells
            simp only [] at k1 k2
            obtain ⟨bT, oT, rfl, hbR, hbl, q0, q1⟩ := Rwz.out.tok hlt
            try simp only [] at q1
            cases hbw : begW (textT T st.i)
            · have HBW := Lib.hid hbw
              have BQ := Lib.hid (show ∀ q : Nat, Calls Tryz.prog 112 #[.string (textT T st.i)] (wz.drewN q) (fun e w' => e = .returned (.bool false) ∧ wz.drewN q = w') from fun q => by rw [← hbw]; exact begins_any _ _ (Vwz.out.gn'.drewN _))
              clear hbw
              go_quiet (first | (go_at_call 108; exact quiet_any (KQwz.out _)) | (go_at_call 112; exact quiet_left (BQ.out _)))
              go_wp2_with (go_at_call 109; refine (fail_any R n c _ T o ⟨st.i, 0⟩ 5 _ (Rwz.out.drewN _)).mono ?_; rintro e1 w1 ⟨rfl, hr1, hg1⟩)
              have hg1 := hg1
              have HR1 := Lib.hid (show RdI R _ n c T o ⟨st.i, 5⟩ w1 from hr1)
              have hgz : wz.grownBy w1 (some R) := gr_gr (gr_drewN (gr_refl _ _) _) hg1
              have HG1 := Lib.hid (gr_gr Gwz.out hgz)
              have HO1 := Lib.hid (Owz.out.grown hgz (fun k hk => by injection hk with hk; omega))
              have HV1 := Lib.hid (Vwz.out.grown hgz (fun k hk => by injection hk with hk; omega))
              have HE1 := Lib.hid (eqL_bad l heq.out HC.out hlT (fun h => by have := HK.out; omega) (fun h => by rw [HBW.out] at h; exact absurd h.2 (by decide)))
              clear hr1 hg1 hgz
              go_roundg (msr n ⟨st.i, 5⟩)
              case rel => exact ⟨l, ⟨st.i, 5⟩, 0, h9, rfl, hll, hin, HO1.out, HR1.out, HG1.out, HV1.out, HE1.out⟩
              case measure => rw [HGK.out]; exact msr_fail HC.out
            · have HBW := Lib.hid hbw
              have BQ := Lib.hid (show ∀ q : Nat, Calls Tryz.prog 112 #[.string (textT T st.i)] (wz.drewN q) (fun e w' => e = .returned (.bool true) ∧ wz.drewN q = w') from fun q => by rw [← hbw]; exact begins_any _ _ (Vwz.out.gn'.drewN _))
              clear hbw
              go_quiet (first | (go_at_call 108; exact quiet_any (KQwz.out _)) | (go_at_call 112; exact quiet_left (BQ.out _)))
              have hbw := HBW.out
              clear HBW q0 q1 hbR hbl
              go_upto_region 7 with (fail)
              refine wp_name (fun wy hwz => ?_)
              have Rwy := Lib.hid (show RdI R _ n c T o ⟨st.i, 0⟩ wy by rw [hwz]; exact (Rwz.out).drewN _)
              have Gwy := Lib.hid (show w.grownBy wy (some R) by rw [hwz]; exact gr_drewN (Gwz.out) _)
              have Vwy := Lib.hid (show LVb B wy by rw [hwz]; exact lvb_drewN (Vwz.out) _)
              have Owy := Lib.hid (show OwnI wy w.heap.size h9 e (.slice A0 l.length c0) l by rw [hwz]; exact ownI_drewN (Owz.out) _)
              have KQwy := Lib.hid (show ∀ q : Nat, Calls Tryz.prog 108 #[.pointer (some ⟨R, 0, none⟩)] (wy.drewN q) (fun e w' => e = .returned (.int .i64 1) ∧ ∃ m, w' = (wy.drewN q).drewN m) from fun q => by rw [HK.out]; exact kind_any R n c _ T o ⟨st.i, 0⟩ _ (Rwy.out.drewN q) (by omega))
              clear hwz k0 k1 ko k2 f1 f2 f3 lR1 
              obtain ⟨⟨k0, k1, ko, k2⟩, ⟨f1, f3, f2⟩, lR1⟩ := Rwy.out.cells
              simp only [] at k1 k2
              have hbl1 : st.i < n := hlt
              obtain ⟨b8, o8, eA, hbR, hbl, q0, q1⟩ := Rwy.out.tok hlt
              injection eA with eA
              injection eA with e8 e9
              subst e8 e9
              try simp only [] at q1
              have hnb : bT ≠ R := by omega
              have HLT := Lib.hid Owy.out.lt
              have hzy := Gwy.out.size
              have hh9 : h9 ≤ wy.heap.size := by obtain ⟨_, _, ⟨_, h⟩, _⟩ := Owy.out; exact h
              have HBW := Lib.hid hbw
              have hst0 : st = ⟨st.i, 0⟩ := by have := HC.out; cases st; simp at this; rw [this]
              have heq2 := Lib.hid (show EqL T e s f ⟨st.i, 0⟩ l by rw [← hst0]; exact heq.out)
              have hgo := stmtR_goes (innerR_goes (T := T) e) (s := ⟨st.i, 0⟩) hlT
              obtain ⟨s2, hs2e⟩ : ∃ s2, s2 = (stmtR T (innerR T e) ⟨st.i, 0⟩).1 := ⟨_, rfl⟩
              have hgo1 : st.i + 1 ≤ s2.i := by rw [hs2e]; exact hgo.1
              have hgo2 : s2.i ≤ n := by rw [hs2e, ← HN.out]; exact hgo.2
              have HS2 := Lib.hid hs2e
              have hms : msr n s2 < gk := by rw [HGK.out]; exact msr_step hgo1 hlt
              clear hst0 hgo hs2e
              have SC := Lib.hid (show Calls Tryz.prog 113 #[.pointer (some ⟨R, 0, none⟩), .string (textT T st.i)] wy.drew (fun e1 w1 => ∃ x0 x1 x2 x3 x4 st2 xs, e1 = .returned (.agg #[x0, x1, x2, x3, x4]) ∧ w1.ownsRow w.heap.size 66 5 (.slice A0 l.length c0) l.length xs ∧ w.heap.size ≤ w1.heap.size ∧ Hid (∀ u ∈ [x0, x1, x2, x3, x4], u.oneCell' = true) ∧
                  Hid (RdI R _ n c T o (stmtR T (innerR T e) ⟨st.i, 0⟩).1 w1) ∧ Hid (w.grownBy w1 (some R)) ∧ Hid (LVb B w1) ∧ Hid ((stmtR T (innerR T e) ⟨st.i, 0⟩).1.code = 0 → st2 = (stmtR T (innerR T e) ⟨st.i, 0⟩).2) ∧ Hid (∀ k, (Value.slice A0 l.length c0).ownBlock = some k → w.heap.size ≤ k) ∧
                  Hid (∀ (wa w6 : World) (v6 : Value), w6.ownsRow w.heap.size 66 5 v6 (l.length + 1) (xs ++ [x0, x1, x2, x3, x4]) → Below w1.heap.size w1 wa → wa.grownBy w6 (Value.slice A0 l.length c0).ownBlock → (v6.ownBlock = (Value.slice A0 l.length c0).ownBlock ∨ v6.ownBlock = some wa.heap.size) → OwnI w6 w.heap.size w1.heap.size e v6 (l ++ [st2]))) by
                refine (IS.out B R n c _ T o st.i wy.drew (rdI_drew Rwy.out) (lvb_drew Vwy.out) hBR hn hT.out hlt HBW.out KD.out).mono ?_
                rintro e1 w1 ⟨x0, x1, x2, x3, x4, st2, rfl, hst, hsti, hr1, hg1⟩
                have hgw : wy.grownBy w1 (some R) := ⟨hg1.os, hg1.tape, hg1.output, hg1.size, hg1.block⟩
                have hs1 := hgw.size
                obtain ⟨xs, hox, hpush⟩ := (Owy.out.grown hgw (fun k hk => by injection hk with hk; omega)).add HLT.out hh9 hs1 (Nat.le_refl _) hsti
                exact ⟨x0, x1, x2, x3, x4, st2, xs, rfl, hox, by omega, hsti.ones, hr1, gr_gr Gwy.out hgw, Vwy.out.grown hgw (fun k hk => by injection hk with hk; omega), hst, own_ge hox, hpush⟩)
              clear hbw q0
              go_region_law (first
                | (go_simp; go_at_call 113; (with_reducible refine SC.out.mono ?_); rintro e1 w1 ⟨x0, x1, x2, x3, x4, st2, xs, rfl, hox, hs2, HONE, HR1, HG1, HV1, HST, HGE, PU⟩)
                | (refine step_append_rdO _ (by rfl) (.tmp 54) (.tmp 68) 25 (by rfl) w.heap.size 66 i0 _ 5 80 Tryz.underlying25 hi hz0 hz1 hz2 (by rfl) (by decide) _ l.length _ (by rfl) (by exact (hox.alloc _)) _ 1 _ [x0, x1, x2, x3, x4] (by rfl) (by exact rd_lit2 (w := w1) (cs := #[x0, x1, x2, x3, x4]) (by rfl) rfl) (by exact HONE.out) (by simp only [maxLen]; omega) (by omega) (by simp; omega) ?_; intro v6 w6 own6 gr6 hat; obtain ⟨A6, c6, rfl, _, _, _⟩ := rd_of_own own6))
              all_goals
                have H6 := Lib.hid ((HR1.out.below ((Below.refl _ _).alloc (Nat.le_refl _) _)).own gr6 (fun k hk => by have := HGE.out k hk; omega))
                have G6 := Lib.hid (gr_own (gr_below HG1.out ((Below.refl _ _).alloc (Nat.le_refl _) _)) gr6 HGE.out)
                have V6 := Lib.hid ((HV1.out.below ((Below.refl _ _).alloc HV1.out.le _)).grown gr6 (fun k hk => by have := HGE.out k hk; omega))
                have O6 := Lib.hid (PU.out _ _ _ own6 ((Below.refl _ _).alloc (Nat.le_refl _) _) gr6 hat)
                have E6 := Lib.hid (eqL_step heq2.out rfl hlT HK.out.symm HBW.out HST.out)
                rw [← HS2.out] at H6 E6
                clear gr6 own6 hat hox
                go_wp2_with fail
                go_roundg (msr n s2)
                case rel =>
                  obtain ⟨g, hg⟩ := E6.out
                  exact ⟨l ++ [st2], s2, g, w1.heap.size, rfl, by rw [List.length_append]; show l.length + 1 ≤ _; omega, hgo2, O6.out, H6.out, G6.out, V6.out, hg⟩
                case measure => exact hms
          · have h1b : (K == 1) = false := by simp [h1]
            go_wp2_with fail
            go_quiet ((go_at_call 108; exact quiet_any (KQ.out _)))
            go_upto_region 6 with (fail)
            refine wp_name (fun wz hwz => ?_)
            have Rwz := Lib.hid (show RdI R A n c T o ⟨st.i, 0⟩ wz by rw [hwz]; exact (RC.out).drewN _)
            have Gwz := Lib.hid (show w.grownBy wz (some R) by rw [hwz]; exact gr_drewN (hgr.out) _)
            have Vwz := Lib.hid (show LVb B wz by rw [hwz]; exact lvb_drewN (hlv.out) _)
            have Owz := Lib.hid (show OwnI wz w.heap.size h9 e (.slice A0 l.length c0) l by rw [hwz]; exact ownI_drewN (hown.out) _)
            have KQwz := Lib.hid (show ∀ q : Nat, Calls Tryz.prog 108 #[.pointer (some ⟨R, 0, none⟩)] (wz.drewN q) (fun e w' => e = .returned (.int .i64 K) ∧ ∃ m, w' = (wz.drewN q).drewN m) from fun q => by rw [HK.out]; exact kind_any R n c _ T o ⟨st.i, 0⟩ _ (Rwz.out.drewN q) (by omega))
            clear hwz k0 k1 ko k2 f1 f2 f3 lR1 KQ
            obtain ⟨⟨k0, k1, ko, k2⟩, ⟨f1, f3, f2⟩, lR1⟩ := Rwz.out.cells
            simp only [] at k1 k2
            go_quiet ((go_at_call 108; exact quiet_any (KQwz.out _)))
            go_wp2_with (go_at_call 109; refine (fail_any R n c _ T o ⟨st.i, 0⟩ 5 _ (Rwz.out.drewN _)).mono ?_; rintro e1 w1 ⟨rfl, hr1, hg1⟩)
            have hg1 := hg1
            have HR1 := Lib.hid (show RdI R _ n c T o ⟨st.i, 5⟩ w1 from hr1)
            have hgz : wz.grownBy w1 (some R) := gr_gr (gr_drewN (gr_refl _ _) _) hg1
            have HG1 := Lib.hid (gr_gr Gwz.out hgz)
            have HO1 := Lib.hid (Owz.out.grown hgz (fun k hk => by injection hk with hk; omega))
            have HV1 := Lib.hid (Vwz.out.grown hgz (fun k hk => by injection hk with hk; omega))
            have HE1 := Lib.hid (eqL_bad l heq.out HC.out hlT (fun h => h4 (HK.out.trans h.1)) (fun h => h1 (HK.out.trans h.1)))
            clear hr1 hg1 hgz
            go_roundg (msr n ⟨st.i, 5⟩)
            case rel => exact ⟨l, ⟨st.i, 5⟩, 0, h9, rfl, hll, hin, HO1.out, HR1.out, HG1.out, HV1.out, HE1.out⟩
            case measure => rw [HGK.out]; exact msr_fail HC.out
      · have hin2 : st.i = n := by omega
        have hbn : ((st.i : Int) == (n : Int)) = true := by simp [hin2]
        have hE := eqL_end heq.out (.inr (.inl (by have := HN.out; omega)))
        clear hin2
        go_wp2_with fail
        go_quiet (fail)
        go_wp2_with fail
        go_ret
        exact rlI_end hE (hown.out) hrd.out hgr.out _
    · have hE := eqL_end heq.out (.inl h0)
      have d0 : (st.code == 0) = false := by simp [h0]
      go_wp2_with fail
      go_ret
      exact rlI_end hE (hown.out) hrd.out hgr.out 0
set_option maxRecDepth 100000 in
set_option maxHeartbeats 1000000 in
theorem inner_zeroI : InnerI 0 := by
  intro B R n c A T o s w h hv hBR hn hT0 hc hk
  have h0 : s.code ≠ 0 := hc rfl
  obtain ⟨⟨k0, k1, ko, k2⟩, ⟨f1, f3, f2⟩, lR⟩ := h.cells
  have H := Lib.hid h
  have d0 : (s.code == 0) = false := by simp [h0]
  have HC := Lib.hid h0
  clear h hv hc hk h0
  go_enter Tryz.func54, Tryz.ntmps54
  go_wp2_with fail
  refine wp_loop_rounds 1 ?_
  rw [rounds_succ]
  go_wp2_with fail
  go_ret
  exact ⟨_, 0, 0, [], rfl, fun _ => rfl, trI_nil, H.out.below ((Below.refl _ _).alloc (Nat.le_refl _) _), gr_below (gr_refl _ _) ((Below.refl _ _).alloc (Nat.le_refl _) _)⟩
theorem inner_succI (e : Nat) (he : e ≤ 3) (h : StmtsI e) : InnerI (e + 1) := by
  intro B R n c A T o s w h1 h2 h3 h4 h5 _ h6
  have e1 : innerR T (e + 1) s = Lp T e (T.length + 1) s := by
    have hd : decide (e = 4) = false := decide_eq_false (by omega)
    unfold Lp
    rw [hd]
    rfl
  rw [e1]
  exact h B R n c A T o s w h1 h2 h3 h4 h5 (by omega)
theorem stmtsI_all : ∀ e : Nat, e ≤ 4 → StmtsI e := by
  intro e
  induction e with
  | zero => intro _; exact statements_of 0 (by omega) (statement_of 0 (by omega) (body_of 0 (by omega) inner_zeroI))
  | succ e ih => intro he; exact statements_of (e + 1) he (statement_of (e + 1) he (body_of (e + 1) he (inner_succI e (by omega) (ih (by omega)))))
end Go.Proofs.YthkbckkghnbonaaGreatDoor
