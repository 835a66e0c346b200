/- What the calls that this law reaches answer, part 18 of 30. -/
import Derived.Test.YtbamjfbfipkioaaDoorJFCheck12
import Derived.Test.YtbamjfbfipkioaaDoorJFCheck17
import Derived.Test.YtbamjfbfipkioaaDoorJFCheck1
namespace Go.Proofs.YtbamjfbfipkioaaDoor
open Go.RowKit
set_option linter.unusedVariables false
/-- The first qubit that stands twice. -/
def dupF (qs : List ByteArray) : Nat → List ByteArray → Bad
  | _, [] => bad0
  | i, q :: r => if hasS (qs.take i) q = true then (1, q) else dupF qs (i + 1) r
theorem dupF_at {qs : List ByteArray} {t : Nat} {q : ByteArray} (h : qs[t]? = some q) : dupF qs t (qs.drop t) = if hasS (qs.take t) q = true then (1, q) else dupF qs (t + 1) (qs.drop (t + 1)) := by
  obtain ⟨ht, he⟩ := List.getElem?_eq_some_iff.1 h
  rw [List.drop_eq_getElem_cons ht, dupF, he]
/-- What CheckProgram answers. -/
def ckP (d : Nat) (qs : List ByteArray) (l : List (Tr d)) : Bad :=
  if progV d qs l = true then (if (dupF qs 0 qs).1 = 0 then chkT d l qs [] else dupF qs 0 qs) else bad0
theorem progV_validC {d : Nat} {qs : List ByteArray} {l : List (Tr d)} (h : progV d qs l = true) : validT d l = true := by
  unfold progV pgR at h
  simp only [Bool.and_eq_true] at h
  exact h.2.2.1
theorem progV_len {d : Nat} {qs : List ByteArray} {l : List (Tr d)} (h : progV d qs l = true) : qs.length ≤ 4 := by
  unfold progV pgR at h
  simp only [Bool.and_eq_true] at h
  have := inB_iff.1 h.1
  omega
theorem strs_take (l : List ByteArray) (t : Nat) : (strs l).take t = strs (l.take t) := by simp [strs]
def RetCk (c : Bad) (w : World) (e : Ending) (w' : World) : Prop := e = .returned (.tuple #[.int .i64 c.1, .string c.2]) ∧ Below w.heap.size w w' ∧ w.heap.size ≤ w'.heap.size
set_option maxRecDepth 100000 in
set_option maxHeartbeats 8000000 in
theorem CheckProgram_impl (d lo lo' : Nat) (Aq : Option Addr) (cq : Nat) (qs : List ByteArray) (l : List (Tr d)) (Ab : Option Addr) (nb cb : Nat) (w : World) (hra : RdL w lo 1 Aq qs.length (strs qs)) (hcq : qs.length ≤ cq) (hrb : RdT w lo' d Ab nb l) (hG : GN w) (hm : qs.length ≤ 1048576) (hz : szS qs ≤ 1048576) (hsz : szT d l ≤ 1048576) :
    Calls Tryd.prog 14 #[.agg #[.slice Aq qs.length cq, .slice Ab nb cb]] w (RetCk (ckP d qs l) w) := by
  obtain ⟨w0, hw0⟩ : ∃ w0, w0 = w.alloc (.cells #[.slice Aq qs.length cq, .slice Ab nb cb] 35) := ⟨_, rfl⟩
  have X0 := Lib.hid (show w0.heap[w.heap.size]? = some (.cells #[.slice Aq qs.length cq, .slice Ab nb cb] 35 (0, 0)) by rw [hw0]; exact boxed1_0 _ _)
  have b0 : Below w.heap.size w w0 := by rw [hw0]; exact (by repeat (first | exact Below.refl _ _ | assumption | (refine Below.trans ?_ (Below.mono (by assumption) (by first | omega | (simp; done) | (simp; omega)))) | (with_reducible refine Below.drew ?_) | (with_reducible refine Below.alloc ?_ (by first | omega | (simp; done) | (simp; omega)) _) | (with_reducible refine Below.setCell ?_ (by first | omega | (simp; done) | (simp; omega)) _)))
  have hz0 : w.heap.size < w0.heap.size := by rw [hw0]; simp
  have HV := Lib.hid (IsValidProgram_impl d lo lo' Aq cq qs l Ab nb cb w0 (hra.below b0) (hrb.below b0) (hG.below b0) hm hz hsz)
  have HW := Lib.hid hw0
  have B0 := Lib.hid b0
  have HA := Lib.hid hra.rd
  have HT := Lib.hid hrb
  obtain ⟨m, hmq⟩ : ∃ m, m = qs.length := ⟨_, rfl⟩
  rw [← hmq] at X0 HV HW HA hcq hm ⊢
  have HM := Lib.hid hmq
  clear hw0 b0 hra hrb hG hmq
  cases hp : progV d qs l
  · have HS : Hid (ckP d qs l = bad0) := by rw [ckP, if_neg (by rw [hp]; decide)]; exact rfl
    rw [hp] at HV
    clear hp
    go_enter Tryd.func14, Tryd.ntmps14
    go_upto_region 1 with (fail)
    rw [← HW.out]
    obtain ⟨p0, p1⟩ := boxc2 (lay := Below.refl _ _) X0.out
    go_wp2_with fail
    refine HV.out.mono ?_
    rintro e w1 ⟨rfl, b1, s1⟩
    have hbw := B0.out.trans (b1.mono (by omega))
    clear b1
    go_wp2_with fail
    go_ret2
    exact ⟨by rw [HS.out]; exact rfl, hbw, by omega⟩
  · have HS : Hid (ckP d qs l = if (dupF qs 0 qs).1 = 0 then chkT d l qs [] else dupF qs 0 qs) := by rw [ckP, if_pos hp]; exact rfl
    have hq4 := progV_len hp
    rw [← HM.out] at hq4
    have HVT := Lib.hid (progV_validC hp)
    rw [hp] at HV
    clear hp
    go_enter Tryd.func14, Tryd.ntmps14
    go_upto_region 1 with (fail)
    rw [← HW.out]
    obtain ⟨p0, p1⟩ := boxc2 (lay := Below.refl _ _) X0.out
    go_wp2_with fail
    refine HV.out.mono ?_
    rintro e w1 ⟨rfl, b1, s1⟩
    have B1 := Lib.hid b1
    have hz1 : w.heap.size < w1.heap.size := by omega
    clear p0 p1 b1
    obtain ⟨p0, p1⟩ := boxc2 (lay := B1.out) X0.out
    have HA1 := Lib.hid ((HA.out.below B0.out).below B1.out)
    go_wp2_with fail
    go_loop [14] (fun i => ∃ t : Nat, t ≤ m ∧ i = .int .i64 t ∧ Hid (dupF qs 0 qs = dupF qs t (qs.drop t))) (fun i => m - (intOf i).toNat)
    case atStart => exact ⟨0, Nat.zero_le _, rfl, rfl⟩
    case round =>
      obtain ⟨t, ht, rfl, hd⟩ := hrel
      by_cases hlt : t < m
      · obtain ⟨q, hq⟩ : ∃ q, qs[t]? = some q := ⟨_, List.getElem?_eq_getElem (by rw [← HM.out]; exact hlt)⟩
        obtain ⟨b, off, rfl, hbl, hcl⟩ := HA1.out.2 (by omega)
        have r0 := hcl t _ (strs_at hq)
        have RT : Hid (Rd w1 1 (some ⟨b, off, none⟩) t (strs (qs.take t))) := by
          have := HA1.out.take (t := t) (by omega)
          rw [strs_take] at this
          exact this
        have HD := Lib.hid (hd.out.trans (dupF_at hq))
        have hlen : (qs.take t).length = t := by rw [List.length_take, ← HM.out]; omega
        have HLE := Lib.hid hlen
        have htc : t ≤ cq := by omega
        clear hcl hq hd hlen
        cases hh : hasS (qs.take t) q
        · have HN : Hid (dupF qs 0 qs = dupF qs (t + 1) (qs.drop (t + 1))) := by rw [HD.out, if_neg (by rw [hh]; decide)]; exact rfl
          go_wp2_with (go_at_call 38; (with_reducible refine (hasWord_any (some ⟨b, off, none⟩) t cq (qs.take t) q w1 RT.out HLE.out (by omega)).mono ?_); rintro e w' ⟨rfl, rfl⟩)
          go_round
          case rel => exact ⟨t + 1, by omega, by go_num, HN⟩
          case measure => simp [intOf]; omega
        · have HF : Hid (ckP d qs l = (1, q)) := by
            have h1 : dupF qs 0 qs = (1, q) := by rw [HD.out, if_pos hh]
            rw [HS.out, h1]
            exact rfl
          go_wp2_with (go_at_call 38; (with_reducible refine (hasWord_any (some ⟨b, off, none⟩) t cq (qs.take t) q w1 RT.out HLE.out (by omega)).mono ?_); rintro e w' ⟨rfl, rfl⟩)
          go_ret2
          exact ⟨by rw [HF.out]; exact rfl, B0.out.trans (B1.out.mono (by omega)), by omega⟩
      · obtain rfl : t = m := by omega
        have HF : Hid (ckP d qs l = chkT d l qs []) := by
          have h1 : dupF qs 0 qs = bad0 := by rw [hd.out, List.drop_of_length_le (by rw [← HM.out]; exact Nat.le_refl _)]; rfl
          rw [HS.out, h1, if_pos (show bad0.1 = 0 from rfl)]
          exact rfl
        obtain ⟨wx, hwx⟩ : ∃ wx, wx = w1.alloc (.cells #[.slice none 0 0] 62) := ⟨_, rfl⟩
        have bx : Below w1.heap.size w1 wx := by rw [hwx]; exact (by repeat (first | exact Below.refl _ _ | assumption | (refine Below.trans ?_ (Below.mono (by assumption) (by first | omega | (simp; done) | (simp; omega)))) | (with_reducible refine Below.drew ?_) | (with_reducible refine Below.alloc ?_ (by first | omega | (simp; done) | (simp; omega)) _) | (with_reducible refine Below.setCell ?_ (by first | omega | (simp; done) | (simp; omega)) _)))
        have CK : CkS wx w.heap.size w1.heap.size [] (.slice none 0 0) := ⟨by rw [hwx]; exact boxed1_0 _ _, World.ownsRow_nil _ _ _ _⟩
        have bw1 : Below w.heap.size w w1 := B0.out.trans (B1.out.mono (by omega))
        have hxs : w.heap.size ≤ wx.heap.size := by have := bx.size; omega
        have HC := Lib.hid (all_top d lo' w.heap.size w1.heap.size Ab nb cb l Aq t cq qs [] (.slice none 0 0) w wx HT.out HA.out HM.out.symm (Nat.le_refl _) hxs (bw1.trans (bx.mono (by omega))) (by omega) CK (by simp) hq4 hsz HVT.out)
        have WX := Lib.hid hwx
        have BX := Lib.hid (bw1.trans (bx.mono (by omega)))
        clear hwx bx CK bw1 hd
        go_wp2_with fail
        rw [← WX.out]
        refine HC.out.mono ?_
        rintro e w2 ⟨rfl, b2, s2⟩
        have HB2 := Lib.hid (BX.out.trans b2)
        clear b2
        go_wp2_with fail
        go_ret2
        exact ⟨by rw [HF.out]; exact rfl, HB2.out, by omega⟩
set_option maxRecDepth 100000 in
set_option maxHeartbeats 8000000 in
theorem CheckProgram_spec (d lo lo' : Nat) (Aq : Option Addr) (cq : Nat) (qs : List ByteArray) (l : List (Tr d)) (Ab : Option Addr) (nb cb : Nat) (w : World) (hra : RdL w lo 1 Aq qs.length (strs qs)) (hcq : qs.length ≤ cq) (hrb : RdT w lo' d Ab nb l) (hm : qs.length ≤ 1048576) (hz : szS qs ≤ 1048576) (hsz : szT d l ≤ 1048576) :
    Calls Tryd.prog 15 #[.agg #[.slice Aq qs.length cq, .slice Ab nb cb]] w (RetCk (ckP d qs l) w) := by
  obtain ⟨w0, hw0⟩ : ∃ w0, w0 = w.alloc (.cells #[.slice Aq qs.length cq, .slice Ab nb cb] 35) := ⟨_, rfl⟩
  have X0 := Lib.hid (show w0.heap[w.heap.size]? = some (.cells #[.slice Aq qs.length cq, .slice Ab nb cb] 35 (0, 0)) by rw [hw0]; exact boxed1_0 _ _)
  have b0 : Below w.heap.size w w0 := by rw [hw0]; exact (by repeat (first | exact Below.refl _ _ | assumption | (refine Below.trans ?_ (Below.mono (by assumption) (by first | omega | (simp; done) | (simp; omega)))) | (with_reducible refine Below.drew ?_) | (with_reducible refine Below.alloc ?_ (by first | omega | (simp; done) | (simp; omega)) _) | (with_reducible refine Below.setCell ?_ (by first | omega | (simp; done) | (simp; omega)) _)))
  have hz0 : w.heap.size < w0.heap.size := by rw [hw0]; simp
  have HV := Lib.hid (IsValidProgram_spec d lo lo' Aq cq qs l Ab nb cb w0 (hra.below b0) (hrb.below b0) hm hz hsz)
  have HW := Lib.hid hw0
  have B0 := Lib.hid b0
  have HA := Lib.hid hra.rd
  have HT := Lib.hid hrb
  obtain ⟨m, hmq⟩ : ∃ m, m = qs.length := ⟨_, rfl⟩
  rw [← hmq] at X0 HV HW HA hcq hm ⊢
  have HM := Lib.hid hmq
  clear hw0 b0 hra hrb hmq
  cases hp : progV d qs l
  · have HS : Hid (ckP d qs l = bad0) := by rw [ckP, if_neg (by rw [hp]; decide)]; exact rfl
    rw [hp] at HV
    clear hp
    go_enter Tryd.func15, Tryd.ntmps15
    go_upto_region 1 with (fail)
    rw [← HW.out]
    obtain ⟨p0, p1⟩ := boxc2 (lay := Below.refl _ _) X0.out
    go_wp2_with fail
    refine HV.out.mono ?_
    rintro e w1 ⟨rfl, b1, s1⟩
    have hbw := B0.out.trans (b1.mono (by omega))
    clear b1
    go_wp2_with fail
    go_ret2
    exact ⟨by rw [HS.out]; exact rfl, hbw, by omega⟩
  · have HS : Hid (ckP d qs l = if (dupF qs 0 qs).1 = 0 then chkT d l qs [] else dupF qs 0 qs) := by rw [ckP, if_pos hp]; exact rfl
    have hq4 := progV_len hp
    rw [← HM.out] at hq4
    have HVT := Lib.hid (progV_validC hp)
    rw [hp] at HV
    clear hp
    go_enter Tryd.func15, Tryd.ntmps15
    go_upto_region 1 with (fail)
    rw [← HW.out]
    obtain ⟨p0, p1⟩ := boxc2 (lay := Below.refl _ _) X0.out
    go_wp2_with fail
    refine HV.out.mono ?_
    rintro e w1 ⟨rfl, b1, s1⟩
    have B1 := Lib.hid b1
    have hz1 : w.heap.size < w1.heap.size := by omega
    clear p0 p1 b1
    go_wp2_with fail
    go_loopw [4] (fun i wr => ∃ t : Nat, t ≤ m ∧ i = .int .i64 t ∧ Hid (dupF qs 0 qs = dupF qs t (qs.drop t)) ∧ Below w1.heap.size w1 wr) (fun i _ => m - (intOf i).toNat)
    case atStart => exact ⟨0, Nat.zero_le _, rfl, rfl, Below.refl _ _⟩
    case round =>
      obtain ⟨t, ht, rfl, hd, hb⟩ := hrel
      have hbs := hb.size
      have bb := B1.out.trans (hb.mono (by omega))
      obtain ⟨p0, p1⟩ := boxc2 (lay := bb) X0.out
      have HA1 := Lib.hid ((HA.out.below B0.out).below bb)
      have hzr : w.heap.size < wr.heap.size := by omega
      clear bb
      by_cases hlt : t < m
      · obtain ⟨q, hq⟩ : ∃ q, qs[t]? = some q := ⟨_, List.getElem?_eq_getElem (by rw [← HM.out]; exact hlt)⟩
        obtain ⟨b, off, rfl, hbl, hcl⟩ := HA1.out.2 (by omega)
        have r0 := hcl t _ (strs_at hq)
        have RT : Hid (Rd wr 1 (some ⟨b, off, none⟩) t (strs (qs.take t))) := by
          have := HA1.out.take (t := t) (by omega)
          rw [strs_take] at this
          exact this
        have HD := Lib.hid (hd.out.trans (dupF_at hq))
        have hlen : (qs.take t).length = t := by rw [List.length_take, ← HM.out]; omega
        have HLE := Lib.hid hlen
        have htc : t ≤ cq := by omega
        have HBR := Lib.hid hb
        clear hcl hq hd hlen hb
        cases hh : hasS (qs.take t) q
        · have HN : Hid (dupF qs 0 qs = dupF qs (t + 1) (qs.drop (t + 1))) := by rw [HD.out, if_neg (by rw [hh]; decide)]; exact rfl
          go_wp2_with fail
          go_quiet ((go_at_call 40; exact Calls.quiet_of_same ((l1Has_any (some ⟨b, off, none⟩) t cq (qs.take t) q _ (RT.out.drewN _) HLE.out (by omega)).mono fun e W h => (⟨h.1.trans (by rw [hh]), h.2.symm⟩ : e = .returned (.bool false) ∧ W = _))))
          go_wp2_with fail
          go_roundw
          case rel => exact ⟨t + 1, by omega, by go_num, HN, below_drewN HBR.out _⟩
          case measure => simp [intOf]; omega
        · have HF : Hid (ckP d qs l = (1, q)) := by
            have h1 : dupF qs 0 qs = (1, q) := by rw [HD.out, if_pos hh]
            rw [HS.out, h1]
            exact rfl
          go_wp2_with fail
          go_quiet ((go_at_call 40; exact Calls.quiet_of_same ((l1Has_any (some ⟨b, off, none⟩) t cq (qs.take t) q _ (RT.out.drewN _) HLE.out (by omega)).mono fun e W h => (⟨h.1.trans (by rw [hh]), h.2.symm⟩ : e = .returned (.bool true) ∧ W = _))))
          go_wp2_with fail
          go_quiet (fail)
          go_wp2_with fail
          go_ret2
          exact ⟨by rw [HF.out]; exact rfl, below_drewN (below_drewN (B0.out.trans ((B1.out.mono (by omega)).trans (HBR.out.mono (by omega)))) _) _, by show _ ≤ wr.heap.size; omega⟩
      · obtain rfl : t = m := by omega
        have HF : Hid (ckP d qs l = chkT d l qs []) := by
          have h1 : dupF qs 0 qs = bad0 := by rw [hd.out, List.drop_of_length_le (by rw [← HM.out]; exact Nat.le_refl _)]; rfl
          rw [HS.out, h1, if_pos (show bad0.1 = 0 from rfl)]
          exact rfl
        obtain ⟨wx, hwx⟩ : ∃ wx, wx = wr.alloc (.cells #[.slice Aq t cq, .slice none 0 0, .bool false, .slice none 0 0] 71) := ⟨_, rfl⟩
        have bx : Below wr.heap.size wr wx := by rw [hwx]; exact (by repeat (first | exact Below.refl _ _ | assumption | (refine Below.trans ?_ (Below.mono (by assumption) (by first | omega | (simp; done) | (simp; omega)))) | (with_reducible refine Below.drew ?_) | (with_reducible refine Below.alloc ?_ (by first | omega | (simp; done) | (simp; omega)) _) | (with_reducible refine Below.setCell ?_ (by first | omega | (simp; done) | (simp; omega)) _)))
        have EV : EvS wx w.heap.size wr.heap.size Aq t cq [] (.slice none 0 0) := ⟨by rw [hwx]; exact boxed1_0 _ _, World.ownsRow_nil _ _ _ _⟩
        have bw1 : Below w.heap.size w wr := B0.out.trans ((B1.out.mono (by omega)).trans (hb.mono (by omega)))
        have hxs : w.heap.size ≤ wx.heap.size := by have := bx.size; omega
        have HC := Lib.hid (l20All_top d lo' w.heap.size wr.heap.size Ab nb cb l Aq t cq qs [] (.slice none 0 0) w wx HT.out HA.out HM.out.symm (Nat.le_refl _) hxs (bw1.trans (bx.mono (by omega))) (by omega) EV (by simp) hq4 hsz HVT.out)
        have WX := Lib.hid hwx
        have BX := Lib.hid (bw1.trans (bx.mono (by omega)))
        clear hwx bx EV bw1 hd hb
        go_wp2_with fail
        rw [← WX.out]
        refine HC.out.mono ?_
        rintro e w2 ⟨rfl, b2, s2⟩
        have HB2 := Lib.hid (BX.out.trans b2)
        obtain ⟨c, hc⟩ : ∃ c, c = chkT d l qs [] := ⟨_, rfl⟩
        rw [← hc] at HF ⊢
        clear b2 hc
        go_wp2_with fail
        go_quiet (fail)
        go_wp2_with fail
        go_ret2
        exact ⟨by rw [HF.out]; exact rfl, below_drewN (HB2.out.alloc (by omega) _) _, by simp; omega⟩
end Go.Proofs.YtbamjfbfipkioaaDoor
namespace Go.Proofs.YtbamjfbfipkioaaDoor
open Go.RowKit
set_option linter.unusedVariables false
def Le9 (c : Bad) : Prop := c.1 ≤ 9
theorem le9_0 : Le9 bad0 := by show (0 : Int) ≤ 9; omega
theorem le9_chkA (names held args : List ByteArray) : ∀ (r : List ByteArray) (i : Nat), Le9 (chkA names held args i r) := by
  intro r
  induction r with
  | nil => intro i; exact le9_0
  | cons a r ih =>
    intro i
    unfold chkA
    split
    · show (2 : Int) ≤ 9; omega
    · split
      · show (4 : Int) ≤ 9; omega
      · split
        · show (3 : Int) ≤ 9; omega
        · exact ih _
theorem le9_gate (names held args : List ByteArray) (word : ByteArray) : Le9 (gateBad names held args word) := by
  unfold gateBad
  split
  · split
    · exact le9_0
    · show (9 : Int) ≤ 9; omega
  · exact le9_chkA _ _ _ _ _
theorem le9_arg (names held : List ByteArray) (a : ByteArray) : Le9 (argBad names held a) := by
  unfold argBad
  split
  · show (2 : Int) ≤ 9; omega
  · split
    · show (4 : Int) ≤ 9; omega
    · exact le9_0
theorem le9_step (h : SH) (names held : List ByteArray) : Le9 (stepN h names held).1 := by
  unfold stepN
  split
  · exact le9_gate _ _ _ _
  · split
    · show (6 : Int) ≤ 9; omega
    · split
      · show (6 : Int) ≤ 9; omega
      · split
        · exact le9_arg _ _ _
        · split
          · split
            · show (1 : Int) ≤ 9; omega
            · split
              · show (5 : Int) ≤ 9; omega
              · exact le9_0
          · exact le9_0
theorem le9_one (h : SH) (body : List ByteArray → List ByteArray → Bad) (names held : List ByteArray) (hb : ∀ a b, Le9 (body a b)) : Le9 (oneN h body names held) := by
  unfold oneN
  split
  · exact hb _ _
  · exact le9_step _ _ _
theorem le9_first (l : List Bad) (h : ∀ c ∈ l, Le9 c) : Le9 (firstB l) := by
  induction l with
  | nil => exact le9_0
  | cons c l ih =>
    unfold firstB
    split
    · exact ih (fun x hx => h x (by simp [hx]))
    · exact h c (by simp)
theorem le9_chkN : ∀ (d : Nat) (l : List (Tr d)) (names held : List ByteArray), Le9 (chkN d l names held) := by
  intro d
  induction d with
  | zero => intro l names held; exact le9_0
  | succ d ih =>
    intro l names held
    unfold chkN
    refine le9_first _ (fun c hc => ?_)
    obtain ⟨s, _, rfl⟩ := List.mem_map.1 hc
    exact le9_one _ _ _ _ (fun a b => ih _ a b)
theorem le9_meas (names bits : List ByteArray) (q b : ByteArray) : Le9 (measT names bits q b).1 := by
  unfold measT
  split
  · show (2 : Int) ≤ 9; omega
  · split
    · show (1 : Int) ≤ 9; omega
    · split
      · show (1 : Int) ≤ 9; omega
      · split
        · show (8 : Int) ≤ 9; omega
        · exact le9_0
theorem le9_oneT {d : Nat} (h : SH) (bd : List (Tr d)) (names bits : List ByteArray) : Le9 (oneT d h bd names bits).1 := by
  unfold oneT
  split
  · exact le9_meas _ _ _ _
  · split
    · show Le9 (if hasS bits (arg0 h) = true then chkN d bd names [] else (7, arg0 h))
      split
      · exact le9_chkN _ _ _ _
      · show (7 : Int) ≤ 9; omega
    · exact le9_one _ _ _ _ (fun a b => le9_chkN _ _ a b)
theorem le9_top {α : Type} {f : α → List ByteArray → Bad × List ByteArray} (hf : ∀ s b, Le9 (f s b).1) : ∀ (l : List α) (bits : List ByteArray), Le9 (topB f l bits) := by
  intro l
  induction l with
  | nil => intro bits; exact le9_0
  | cons s l ih =>
    intro bits
    unfold topB
    split
    · exact ih _
    · exact hf _ _
theorem le9_chkT (d : Nat) (l : List (Tr d)) (names bits : List ByteArray) : Le9 (chkT d l names bits) := by
  cases d with
  | zero => exact le9_0
  | succ d => exact le9_top (fun s b => le9_oneT _ _ _ _) _ _
theorem le9_dup (qs : List ByteArray) : ∀ (r : List ByteArray) (i : Nat), Le9 (dupF qs i r) := by
  intro r
  induction r with
  | nil => intro i; exact le9_0
  | cons q r ih =>
    intro i
    unfold dupF
    split
    · show (1 : Int) ≤ 9; omega
    · exact ih _
theorem ckP_le {d : Nat} {qs : List ByteArray} {l : List (Tr d)} : (ckP d qs l).1 ≤ 9 := by
  show Le9 (ckP d qs l)
  unfold ckP
  split
  · split
    · exact le9_chkT _ _ _ _
    · exact le9_dup _ _ _
  · exact le9_0
theorem topB_take {α : Type} {f : α → List ByteArray → Bad × List ByteArray} : ∀ (l : List α) (bits : List ByteArray) (t : Nat), (topB f l bits).1 = 0 → (topB f (l.take t) bits).1 = 0 := by
  intro l
  induction l with
  | nil => intro bits t _; rw [List.take_nil]; rfl
  | cons s l ih =>
    intro bits t h
    cases t with
    | zero => rfl
    | succ t =>
      rw [List.take_succ_cons]
      unfold topB at h ⊢
      by_cases h0 : (f s bits).1.1 = 0
      · rw [if_pos h0] at h ⊢
        exact ih _ _ h
      · rw [if_neg h0] at h
        exact absurd h h0
theorem ckP_take {d : Nat} {qs : List ByteArray} {l : List (Tr d)} (t : Nat) (hv : progV d qs l = true) (h : (ckP d qs l).1 = 0) : (ckP d qs (l.take t)).1 = 0 := by
  unfold ckP at h ⊢
  rw [if_pos hv] at h
  split
  · by_cases h0 : (dupF qs 0 qs).1 = 0
    · rw [if_pos h0] at h ⊢
      cases d with
      | zero => rfl
      | succ d => exact topB_take _ _ _ h
    · rw [if_neg h0] at h
      exact absurd h h0
  · rfl
end Go.Proofs.YtbamjfbfipkioaaDoor
namespace Go.Proofs.YtbamjfbfipkioaaDoor
open Go.RowKit
set_option linter.unusedVariables false
/-- As 'Rd', at a block with the property P. -/
def RdQ (w : World) (P : Nat → Prop) (size : Nat) (A : Option Addr) (n : Nat) (xs : List Value) : Prop :=
  xs.length = n * size ∧ (0 < n → ∃ b off, A = some ⟨b, off, none⟩ ∧ P b ∧ b < w.heap.size ∧ ∀ j u, xs[j]? = some u → w.cell? ⟨b, off + j, none⟩ = some u)
/-- The slice (A, n) reads as the statements l, all blocks with the property P. -/
def TrQ (w : World) (P : Nat → Prop) : (d : Nat) → Option Addr → Nat → List (Tr d) → Prop
  | 0, _, n, l => l.length = n ∧ n = 0
  | d + 1, A, n, l => l.length = n ∧ (0 < n → ∃ b off, A = some ⟨b, off, none⟩ ∧ P b ∧ b < w.heap.size ∧ ∀ (i : Nat) (s : Tr (d + 1)), l[i]? = some s →
      ∃ Aa ca Ab nb cb, SCells w b (off + i * 5) (hdT s) Aa ca Ab nb cb ∧ RdQ w P 1 Aa (hdT s).args.length (strs (hdT s).args) ∧ TrQ w P d Ab nb (bdT s) ∧ (hdT s).args.length ≤ ca)
section
variable {w w' : World} {P P' : Nat → Prop}
theorem RdQ.rd {size n : Nat} {A : Option Addr} {xs : List Value} (h : RdQ w P size A n xs) : Rd w size A n xs :=
  ⟨h.1, fun h0 => by obtain ⟨b, off, e, _, hb, hc⟩ := h.2 h0; exact ⟨b, off, e, hb, hc⟩⟩
theorem RdQ.mono {size n : Nat} {A : Option Addr} {xs : List Value} (h : RdQ w P size A n xs) (hp : ∀ b, b < w.heap.size → P b → P' b) : RdQ w P' size A n xs :=
  ⟨h.1, fun h0 => by obtain ⟨b, off, e, h1, hb, hc⟩ := h.2 h0; exact ⟨b, off, e, hp b hb h1, hb, hc⟩⟩
theorem RdQ.keep {size n : Nat} {A : Option Addr} {xs : List Value} (h : RdQ w P size A n xs) (hk : ∀ b, P b → b < w.heap.size → w'.heap[b]? = w.heap[b]?) (hs : w.heap.size ≤ w'.heap.size) : RdQ w' P size A n xs :=
  ⟨h.1, fun h0 => by
    obtain ⟨b, off, e, h1, hb, hc⟩ := h.2 h0
    refine ⟨b, off, e, h1, Nat.lt_of_lt_of_le hb hs, fun j u hu => ?_⟩
    rw [← hc j u hu]
    have := hk b h1 hb
    simp [World.cell?, this]⟩
theorem rdQ_of_own {base E size n c : Nat} {A : Option Addr} {xs : List Value} (h : w.ownsRow base E size (.slice A n c) n xs) : RdQ w (base ≤ ·) size A n xs := by
  have r := rd_own h
  refine ⟨r.1, fun h0 => ?_⟩
  obtain ⟨b, off, e, hb, hc⟩ := r.2 h0
  refine ⟨b, off, e, ?_, hb, hc⟩
  subst e
  exact (h.lt b rfl).1
theorem TrQ.len : ∀ {d : Nat} {A : Option Addr} {n : Nat} {l : List (Tr d)}, TrQ w P d A n l → l.length = n
  | 0, _, _, _, h => h.1
  | _ + 1, _, _, _, h => h.1
theorem cell_same {b : Nat} (h : w'.heap[b]? = w.heap[b]?) (o : Nat) : w'.cell? ⟨b, o, none⟩ = w.cell? ⟨b, o, none⟩ := by simp [World.cell?, h]
theorem TrQ.mono (hp : ∀ b, b < w.heap.size → P b → P' b) : ∀ {d : Nat} {A : Option Addr} {n : Nat} {l : List (Tr d)}, TrQ w P d A n l → TrQ w P' d A n l := by
  intro d
  induction d with
  | zero => intro A n l h; exact h
  | succ d ih =>
    intro A n l h
    refine ⟨h.1, fun h0 => ?_⟩
    obtain ⟨b, off, e, h1, hb, hc⟩ := h.2 h0
    refine ⟨b, off, e, hp b hb h1, hb, fun i s hi => ?_⟩
    obtain ⟨Aa, ca, Ab, nb, cb, h1, h2, h3, h4⟩ := hc i s hi
    exact ⟨Aa, ca, Ab, nb, cb, h1, h2.mono hp, ih h3, h4⟩
theorem TrQ.keep (hk : ∀ b, P b → b < w.heap.size → w'.heap[b]? = w.heap[b]?) (hs : w.heap.size ≤ w'.heap.size) :
    ∀ {d : Nat} {A : Option Addr} {n : Nat} {l : List (Tr d)}, TrQ w P d A n l → TrQ w' P d A n l := by
  intro d
  induction d with
  | zero => intro A n l h; exact h
  | succ d ih =>
    intro A n l h
    refine ⟨h.1, fun h0 => ?_⟩
    obtain ⟨b, off, e, hl, hb, hc⟩ := h.2 h0
    refine ⟨b, off, e, hl, Nat.lt_of_lt_of_le hb hs, fun i s hi => ?_⟩
    obtain ⟨Aa, ca, Ab, nb, cb, h1, h2, h3, h4⟩ := hc i s hi
    exact ⟨Aa, ca, Ab, nb, cb, h1.keep (cell_same (hk b hl hb)), h2.keep hk hs, ih h3, h4⟩
theorem TrQ.rdt {lo : Nat} (hp : ∀ b, P b → lo ≤ b) : ∀ {d : Nat} {A : Option Addr} {n : Nat} {l : List (Tr d)}, TrQ w P d A n l → RdT w lo d A n l := by
  intro d
  induction d with
  | zero => intro A n l h; exact h
  | succ d ih =>
    intro A n l h
    refine ⟨h.1, fun h0 => ?_⟩
    obtain ⟨b, off, e, h1, hb, hc⟩ := h.2 h0
    refine ⟨b, off, e, hp b h1, hb, fun i s hi => ?_⟩
    obtain ⟨Aa, ca, Ab, nb, cb, h1, h2, h3, h4⟩ := hc i s hi
    refine ⟨Aa, ca, Ab, nb, cb, h1, ⟨h2.1, fun h0 => ?_⟩, ih h3, h4⟩
    obtain ⟨b, off, e, h1, hb, hc⟩ := h2.2 h0
    exact ⟨b, off, e, hp b h1, hb, hc⟩
/-- Statements of depth at most d are statements of depth at most d + 1. -/
def upT : (d : Nat) → Tr d → Tr (d + 1)
  | 0, e => nomatch (show Empty from e)
  | d + 1, s => mkT (hdT s) ((bdT s).map (upT d))
theorem TrQ.up : ∀ {d : Nat} {A : Option Addr} {n : Nat} {l : List (Tr d)}, TrQ w P d A n l → TrQ w P (d + 1) A n (l.map (upT d)) := by
  intro d
  induction d with
  | zero =>
    intro A n l h
    have h1 : l.length = n := h.1
    have h2 : n = 0 := h.2
    exact ⟨by rw [List.length_map]; exact h1, fun h0 => absurd h0 (by omega)⟩
  | succ d ih =>
    intro A n l h
    refine ⟨by rw [List.length_map]; exact h.1, fun h0 => ?_⟩
    obtain ⟨b, off, e, h1, hb, hc⟩ := h.2 h0
    refine ⟨b, off, e, h1, hb, fun i s hi => ?_⟩
    rw [List.getElem?_map, Option.map_eq_some_iff] at hi
    obtain ⟨t, ht, rfl⟩ := hi
    obtain ⟨Aa, ca, Ab, nb, cb, h1, h2, h3, h4⟩ := hc i t ht
    exact ⟨Aa, ca, Ab, nb, cb, h1, h2, ih h3, h4⟩
theorem szT_up : ∀ (d : Nat) (l : List (Tr d)), szT (d + 1) (l.map (upT d)) = szT d l := by
  intro d
  induction d with
  | zero =>
    intro l
    cases l with
    | nil => rfl
    | cons x _ => exact nomatch (show Empty from x)
  | succ d ih =>
    intro l
    rw [szT_succ, szT_succ, List.length_map]
    congr 1
    unfold sumE
    rw [List.map_map]
    congr 1
    apply List.map_congr_left
    intro s _
    show (hdT s).word.size + ((hdT s).args.length + szS (hdT s).args + szT (d + 1) ((bdT s).map (upT d))) = _
    rw [ih]
    rfl
/-- The five cells of a statement, as a list. -/
def scl (s : SH) (Aa : Option Addr) (ca : Nat) (Ab : Option Addr) (nb cb : Nat) : List Value := [.int .i64 s.k, .string s.word, .slice Aa s.args.length ca, .int .i64 s.count, .slice Ab nb cb]
/-- Five cells that are a statement whose names and body lie in blocks of Q. -/
def StQ (w : World) (Q : Nat → Prop) (d : Nat) (cs : List Value) (s : Tr (d + 1)) : Prop :=
  ∃ Aa ca Ab nb cb, cs = scl (hdT s) Aa ca Ab nb cb ∧ RdQ w Q 1 Aa (hdT s).args.length (strs (hdT s).args) ∧ TrQ w Q d Ab nb (bdT s) ∧ (hdT s).args.length ≤ ca
/-- Two lists, element by element. -/
def Fa2 {α β : Type} (R : α → β → Prop) : List α → List β → Prop
  | [], [] => True
  | a :: l, b :: m => R a b ∧ Fa2 R l m
  | _, _ => False
/-- Cells that are a list of statements, as 'StQ'. -/
def ElQ (w : World) (Q : Nat → Prop) (d : Nat) (xs : List Value) (l : List (Tr (d + 1))) : Prop :=
  ∃ css : List (List Value), xs = css.flatten ∧ Fa2 (StQ w Q d) css l
theorem StQ.mono {d : Nat} {cs : List Value} {s : Tr (d + 1)} (h : StQ w P d cs s) (hp : ∀ b, b < w.heap.size → P b → P' b) : StQ w P' d cs s := by
  obtain ⟨Aa, ca, Ab, nb, cb, h1, h2, h3, h4⟩ := h
  exact ⟨Aa, ca, Ab, nb, cb, h1, h2.mono hp, h3.mono hp, h4⟩
theorem StQ.keep {d : Nat} {cs : List Value} {s : Tr (d + 1)} (h : StQ w P d cs s) (hk : ∀ b, P b → b < w.heap.size → w'.heap[b]? = w.heap[b]?) (hs : w.heap.size ≤ w'.heap.size) : StQ w' P d cs s := by
  obtain ⟨Aa, ca, Ab, nb, cb, h1, h2, h3, h4⟩ := h
  exact ⟨Aa, ca, Ab, nb, cb, h1, h2.keep hk hs, h3.keep hk hs, h4⟩
theorem StQ.up {d : Nat} {cs : List Value} {s : Tr (d + 1)} (h : StQ w P d cs s) : StQ w P (d + 1) cs (upT (d + 1) s) := by
  obtain ⟨Aa, ca, Ab, nb, cb, h1, h2, h3, h4⟩ := h
  exact ⟨Aa, ca, Ab, nb, cb, h1, h2, h3.up, h4⟩
theorem forall2_mono {α β : Type} {R S : α → β → Prop} (h : ∀ a b, R a b → S a b) : ∀ {l : List α} {m : List β}, Fa2 R l m → Fa2 S l m
  | [], [], _ => trivial
  | _ :: _, _ :: _, h1 => ⟨h _ _ h1.1, forall2_mono h h1.2⟩
theorem forall2_append {α β : Type} {R : α → β → Prop} : ∀ {l l' : List α} {m m' : List β}, Fa2 R l m → Fa2 R l' m' → Fa2 R (l ++ l') (m ++ m')
  | [], _, [], _, _, h2 => h2
  | _ :: _, _, _ :: _, _, h1, h2 => ⟨h1.1, forall2_append h1.2 h2⟩
theorem forall2_at {α β : Type} {R : α → β → Prop} : ∀ {l : List α} {m : List β}, Fa2 R l m → ∀ {i : Nat} {y : β}, m[i]? = some y → ∃ x, l[i]? = some x ∧ R x y
  | [], [], _, i, y, h => by simp at h
  | a :: _, _ :: _, h1, 0, y, h => by
    simp only [List.getElem?_cons_zero, Option.some.injEq] at h
    subst h
    exact ⟨a, rfl, h1.1⟩
  | _ :: _, _ :: _, h1, i + 1, y, h => by
    simp only [List.getElem?_cons_succ] at h ⊢
    exact forall2_at h1.2 h
theorem forall2_map {α β γ : Type} {R : α → β → Prop} {S : α → γ → Prop} {f : β → γ} (h : ∀ a b, R a b → S a (f b)) : ∀ {l : List α} {m : List β}, Fa2 R l m → Fa2 S l (m.map f)
  | [], [], _ => trivial
  | _ :: _, _ :: _, h1 => ⟨h _ _ h1.1, forall2_map h h1.2⟩
theorem ElQ.nil {Q : Nat → Prop} {d : Nat} : ElQ w Q d [] [] := ⟨[], rfl, trivial⟩
theorem ElQ.mono {d : Nat} {xs : List Value} {l : List (Tr (d + 1))} (h : ElQ w P d xs l) (hp : ∀ b, b < w.heap.size → P b → P' b) : ElQ w P' d xs l := by
  obtain ⟨css, e, h⟩ := h
  exact ⟨css, e, forall2_mono (fun _ _ h => h.mono hp) h⟩
theorem ElQ.keep {d : Nat} {xs : List Value} {l : List (Tr (d + 1))} (h : ElQ w P d xs l) (hk : ∀ b, P b → b < w.heap.size → w'.heap[b]? = w.heap[b]?) (hs : w.heap.size ≤ w'.heap.size) : ElQ w' P d xs l := by
  obtain ⟨css, e, h⟩ := h
  exact ⟨css, e, forall2_mono (fun _ _ h => h.keep hk hs) h⟩
theorem ElQ.up {d : Nat} {xs : List Value} {l : List (Tr (d + 1))} (h : ElQ w P d xs l) : ElQ w P (d + 1) xs (l.map (upT (d + 1))) := by
  obtain ⟨css, e, h⟩ := h
  exact ⟨css, e, forall2_map (fun _ _ h => h.up) h⟩
theorem ElQ.append {d : Nat} {xs ys : List Value} {l m : List (Tr (d + 1))} (h : ElQ w P d xs l) (h' : ElQ w P d ys m) : ElQ w P d (xs ++ ys) (l ++ m) := by
  obtain ⟨css, e, h⟩ := h
  obtain ⟨dss, e', h'⟩ := h'
  exact ⟨css ++ dss, by rw [e, e', List.flatten_append], forall2_append h h'⟩
theorem ElQ.one {d : Nat} {cs : List Value} {s : Tr (d + 1)} (h : StQ w P d cs s) : ElQ w P d cs [s] := ⟨[cs], by simp, h, trivial⟩
theorem StQ.len {d : Nat} {cs : List Value} {s : Tr (d + 1)} (h : StQ w P d cs s) : cs.length = 5 := by
  obtain ⟨Aa, ca, Ab, nb, cb, rfl, _⟩ := h
  rfl
theorem StQ.ones {d : Nat} {cs : List Value} {s : Tr (d + 1)} (h : StQ w P d cs s) : ∀ u ∈ cs, u.oneCell' = true := by
  obtain ⟨Aa, ca, Ab, nb, cb, rfl, _⟩ := h
  intro u hu
  simp only [scl, List.mem_cons, List.not_mem_nil, or_false] at hu
  rcases hu with rfl | rfl | rfl | rfl | rfl <;> rfl
theorem flat5 {R : List Value → Prop} (hR : ∀ c, R c → c.length = 5) : ∀ (css : List (List Value)), (∀ c ∈ css, R c) → ∀ (i j : Nat) (c : List Value), css[i]? = some c → j < 5 → css.flatten[i * 5 + j]? = c[j]? := by
  intro css
  induction css with
  | nil => intro _ i j c h _; simp at h
  | cons x css ih =>
    intro hc i j c h hj
    have hx := hR x (hc x (by simp))
    cases i with
    | zero =>
      simp only [List.getElem?_cons_zero, Option.some.injEq] at h
      subst h
      rw [Nat.zero_mul, Nat.zero_add, List.flatten_cons, List.getElem?_append_left (by omega)]
    | succ i =>
      simp only [List.getElem?_cons_succ] at h
      rw [List.flatten_cons, List.getElem?_append_right (by omega), hx, show (i + 1) * 5 + j - 5 = i * 5 + j by omega]
      exact ih (fun c h => hc c (by simp [h])) i j c h hj
theorem ElQ.all5 {d : Nat} : ∀ {css : List (List Value)} {l : List (Tr (d + 1))}, Fa2 (StQ w P d) css l → ∀ c ∈ css, c.length = 5
  | [], [], _, c, h => by simp at h
  | _ :: _, _ :: _, h1, c, hc => by
    rcases List.mem_cons.1 hc with rfl | hc
    · exact h1.1.len
    · exact ElQ.all5 h1.2 c hc
theorem ElQ.ones2 {d : Nat} : ∀ {css : List (List Value)} {l : List (Tr (d + 1))}, Fa2 (StQ w P d) css l → (∀ u ∈ css.flatten, u.oneCell' = true) ∧ css.flatten.length = l.length * 5
  | [], [], _ => ⟨by simp, rfl⟩
  | _ :: _, _ :: _, h1 => by
    obtain ⟨i1, i2⟩ := ElQ.ones2 h1.2
    refine ⟨fun u hu => ?_, by rw [List.flatten_cons, List.length_append, h1.1.len, i2, List.length_cons]; omega⟩
    rw [List.flatten_cons] at hu
    rcases List.mem_append.1 hu with hu | hu
    · exact h1.1.ones u hu
    · exact i1 u hu
theorem ElQ.ones {d : Nat} {xs : List Value} {l : List (Tr (d + 1))} (h : ElQ w P d xs l) : ∀ u ∈ xs, u.oneCell' = true := by
  obtain ⟨css, rfl, h⟩ := h
  exact (ElQ.ones2 h).1
theorem ElQ.len {d : Nat} {xs : List Value} {l : List (Tr (d + 1))} (h : ElQ w P d xs l) : xs.length = l.length * 5 := by
  obtain ⟨css, rfl, h⟩ := h
  exact (ElQ.ones2 h).2
/-- Cells that lie in memory, with what they point to, are statements that a slice reads as. -/
theorem ElQ.tr {d n : Nat} {A : Option Addr} {xs : List Value} {l : List (Tr (d + 1))} (h : ElQ w P d xs l) (hr : RdQ w P 5 A n xs) (hn : l.length = n) : TrQ w P (d + 1) A n l := by
  refine ⟨hn, fun h0 => ?_⟩
  obtain ⟨b, off, e, hp, hb, hc⟩ := hr.2 h0
  refine ⟨b, off, e, hp, hb, fun i s hi => ?_⟩
  obtain ⟨css, rfl, h⟩ := h
  obtain ⟨c, hci, Aa, ca, Ab, nb, cb, rfl, h2, h3, h4⟩ := forall2_at h hi
  have ha := ElQ.all5 h
  have f : ∀ j, j < 5 → ∀ u, (scl (hdT s) Aa ca Ab nb cb)[j]? = some u → w.cell? ⟨b, off + (i * 5 + j), none⟩ = some u := fun j hj u hu => hc _ _ ((flat5 (R := fun c => c.length = 5) (fun _ h => h) css ha i j _ hci hj).trans hu)
  refine ⟨Aa, ca, Ab, nb, cb, ⟨f 0 (by decide) _ rfl, ?_, ?_, ?_, ?_⟩, h2, h3, h4⟩
  · have := f 1 (by decide) _ rfl; rwa [← Nat.add_assoc] at this
  · have := f 2 (by decide) _ rfl; rwa [← Nat.add_assoc] at this
  · have := f 3 (by decide) _ rfl; rwa [← Nat.add_assoc] at this
  · have := f 4 (by decide) _ rfl; rwa [← Nat.add_assoc] at this
end
/-- A row of statements of the call's own: the cells, and what they point to, lie in blocks from base on; what they point to is not the row itself. -/
def OwnT (w : World) (base d : Nat) (v : Value) (l : List (Tr (d + 1))) : Prop :=
  ∃ xs, w.ownsRow base 27 5 v l.length xs ∧ ElQ w (fun b => base ≤ b ∧ some b ≠ v.ownBlock) d xs l
theorem OwnT.grown {w w' : World} {base d : Nat} {v : Value} {l : List (Tr (d + 1))} {row : Option Nat} (h : OwnT w base d v l) (hg : w.grownBy w' row) (hr : ∀ k, row = some k → k < base) : OwnT w' base d v l := by
  obtain ⟨xs, ho, he⟩ := h
  refine ⟨xs, ho.kept hg ?_, he.keep (fun b hp hb => hg.block b hb (fun e => ?_)) hg.size⟩
  · cases hk : v.ownBlock with
    | none => exact .inl rfl
    | some k =>
      refine .inr fun e => ?_
      have h1 := hr k e.symm
      have h2 := (ho.lt k hk).1
      omega
  · have := hr b e.symm
    omega
theorem OwnT.below {w w' : World} {base d : Nat} {v : Value} {l : List (Tr (d + 1))} (h : OwnT w base d v l) (hb : Below w.heap.size w w') : OwnT w' base d v l :=
  h.grown (row := none) ⟨hb.os, hb.tape, hb.output, hb.size, fun k hk _ => hb.block k hk⟩ (fun k e => by cases e)
theorem ownT_empty (w : World) (d : Nat) : OwnT (w.alloc (.cells #[] 27)) w.heap.size d (.slice (some ⟨w.heap.size, 0, none⟩) 0 0) [] := ⟨[], own_empty w _ 5, ElQ.nil⟩
theorem ownT_nil (w : World) (base d : Nat) : OwnT w base d (.slice none 0 0) [] := ⟨[], ⟨rfl, .inl ⟨rfl, rfl⟩⟩, ElQ.nil⟩
/-- An append of some statements to the row. -/
theorem OwnT.push {w wa w6 : World} {base d : Nat} {v v6 : Value} {xs ys : List Value} {l m : List (Tr (d + 1))} (hx : ElQ w (fun b => base ≤ b ∧ some b ≠ v.ownBlock) d xs l) (hy : ElQ w (fun b => base ≤ b ∧ some b ≠ v.ownBlock) d ys m)
    (ho6 : w6.ownsRow base 27 5 v6 (l.length + m.length) (xs ++ ys)) (hba : Below w.heap.size w wa) (hg : wa.grownBy w6 v.ownBlock) (hv : v6.ownBlock = v.ownBlock ∨ v6.ownBlock = some wa.heap.size) : OwnT w6 base d v6 (l ++ m) := by
  refine ⟨xs ++ ys, by rw [List.length_append]; exact ho6, ElQ.mono (P := fun b => base ≤ b ∧ some b ≠ v.ownBlock ∧ b < w.heap.size) ?_ ?_⟩
  · have hk : ∀ b, (base ≤ b ∧ some b ≠ v.ownBlock ∧ b < w.heap.size) → b < w.heap.size → w6.heap[b]? = w.heap[b]? := fun b hp hb => (hg.block b (Nat.lt_of_lt_of_le hb hba.size) hp.2.1).trans (hba.block b hb)
    have hs : w.heap.size ≤ w6.heap.size := Nat.le_trans hba.size hg.size
    exact ((hx.mono (fun b hb hp => ⟨hp.1, hp.2, hb⟩)).append (hy.mono (fun b hb hp => ⟨hp.1, hp.2, hb⟩))).keep hk hs
  · intro b _ hp
    refine ⟨hp.1, ?_⟩
    rcases hv with e | e
    · rw [e]; exact hp.2.1
    · rw [e]
      intro e
      injection e with e
      have := hba.size
      omega
/-- The row as statements that a slice reads as. -/
theorem OwnT.tr {w : World} {base d n c : Nat} {A : Option Addr} {l : List (Tr (d + 1))} (h : OwnT w base d (.slice A n c) l) (hn : l.length = n) : TrQ w (base ≤ ·) (d + 1) A n l := by
  obtain ⟨xs, ho, he⟩ := h
  rw [hn] at ho
  exact (he.mono (fun b _ hp => hp.1)).tr (rdQ_of_own ho) hn
theorem OwnT.up {w : World} {base d : Nat} {v : Value} {l : List (Tr (d + 1))} (h : OwnT w base d v l) : OwnT w base (d + 1) v (l.map (upT (d + 1))) := by
  obtain ⟨xs, ho, he⟩ := h
  exact ⟨xs, by rw [List.length_map]; exact ho, he.up⟩
theorem OwnT.slice {w : World} {base d : Nat} {v : Value} {l : List (Tr (d + 1))} (h : OwnT w base d v l) : ∃ A c, v = .slice A l.length c ∧ l.length ≤ c ∧ c ≤ maxLen := by
  obtain ⟨xs, ho, _⟩ := h
  obtain ⟨A, c, e, h1, h2, _⟩ := rd_of_own ho
  exact ⟨A, c, e, h1, h2⟩
theorem own_lowT {w : World} {B B' e size n : Nat} {v : Value} {xs : List Value} (h : w.ownsRow B e size v n xs) (hB : B' ≤ B) : w.ownsRow B' e size v n xs := by
  refine ⟨h.1, ?_⟩
  rcases h.2 with h2 | ⟨g, cap, cur, h1, h2, h3⟩
  · exact .inl h2
  · exact .inr ⟨g, cap, cur, h1, Nat.le_trans hB h2, h3⟩
end Go.Proofs.YtbamjfbfipkioaaDoor
