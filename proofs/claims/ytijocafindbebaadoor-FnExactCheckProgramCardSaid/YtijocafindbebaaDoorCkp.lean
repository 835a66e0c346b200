/- CheckProgram on both sides. -/
import Derived.Test.YtijocafindbebaaDoorChkW
import Derived.Test.YtijocafindbebaaDoorPgmI
namespace Go.Proofs.YtijocafindbebaaDoor
open Go.RowKit
set_option linter.unusedVariables false
/-- The first qubit that stands twice. -/
def dupF (qs : List ByteArray) : Nat → List ByteArray → Bad
  | _, [] => bad0
  | i, q :: r => if hasS (qs.take i) q = true then (1, q) else dupF qs (i + 1) r
theorem dupF_at {qs : List ByteArray} {t : Nat} {q : ByteArray} (h : qs[t]? = some q) : dupF qs t (qs.drop t) = if hasS (qs.take t) q = true then (1, q) else dupF qs (t + 1) (qs.drop (t + 1)) := by
  obtain ⟨ht, he⟩ := List.getElem?_eq_some_iff.1 h
  rw [List.drop_eq_getElem_cons ht, dupF, he]
/-- What CheckProgram answers. -/
def ckP (d : Nat) (qs : List ByteArray) (l : List (Tr d)) : Bad :=
  if progV d qs l = true then (if (dupF qs 0 qs).1 = 0 then chkT d l qs [] else dupF qs 0 qs) else bad0
theorem progV_validC {d : Nat} {qs : List ByteArray} {l : List (Tr d)} (h : progV d qs l = true) : validT d l = true := by
  unfold progV pgR at h
  simp only [Bool.and_eq_true] at h
  exact h.2.2.1
theorem progV_len {d : Nat} {qs : List ByteArray} {l : List (Tr d)} (h : progV d qs l = true) : qs.length ≤ 4 := by
  unfold progV pgR at h
  simp only [Bool.and_eq_true] at h
  have := inB_iff.1 h.1
  omega
theorem strs_take (l : List ByteArray) (t : Nat) : (strs l).take t = strs (l.take t) := by simp [strs]
def RetCk (c : Bad) (w : World) (e : Ending) (w' : World) : Prop := e = .returned (.tuple #[.int .i64 c.1, .string c.2]) ∧ Below w.heap.size w w' ∧ w.heap.size ≤ w'.heap.size
set_option maxRecDepth 100000 in
set_option maxHeartbeats 8000000 in
theorem CheckProgram_impl (d lo lo' : Nat) (Aq : Option Addr) (cq : Nat) (qs : List ByteArray) (l : List (Tr d)) (Ab : Option Addr) (nb cb : Nat) (w : World) (hra : RdL w lo 1 Aq qs.length (strs qs)) (hcq : qs.length ≤ cq) (hrb : RdT w lo' d Ab nb l) (hG : GN w) (hm : qs.length ≤ 1048576) (hz : szS qs ≤ 1048576) (hsz : szT d l ≤ 1048576) :
    Calls Tryd.prog 34 #[.agg #[.slice Aq qs.length cq, .slice Ab nb cb]] w (RetCk (ckP d qs l) w) := by
  obtain ⟨w0, hw0⟩ : ∃ w0, w0 = w.alloc (.cells #[.slice Aq qs.length cq, .slice Ab nb cb] 39) := ⟨_, rfl⟩
  have X0 := Lib.hid (show w0.heap[w.heap.size]? = some (.cells #[.slice Aq qs.length cq, .slice Ab nb cb] 39 (0, 0)) by rw [hw0]; exact boxed1_0 _ _)
  have b0 : Below w.heap.size w w0 := by rw [hw0]; exact (by repeat (first | exact Below.refl _ _ | assumption | (refine Below.trans ?_ (Below.mono (by assumption) (by first | omega | (simp; done) | (simp; omega)))) | (with_reducible refine Below.drew ?_) | (with_reducible refine Below.alloc ?_ (by first | omega | (simp; done) | (simp; omega)) _) | (with_reducible refine Below.setCell ?_ (by first | omega | (simp; done) | (simp; omega)) _)))
  have hz0 : w.heap.size < w0.heap.size := by rw [hw0]; simp
  have HV := Lib.hid (IsValidProgram_impl d lo lo' Aq cq qs l Ab nb cb w0 (hra.below b0) (hrb.below b0) (hG.below b0) hm hz hsz)
  have HW := Lib.hid hw0
  have B0 := Lib.hid b0
  have HA := Lib.hid hra.rd
  have HT := Lib.hid hrb
  obtain ⟨m, hmq⟩ : ∃ m, m = qs.length := ⟨_, rfl⟩
  rw [← hmq] at X0 HV HW HA hcq hm ⊢
  have HM := Lib.hid hmq
  clear hw0 b0 hra hrb hG hmq
  cases hp : progV d qs l
  · have HS : Hid (ckP d qs l = bad0) := by rw [ckP, if_neg (by rw [hp]; decide)]; exact rfl
    rw [hp] at HV
    clear hp
    go_enter Tryd.func34, Tryd.ntmps34
    go_upto_region 1 with (fail)
    rw [← HW.out]
    obtain ⟨p0, p1⟩ := boxc2 (lay := Below.refl _ _) X0.out
    go_wp2_with fail
    refine HV.out.mono ?_
    rintro e w1 ⟨rfl, b1, s1⟩
    have hbw := B0.out.trans (b1.mono (by omega))
    clear b1
    go_wp2_with fail
    go_ret2
    exact ⟨by rw [HS.out]; exact rfl, hbw, by omega⟩
  · have HS : Hid (ckP d qs l = if (dupF qs 0 qs).1 = 0 then chkT d l qs [] else dupF qs 0 qs) := by rw [ckP, if_pos hp]; exact rfl
    have hq4 := progV_len hp
    rw [← HM.out] at hq4
    have HVT := Lib.hid (progV_validC hp)
    rw [hp] at HV
    clear hp
    go_enter Tryd.func34, Tryd.ntmps34
    go_upto_region 1 with (fail)
    rw [← HW.out]
    obtain ⟨p0, p1⟩ := boxc2 (lay := Below.refl _ _) X0.out
    go_wp2_with fail
    refine HV.out.mono ?_
    rintro e w1 ⟨rfl, b1, s1⟩
    have B1 := Lib.hid b1
    have hz1 : w.heap.size < w1.heap.size := by omega
    clear p0 p1 b1
    obtain ⟨p0, p1⟩ := boxc2 (lay := B1.out) X0.out
    have HA1 := Lib.hid ((HA.out.below B0.out).below B1.out)
    go_wp2_with fail
    go_loop [14] (fun i => ∃ t : Nat, t ≤ m ∧ i = .int .i64 t ∧ Hid (dupF qs 0 qs = dupF qs t (qs.drop t))) (fun i => m - (intOf i).toNat)
    case atStart => exact ⟨0, Nat.zero_le _, rfl, rfl⟩
    case round =>
      obtain ⟨t, ht, rfl, hd⟩ := hrel
      by_cases hlt : t < m
      · obtain ⟨q, hq⟩ : ∃ q, qs[t]? = some q := ⟨_, List.getElem?_eq_getElem (by rw [← HM.out]; exact hlt)⟩
        obtain ⟨b, off, rfl, hbl, hcl⟩ := HA1.out.2 (by omega)
        have r0 := hcl t _ (strs_at hq)
        have RT : Hid (Rd w1 1 (some ⟨b, off, none⟩) t (strs (qs.take t))) := by
          have := HA1.out.take (t := t) (by omega)
          rw [strs_take] at this
          exact this
        have HD := Lib.hid (hd.out.trans (dupF_at hq))
        have hlen : (qs.take t).length = t := by rw [List.length_take, ← HM.out]; omega
        have HLE := Lib.hid hlen
        have htc : t ≤ cq := by omega
        clear hcl hq hd hlen
        cases hh : hasS (qs.take t) q
        · have HN : Hid (dupF qs 0 qs = dupF qs (t + 1) (qs.drop (t + 1))) := by rw [HD.out, if_neg (by rw [hh]; decide)]; exact rfl
          go_wp2_with (go_at_call 76; (with_reducible refine (hasWord_any (some ⟨b, off, none⟩) t cq (qs.take t) q w1 RT.out HLE.out (by omega)).mono ?_); rintro e w' ⟨rfl, rfl⟩)
          go_round
          case rel => exact ⟨t + 1, by omega, by go_num, HN⟩
          case measure => simp [intOf]; omega
        · have HF : Hid (ckP d qs l = (1, q)) := by
            have h1 : dupF qs 0 qs = (1, q) := by rw [HD.out, if_pos hh]
            rw [HS.out, h1]
            exact rfl
          go_wp2_with (go_at_call 76; (with_reducible refine (hasWord_any (some ⟨b, off, none⟩) t cq (qs.take t) q w1 RT.out HLE.out (by omega)).mono ?_); rintro e w' ⟨rfl, rfl⟩)
          go_ret2
          exact ⟨by rw [HF.out]; exact rfl, B0.out.trans (B1.out.mono (by omega)), by omega⟩
      · obtain rfl : t = m := by omega
        have HF : Hid (ckP d qs l = chkT d l qs []) := by
          have h1 : dupF qs 0 qs = bad0 := by rw [hd.out, List.drop_of_length_le (by rw [← HM.out]; exact Nat.le_refl _)]; rfl
          rw [HS.out, h1, if_pos (show bad0.1 = 0 from rfl)]
          exact rfl
        obtain ⟨wx, hwx⟩ : ∃ wx, wx = w1.alloc (.cells #[.slice none 0 0] 100) := ⟨_, rfl⟩
        have bx : Below w1.heap.size w1 wx := by rw [hwx]; exact (by repeat (first | exact Below.refl _ _ | assumption | (refine Below.trans ?_ (Below.mono (by assumption) (by first | omega | (simp; done) | (simp; omega)))) | (with_reducible refine Below.drew ?_) | (with_reducible refine Below.alloc ?_ (by first | omega | (simp; done) | (simp; omega)) _) | (with_reducible refine Below.setCell ?_ (by first | omega | (simp; done) | (simp; omega)) _)))
        have CK : CkS wx w.heap.size w1.heap.size [] (.slice none 0 0) := ⟨by rw [hwx]; exact boxed1_0 _ _, World.ownsRow_nil _ _ _ _⟩
        have bw1 : Below w.heap.size w w1 := B0.out.trans (B1.out.mono (by omega))
        have hxs : w.heap.size ≤ wx.heap.size := by have := bx.size; omega
        have HC := Lib.hid (all_top d lo' w.heap.size w1.heap.size Ab nb cb l Aq t cq qs [] (.slice none 0 0) w wx HT.out HA.out HM.out.symm (Nat.le_refl _) hxs (bw1.trans (bx.mono (by omega))) (by omega) CK (by simp) hq4 hsz HVT.out)
        have WX := Lib.hid hwx
        have BX := Lib.hid (bw1.trans (bx.mono (by omega)))
        clear hwx bx CK bw1 hd
        go_wp2_with fail
        rw [← WX.out]
        refine HC.out.mono ?_
        rintro e w2 ⟨rfl, b2, s2⟩
        have HB2 := Lib.hid (BX.out.trans b2)
        clear b2
        go_wp2_with fail
        go_ret2
        exact ⟨by rw [HF.out]; exact rfl, HB2.out, by omega⟩
set_option maxRecDepth 100000 in
set_option maxHeartbeats 8000000 in
theorem CheckProgram_spec (d lo lo' : Nat) (Aq : Option Addr) (cq : Nat) (qs : List ByteArray) (l : List (Tr d)) (Ab : Option Addr) (nb cb : Nat) (w : World) (hra : RdL w lo 1 Aq qs.length (strs qs)) (hcq : qs.length ≤ cq) (hrb : RdT w lo' d Ab nb l) (hm : qs.length ≤ 1048576) (hz : szS qs ≤ 1048576) (hsz : szT d l ≤ 1048576) :
    Calls Tryd.prog 33 #[.agg #[.slice Aq qs.length cq, .slice Ab nb cb]] w (RetCk (ckP d qs l) w) := by
  obtain ⟨w0, hw0⟩ : ∃ w0, w0 = w.alloc (.cells #[.slice Aq qs.length cq, .slice Ab nb cb] 39) := ⟨_, rfl⟩
  have X0 := Lib.hid (show w0.heap[w.heap.size]? = some (.cells #[.slice Aq qs.length cq, .slice Ab nb cb] 39 (0, 0)) by rw [hw0]; exact boxed1_0 _ _)
  have b0 : Below w.heap.size w w0 := by rw [hw0]; exact (by repeat (first | exact Below.refl _ _ | assumption | (refine Below.trans ?_ (Below.mono (by assumption) (by first | omega | (simp; done) | (simp; omega)))) | (with_reducible refine Below.drew ?_) | (with_reducible refine Below.alloc ?_ (by first | omega | (simp; done) | (simp; omega)) _) | (with_reducible refine Below.setCell ?_ (by first | omega | (simp; done) | (simp; omega)) _)))
  have hz0 : w.heap.size < w0.heap.size := by rw [hw0]; simp
  have HV := Lib.hid (IsValidProgram_spec d lo lo' Aq cq qs l Ab nb cb w0 (hra.below b0) (hrb.below b0) hm hz hsz)
  have HW := Lib.hid hw0
  have B0 := Lib.hid b0
  have HA := Lib.hid hra.rd
  have HT := Lib.hid hrb
  obtain ⟨m, hmq⟩ : ∃ m, m = qs.length := ⟨_, rfl⟩
  rw [← hmq] at X0 HV HW HA hcq hm ⊢
  have HM := Lib.hid hmq
  clear hw0 b0 hra hrb hmq
  cases hp : progV d qs l
  · have HS : Hid (ckP d qs l = bad0) := by rw [ckP, if_neg (by rw [hp]; decide)]; exact rfl
    rw [hp] at HV
    clear hp
    go_enter Tryd.func33, Tryd.ntmps33
    go_upto_region 1 with (fail)
    rw [← HW.out]
    obtain ⟨p0, p1⟩ := boxc2 (lay := Below.refl _ _) X0.out
    go_wp2_with fail
    refine HV.out.mono ?_
    rintro e w1 ⟨rfl, b1, s1⟩
    have hbw := B0.out.trans (b1.mono (by omega))
    clear b1
    go_wp2_with fail
    go_ret2
    exact ⟨by rw [HS.out]; exact rfl, hbw, by omega⟩
  · have HS : Hid (ckP d qs l = if (dupF qs 0 qs).1 = 0 then chkT d l qs [] else dupF qs 0 qs) := by rw [ckP, if_pos hp]; exact rfl
    have hq4 := progV_len hp
    rw [← HM.out] at hq4
    have HVT := Lib.hid (progV_validC hp)
    rw [hp] at HV
    clear hp
    go_enter Tryd.func33, Tryd.ntmps33
    go_upto_region 1 with (fail)
    rw [← HW.out]
    obtain ⟨p0, p1⟩ := boxc2 (lay := Below.refl _ _) X0.out
    go_wp2_with fail
    refine HV.out.mono ?_
    rintro e w1 ⟨rfl, b1, s1⟩
    have B1 := Lib.hid b1
    have hz1 : w.heap.size < w1.heap.size := by omega
    clear p0 p1 b1
    go_wp2_with fail
    go_loopw [4] (fun i wr => ∃ t : Nat, t ≤ m ∧ i = .int .i64 t ∧ Hid (dupF qs 0 qs = dupF qs t (qs.drop t)) ∧ Below w1.heap.size w1 wr) (fun i _ => m - (intOf i).toNat)
    case atStart => exact ⟨0, Nat.zero_le _, rfl, rfl, Below.refl _ _⟩
    case round =>
      obtain ⟨t, ht, rfl, hd, hb⟩ := hrel
      have hbs := hb.size
      have bb := B1.out.trans (hb.mono (by omega))
      obtain ⟨p0, p1⟩ := boxc2 (lay := bb) X0.out
      have HA1 := Lib.hid ((HA.out.below B0.out).below bb)
      have hzr : w.heap.size < wr.heap.size := by omega
      clear bb
      by_cases hlt : t < m
      · obtain ⟨q, hq⟩ : ∃ q, qs[t]? = some q := ⟨_, List.getElem?_eq_getElem (by rw [← HM.out]; exact hlt)⟩
        obtain ⟨b, off, rfl, hbl, hcl⟩ := HA1.out.2 (by omega)
        have r0 := hcl t _ (strs_at hq)
        have RT : Hid (Rd wr 1 (some ⟨b, off, none⟩) t (strs (qs.take t))) := by
          have := HA1.out.take (t := t) (by omega)
          rw [strs_take] at this
          exact this
        have HD := Lib.hid (hd.out.trans (dupF_at hq))
        have hlen : (qs.take t).length = t := by rw [List.length_take, ← HM.out]; omega
        have HLE := Lib.hid hlen
        have htc : t ≤ cq := by omega
        have HBR := Lib.hid hb
        clear hcl hq hd hlen hb
        cases hh : hasS (qs.take t) q
        · have HN : Hid (dupF qs 0 qs = dupF qs (t + 1) (qs.drop (t + 1))) := by rw [HD.out, if_neg (by rw [hh]; decide)]; exact rfl
          go_wp2_with fail
          go_quiet ((go_at_call 74; exact Calls.quiet_of_same ((l1Has_any (some ⟨b, off, none⟩) t cq (qs.take t) q _ (RT.out.drewN _) HLE.out (by omega)).mono fun e W h => (⟨h.1.trans (by rw [hh]), h.2.symm⟩ : e = .returned (.bool false) ∧ W = _))))
          go_wp2_with fail
          go_roundw
          case rel => exact ⟨t + 1, by omega, by go_num, HN, below_drewN HBR.out _⟩
          case measure => simp [intOf]; omega
        · have HF : Hid (ckP d qs l = (1, q)) := by
            have h1 : dupF qs 0 qs = (1, q) := by rw [HD.out, if_pos hh]
            rw [HS.out, h1]
            exact rfl
          go_wp2_with fail
          go_quiet ((go_at_call 74; exact Calls.quiet_of_same ((l1Has_any (some ⟨b, off, none⟩) t cq (qs.take t) q _ (RT.out.drewN _) HLE.out (by omega)).mono fun e W h => (⟨h.1.trans (by rw [hh]), h.2.symm⟩ : e = .returned (.bool true) ∧ W = _))))
          go_wp2_with fail
          go_quiet (fail)
          go_wp2_with fail
          go_ret2
          exact ⟨by rw [HF.out]; exact rfl, below_drewN (below_drewN (B0.out.trans ((B1.out.mono (by omega)).trans (HBR.out.mono (by omega)))) _) _, by show _ ≤ wr.heap.size; omega⟩
      · obtain rfl : t = m := by omega
        have HF : Hid (ckP d qs l = chkT d l qs []) := by
          have h1 : dupF qs 0 qs = bad0 := by rw [hd.out, List.drop_of_length_le (by rw [← HM.out]; exact Nat.le_refl _)]; rfl
          rw [HS.out, h1, if_pos (show bad0.1 = 0 from rfl)]
          exact rfl
        obtain ⟨wx, hwx⟩ : ∃ wx, wx = wr.alloc (.cells #[.slice Aq t cq, .slice none 0 0, .bool false, .slice none 0 0] 97) := ⟨_, rfl⟩
        have bx : Below wr.heap.size wr wx := by rw [hwx]; exact (by repeat (first | exact Below.refl _ _ | assumption | (refine Below.trans ?_ (Below.mono (by assumption) (by first | omega | (simp; done) | (simp; omega)))) | (with_reducible refine Below.drew ?_) | (with_reducible refine Below.alloc ?_ (by first | omega | (simp; done) | (simp; omega)) _) | (with_reducible refine Below.setCell ?_ (by first | omega | (simp; done) | (simp; omega)) _)))
        have EV : EvS wx w.heap.size wr.heap.size Aq t cq [] (.slice none 0 0) := ⟨by rw [hwx]; exact boxed1_0 _ _, World.ownsRow_nil _ _ _ _⟩
        have bw1 : Below w.heap.size w wr := B0.out.trans ((B1.out.mono (by omega)).trans (hb.mono (by omega)))
        have hxs : w.heap.size ≤ wx.heap.size := by have := bx.size; omega
        have HC := Lib.hid (l20All_top d lo' w.heap.size wr.heap.size Ab nb cb l Aq t cq qs [] (.slice none 0 0) w wx HT.out HA.out HM.out.symm (Nat.le_refl _) hxs (bw1.trans (bx.mono (by omega))) (by omega) EV (by simp) hq4 hsz HVT.out)
        have WX := Lib.hid hwx
        have BX := Lib.hid (bw1.trans (bx.mono (by omega)))
        clear hwx bx EV bw1 hd hb
        go_wp2_with fail
        rw [← WX.out]
        refine HC.out.mono ?_
        rintro e w2 ⟨rfl, b2, s2⟩
        have HB2 := Lib.hid (BX.out.trans b2)
        obtain ⟨c, hc⟩ : ∃ c, c = chkT d l qs [] := ⟨_, rfl⟩
        rw [← hc] at HF ⊢
        clear b2 hc
        go_wp2_with fail
        go_quiet (fail)
        go_wp2_with fail
        go_ret2
        exact ⟨by rw [HF.out]; exact rfl, below_drewN (HB2.out.alloc (by omega) _) _, by simp; omega⟩
end Go.Proofs.YtijocafindbebaaDoor
