/- What the calls that this law reaches answer, part 12 of 30. -/
import Derived.Test.YtbamjfbfipkioaaDoorJFCheck8
import Derived.Test.YtbamjfbfipkioaaDoorJFCheck11
namespace Go.Proofs.YtbamjfbfipkioaaDoor
open Go.RowKit
set_option linter.unusedVariables false
def sel7 (b : Bool) (x y : Bad) : Bad := if b = true then x else y
theorem Grew.transV {r r' r'' : Option Nat} {z z' : Nat} (h : Grew r z r') (h' : Grew r' z' r'') (hz : z ≤ z') : Grew r z r'' := h.trans h' hz
set_option maxRecDepth 100000 in
set_option maxHeartbeats 8000000 in
theorem l20Stmt_6t (word : ByteArray) (args names bits : List ByteArray) (count : Int) (Aa : Option Addr) (m ca : Nat) (Ac : Option Addr) (nc cc : Nat) (An : Option Addr) (nn cn base E : Nat) (v : Value) (a c : ByteArray) (w : World) (hev : EvS w base E An nn cn bits v) (hbase : base ≤ w.heap.size) (hb3 : bits.length ≤ 3) (hm : args.length = m) (hra : Rd w 1 Aa m (strs args)) (hca : m ≤ ca) (h1 : m ≤ 1048576) (hnn : names.length = nn) (hrn : Rd w 1 An nn (strs names)) (h4 : nn ≤ 4) (h2 : 2 ≤ m) (ha : args[0]? = some a) (hc : args[1]? = some c) :
    Calls Tryd.prog 57 #[.agg #[.int .i64 6, .string word, .slice Aa m ca, .int .i64 count, .slice Ac nc cc], .pointer (some ⟨E, 0, none⟩)] w (RetMS base E An nn cn v (measT names bits a c) w) := by
  obtain ⟨A, cb, rfl, hcap, _, _⟩ := rd_of_own hev.o
  obtain ⟨b, off, rfl, hbw, hcl⟩ := hra.2 (by omega)
  obtain ⟨w0, hw0⟩ : ∃ w0, w0 = ((w.alloc (.cells #[.int .i64 6, .string word, .slice (some ⟨b, off, none⟩) m ca, .int .i64 count, .slice Ac nc cc] 27)).alloc (.cells #[.int .i64 0, .string ⟨#[]⟩] 67)).alloc (.cells #[.slice An nn cn, .slice none 0 0, .bool true, .slice A bits.length cb] 71) := ⟨_, rfl⟩
  have X0 := Lib.hid (show w0.heap[w.heap.size]? = some (.cells #[.int .i64 6, .string word, .slice (some ⟨b, off, none⟩) m ca, .int .i64 count, .slice Ac nc cc] 27 (0, 0)) by rw [hw0]; exact boxed3_0 _ _ _ _)
  have X1 := Lib.hid (show w0.heap[w.heap.size + 1]? = some (.cells #[.int .i64 0, .string ⟨#[]⟩] 67 (0, 0)) by rw [hw0]; exact boxed3_1 _ _ _ _)
  have X2 := Lib.hid (show w0.heap[w.heap.size + 1 + 1]? = some (.cells #[.slice An nn cn, .slice none 0 0, .bool true, .slice A bits.length cb] 71 (0, 0)) by rw [hw0]; exact boxed3_2 _ _ _ _)
  have b0 : Below w.heap.size w w0 := by rw [hw0]; exact (by repeat (first | exact Below.refl _ _ | assumption | (refine Below.trans ?_ (Below.mono (by assumption) (by first | omega | (simp; done) | (simp; omega)))) | (with_reducible refine Below.drew ?_) | (with_reducible refine Below.alloc ?_ (by first | omega | (simp; done) | (simp; omega)) _) | (with_reducible refine Below.setCell ?_ (by first | omega | (simp; done) | (simp; omega)) _)))
  have hz : w.heap.size + 1 + 1 < w0.heap.size := by rw [hw0]; simp
  have hz0 : w.heap.size < w0.heap.size := by omega
  have hz1 : w.heap.size + 1 < w0.heap.size := by omega
  have HW := Lib.hid hw0
  have HA := Lib.hid (hra.below b0)
  have HN := Lib.hid (hrn.below b0)
  have EV := Lib.hid (hev.below b0)
  have HM := Lib.hid hm
  have HNN := Lib.hid hnn
  have B0 := Lib.hid b0
  have hEl := lt_of_block hev.x
  have hE1 : E < w.heap.size + 1 := by omega
  have hE2 : E < w.heap.size + 1 + 1 := by omega
  have hvl : ∀ k, (Value.slice A bits.length cb).ownBlock = some k → k < w.heap.size := fun k e => (hev.o.lt k e).2
  have HVL := Lib.hid hvl
  have VN : Hid ((Value.slice A bits.length cb).ownBlock ≠ some (w.heap.size + 1)) := fun e => by have := hvl _ e; omega
  have hbl : b < w0.heap.size := by omega
  have hm2 : 0 < m := by omega
  have r0 := hcl 0 _ (strs_at ha)
  rw [Nat.add_zero, ← b0.cell (p := ⟨b, off, none⟩) hbw] at r0
  have R0 := Lib.hid r0
  have HA0 := Lib.hid ha
  obtain ⟨e0, e1, e2, e3⟩ := boxcells4' (lay := Below.refl _ _) hev.x
  clear hcl hra hrn hm hnn hvl ha r0
  have HC0 := Lib.hid hc
  clear hc
  go_enter Tryd.func57, Tryd.ntmps57
  go_wp2_with fail
  rw [← HW.out]
  clear e0 e1 e2 e3 hev b0 hw0
  have hEl0 : E < w0.heap.size := by omega
  obtain ⟨e0, e1, e2, e3⟩ := boxcells4' (lay := Below.refl _ _) EV.out.x
  obtain ⟨p0, p1, p2, p3, p4⟩ := boxcells5 (lay := Below.refl _ _) X0.out
  obtain ⟨k0, k1⟩ := boxc2 (lay := Below.refl _ _) X1.out
  have f0 := boxfree (Below.refl _ _) X1.out 0
  have f1 := boxfree (Below.refl _ _) X1.out 1
  go_wp2_with fail
  refine (l20Measure_top word args count (some ⟨b, off, none⟩) m ca Ac nc cc An nn cn base E names bits (.slice A bits.length cb) a c w0 EV.out (by omega) hb3 HM.out HA.out hca h2 h1 HA0.out HC0.out HNN.out HN.out (by omega)).mono ?_
  rintro e w1 ⟨v', rfl, ev1, m1, g1⟩
  have hx1 : w1.heap[w.heap.size + 1]? = some (.cells #[.int .i64 0, .string ⟨#[]⟩] 67 (0, 0)) := (m1.block _ hz1 (by omega) (fun e => by have := HVL.out _ e; omega)).trans X1.out
  clear k0 k1 f0 f1
  obtain ⟨k0, k1⟩ := boxc2 (lay := Below.refl _ _) hx1
  have f0 := boxfree (Below.refl _ _) hx1 0
  have f1 := boxfree (Below.refl _ _) hx1 1
  have hl1 : w.heap.size + 1 < w1.heap.size := lt_of_block hx1
  have x4 : v'.ownBlock ≠ some (w.heap.size + 1) := fun e => by
    rcases g1 with g | ⟨k, g, hk⟩
    · exact VN.out (g.symm.trans e)
    · have := Option.some.inj (g.symm.trans e); omega
  have EV1 := Lib.hid ev1
  have M1 := Lib.hid ((Mod.of_below E (Value.slice A bits.length cb).ownBlock B0.out).trans m1 (.inl rfl))
  have G1 := Lib.hid (g1.weakV (z' := w.heap.size) (by omega))
  have HX4 := Lib.hid x4
  obtain ⟨z, hzz⟩ : ∃ z, z = measT names bits a c := ⟨_, rfl⟩
  rw [← hzz] at EV1 ⊢
  have HZ := Lib.hid hzz
  clear hx1 ev1 m1 g1 x4 hzz
  go_wp2_with fail
  exact bodyPost_ret (v := .agg #[.int .i64 z.1.1, .string z.1.2]) (by simp [results, Tryd.results57, go_sem, k0, k1]) rfl ⟨v', by rw [← HZ.out], by rw [← HZ.out]; exact (EV1.out.set (by first | omega | (dsimp only; omega)) (by first | exact HX4.out | (dsimp only; exact HX4.out)) _).set (by first | omega | (dsimp only; omega)) (by first | exact HX4.out | (dsimp only; exact HX4.out)) _, (M1.out.set (.inr (by simp)) _).set (.inr (by simp)) _, G1.out⟩
set_option maxRecDepth 100000 in
set_option maxHeartbeats 8000000 in
theorem l20Stmt_7t (d : Nat) (bd : List (Tr d)) (word : ByteArray) (args names bits : List ByteArray) (count : Int) (Aa : Option Addr) (m ca : Nat) (Ac : Option Addr) (nc cc : Nat) (An : Option Addr) (nn cn base E : Nat) (v : Value) (a : ByteArray) (w : World) (hev : EvS w base E An nn cn bits v) (hbase : base ≤ w.heap.size) (hb3 : bits.length ≤ 3) (hm : args.length = m) (hra : Rd w 1 Aa m (strs args)) (hca : m ≤ ca) (h1 : m ≤ 1048576) (hnn : names.length = nn) (hrn : Rd w 1 An nn (strs names)) (h4 : nn ≤ 4) (h2 : 1 ≤ m) (ha : args[0]? = some a) (h3 : szT d bd ≤ 1048576) (hbody : BodyS d bd w Ac nc cc) :
    Calls Tryd.prog 57 #[.agg #[.int .i64 7, .string word, .slice Aa m ca, .int .i64 count, .slice Ac nc cc], .pointer (some ⟨E, 0, none⟩)] w (RetMS base E An nn cn v (sel7 (hasS bits a) (chkN d bd names []) (7, a), bits) w) := by
  obtain ⟨A, cb, rfl, hcap, _, _⟩ := rd_of_own hev.o
  obtain ⟨b, off, rfl, hbw, hcl⟩ := hra.2 (by omega)
  obtain ⟨w0, hw0⟩ : ∃ w0, w0 = ((w.alloc (.cells #[.int .i64 7, .string word, .slice (some ⟨b, off, none⟩) m ca, .int .i64 count, .slice Ac nc cc] 27)).alloc (.cells #[.int .i64 0, .string ⟨#[]⟩] 67)).alloc (.cells #[.slice An nn cn, .slice none 0 0, .bool true, .slice A bits.length cb] 71) := ⟨_, rfl⟩
  have X0 := Lib.hid (show w0.heap[w.heap.size]? = some (.cells #[.int .i64 7, .string word, .slice (some ⟨b, off, none⟩) m ca, .int .i64 count, .slice Ac nc cc] 27 (0, 0)) by rw [hw0]; exact boxed3_0 _ _ _ _)
  have X1 := Lib.hid (show w0.heap[w.heap.size + 1]? = some (.cells #[.int .i64 0, .string ⟨#[]⟩] 67 (0, 0)) by rw [hw0]; exact boxed3_1 _ _ _ _)
  have X2 := Lib.hid (show w0.heap[w.heap.size + 1 + 1]? = some (.cells #[.slice An nn cn, .slice none 0 0, .bool true, .slice A bits.length cb] 71 (0, 0)) by rw [hw0]; exact boxed3_2 _ _ _ _)
  have b0 : Below w.heap.size w w0 := by rw [hw0]; exact (by repeat (first | exact Below.refl _ _ | assumption | (refine Below.trans ?_ (Below.mono (by assumption) (by first | omega | (simp; done) | (simp; omega)))) | (with_reducible refine Below.drew ?_) | (with_reducible refine Below.alloc ?_ (by first | omega | (simp; done) | (simp; omega)) _) | (with_reducible refine Below.setCell ?_ (by first | omega | (simp; done) | (simp; omega)) _)))
  have hz : w.heap.size + 1 + 1 < w0.heap.size := by rw [hw0]; simp
  have hz0 : w.heap.size < w0.heap.size := by omega
  have hz1 : w.heap.size + 1 < w0.heap.size := by omega
  have HW := Lib.hid hw0
  have HA := Lib.hid (hra.below b0)
  have HN := Lib.hid (hrn.below b0)
  have EV := Lib.hid (hev.below b0)
  have HM := Lib.hid hm
  have HNN := Lib.hid hnn
  have B0 := Lib.hid b0
  have hEl := lt_of_block hev.x
  have hE1 : E < w.heap.size + 1 := by omega
  have hE2 : E < w.heap.size + 1 + 1 := by omega
  have hvl : ∀ k, (Value.slice A bits.length cb).ownBlock = some k → k < w.heap.size := fun k e => (hev.o.lt k e).2
  have HVL := Lib.hid hvl
  have VN : Hid ((Value.slice A bits.length cb).ownBlock ≠ some (w.heap.size + 1)) := fun e => by have := hvl _ e; omega
  have hbl : b < w0.heap.size := by omega
  have hm2 : 0 < m := by omega
  have r0 := hcl 0 _ (strs_at ha)
  rw [Nat.add_zero, ← b0.cell (p := ⟨b, off, none⟩) hbw] at r0
  have R0 := Lib.hid r0
  have HA0 := Lib.hid ha
  obtain ⟨e0, e1, e2, e3⟩ := boxcells4' (lay := Below.refl _ _) hev.x
  clear hcl hra hrn hm hnn hvl ha r0
  have HB := Lib.hid hbody
  clear hbody
  go_enter Tryd.func57, Tryd.ntmps57
  go_wp2_with fail
  rw [← HW.out]
  clear e0 e1 e2 e3 hev b0 hw0
  have hEl0 : E < w0.heap.size := by omega
  obtain ⟨e0, e1, e2, e3⟩ := boxcells4' (lay := Below.refl _ _) EV.out.x
  obtain ⟨p0, p1, p2, p3, p4⟩ := boxcells5 (lay := Below.refl _ _) X0.out
  obtain ⟨k0, k1⟩ := boxc2 (lay := Below.refl _ _) X1.out
  have f0 := boxfree (Below.refl _ _) X1.out 0
  have f1 := boxfree (Below.refl _ _) X1.out 1
  have HRB := Lib.hid (rd_own EV.out.o)
  have r0 := R0.out
  have M0 : Hid (Mod E (Value.slice A bits.length cb).ownBlock w w0) := Mod.of_below E _ B0.out
  cases e1 : hasS bits a
  · have HS : Hid ((sel7 (hasS bits a) (chkN d bd names []) (7, a), bits) = (((7, a) : Bad), bits)) := by rw [e1]; exact rfl
    go_wp2_with fail
    go_quiet ((go_at_call 40; exact Calls.quiet_of_same ((l1Has_any A bits.length cb bits a _ (HRB.out.drewN _) rfl (by omega)).mono fun e W h => (⟨h.1.trans (by rw [e1]), h.2.symm⟩ : e = .returned (.bool false) ∧ W = _))))
    go_wp2_with fail
    exact bodyPost_ret (v := .agg #[.int .i64 7, .string a]) (by simp [results, Tryd.results57, go_sem, k0, k1]) rfl ⟨_, by rw [HS.out], by rw [HS.out]; exact ((EV.out.drewN _).set (by first | omega | (dsimp only; omega)) (by first | exact VN.out | (dsimp only; exact VN.out)) _).set (by first | omega | (dsimp only; omega)) (by first | exact VN.out | (dsimp only; exact VN.out)) _, ((M0.out.drewN _).set (.inr (by simp)) _).set (.inr (by simp)) _, .inl rfl⟩
  · obtain ⟨z, hz9⟩ : ∃ z, z = chkN d bd names [] := ⟨_, rfl⟩
    have HS : Hid ((sel7 (hasS bits a) (chkN d bd names []) (7, a), bits) = (z, bits)) := by rw [hz9, e1]; exact rfl
    have HZ := Lib.hid hz9
    clear hz9
    go_wp2_with fail
    go_quiet ((go_at_call 40; exact Calls.quiet_of_same ((l1Has_any A bits.length cb bits a _ (HRB.out.drewN _) rfl (by omega)).mono fun e W h => (⟨h.1.trans (by rw [e1]), h.2.symm⟩ : e = .returned (.bool true) ∧ W = _))))
    go_wp2_with fail
    refine (HB.out (w.heap.size + 1 + 1) An nn cn none 0 0 A bits.length cb names [] _ (below_drewN B0.out _) X2.out (HN.out.drewN _) (rnil _) HNN.out rfl h4 (by omega)).mono ?_
    rintro e w1 ⟨rfl, b1d, s1d⟩
    have b1 : Below w0.heap.size w0 w1 := ⟨b1d.os, b1d.tape, b1d.output, b1d.size, b1d.block⟩
    clear k0 k1 f0 f1 b1d s1d
    obtain ⟨k0, k1⟩ := boxc2 (lay := b1) X1.out
    have f0 := boxfree b1 X1.out 0
    have f1 := boxfree b1 X1.out 1
    have hl1 : w.heap.size + 1 < w1.heap.size := by have := b1.size; omega
    rw [← HZ.out]
    have EV1 := Lib.hid (EV.out.below b1)
    have M1 := Lib.hid (M0.out.trans (Mod.of_below E _ b1) (.inl rfl))
    clear b1
    go_wp2_with fail
    exact bodyPost_ret (v := .agg #[.int .i64 z.1, .string z.2]) (by simp [results, Tryd.results57, go_sem, k0, k1]) rfl ⟨_, by rw [HS.out], by rw [HS.out]; exact (EV1.out.set (by first | omega | (dsimp only; omega)) (by first | exact VN.out | (dsimp only; exact VN.out)) _).set (by first | omega | (dsimp only; omega)) (by first | exact VN.out | (dsimp only; exact VN.out)) _, (M1.out.set (.inr (by simp)) _).set (.inr (by simp)) _, .inl rfl⟩
theorem l20Stmt_any_top (d : Nat) (bd : List (Tr d)) (k : Int) (word : ByteArray) (args names bits : List ByteArray) (count : Int) (Aa : Option Addr) (m ca : Nat) (Ac : Option Addr) (nc cc : Nat) (An : Option Addr) (nn cn base E : Nat) (v : Value) (w : World) (hev : EvS w base E An nn cn bits v) (hbase : base ≤ w.heap.size) (hb3 : bits.length ≤ 3) (hm : args.length = m) (hra : Rd w 1 Aa m (strs args)) (hca : m ≤ ca) (h1 : m ≤ 1048576) (hnn : names.length = nn) (hrn : Rd w 1 An nn (strs names)) (h4 : nn ≤ 4) (hv : vOne d (validT d) ⟨k, word, args, count⟩ bd = true) (h3 : m + szT d bd ≤ 1048576) (hbody : BodyS d bd w Ac nc cc) :
    Calls Tryd.prog 57 #[.agg #[.int .i64 k, .string word, .slice Aa m ca, .int .i64 count, .slice Ac nc cc], .pointer (some ⟨E, 0, none⟩)] w (RetMS base E An nn cn v (oneT d ⟨k, word, args, count⟩ bd names bits) w) := by
  obtain ⟨hk, _, _⟩ := vOne_facts hv
  obtain ⟨g6, g4⟩ := nargs_facts hv
  by_cases h6 : k = 6
  · subst h6
    have hl : 2 ≤ args.length := g6 rfl
    have e : oneT d ⟨6, word, args, count⟩ bd names bits = measT names bits (arg0 ⟨6, word, args, count⟩) (arg1 ⟨6, word, args, count⟩) := by rw [oneT, if_pos rfl]
    rw [e]
    exact l20Stmt_6t word args names bits count Aa m ca Ac nc cc An nn cn base E v _ _ w hev hbase hb3 hm hra hca h1 hnn hrn h4 (by omega) (arg0_of (h := ⟨6, word, args, count⟩) (show 0 < args.length by omega)) (arg1_of (h := ⟨6, word, args, count⟩) hl)
  · by_cases h7 : k = 7
    · subst h7
      have hl : 1 ≤ args.length := g4 (show (4 : Int) ≤ 7 by decide)
      have e : oneT d ⟨7, word, args, count⟩ bd names bits = (sel7 (hasS bits (arg0 ⟨7, word, args, count⟩)) (chkN d bd names []) (7, arg0 ⟨7, word, args, count⟩), bits) := by rw [oneT, if_neg h6, if_pos rfl]; rfl
      rw [e]
      exact l20Stmt_7t d bd word args names bits count Aa m ca Ac nc cc An nn cn base E v _ w hev hbase hb3 hm hra hca h1 hnn hrn h4 (by omega) (arg0_of (h := ⟨7, word, args, count⟩) hl) (by omega) hbody
    · have e : oneT d ⟨k, word, args, count⟩ bd names bits = (oneN ⟨k, word, args, count⟩ (chkN d bd) names [], bits) := by rw [oneT, if_neg h6, if_neg h7]
      rw [e]
      obtain ⟨A, cb, rfl, hcap, _, _⟩ := rd_of_own hev.o
      have hh : Calls Tryd.prog 57 #[.agg #[.int .i64 k, .string word, .slice Aa m ca, .int .i64 count, .slice Ac nc cc], .pointer (some ⟨E, 0, none⟩)] w (RetBadA (oneN ⟨k, word, args, count⟩ (chkN d bd) names []) w) := by
        have h : k = 1 ∨ k = 2 ∨ k = 3 ∨ k = 4 ∨ k = 5 := by omega
        rcases h with rfl | rfl | rfl | rfl | rfl
        · exact l20Stmt_1 d word args names [] count bd Aa m ca Ac nc cc E An none A nn cn 0 0 bits.length cb false w hev.x hm hra hca hnn hrn rfl (rnil _) h1 h4 (by omega) hv hbody
        · exact l20Stmt_2 d word args names [] count bd Aa m ca Ac nc cc E An none A nn cn 0 0 bits.length cb false w hev.x hm hra hca hnn hrn rfl (rnil _) h1 h4 (by omega) hv hbody
        · exact l20Stmt_3 d word args names [] count bd Aa m ca Ac nc cc E An none A nn cn 0 0 bits.length cb false w hev.x hm hra hca hnn hrn rfl (rnil _) h1 h4 (by omega) hv hbody
        · exact l20Stmt_4 d word args names [] count bd Aa m ca Ac nc cc E An none A nn cn 0 0 bits.length cb false w hev.x hm hra hca hnn hrn rfl (rnil _) h1 h4 (by omega) hv hbody
        · exact l20Stmt_5 d word args names [] count bd Aa m ca Ac nc cc E An none A nn cn 0 0 bits.length cb false w hev.x hm hra hca hnn hrn rfl (rnil _) h1 h4 (by omega) hv hbody
      refine hh.mono ?_
      rintro e w' ⟨rfl, b', s'⟩
      exact ⟨_, rfl, hev.below b', Mod.of_below _ _ b', .inl rfl⟩
def RetAllS (base : Nat) (c : Bad) (w : World) (e : Ending) (w' : World) : Prop := e = .returned (.agg #[.int .i64 c.1, .string c.2]) ∧ Below base w w' ∧ w.heap.size ≤ w'.heap.size
set_option maxRecDepth 100000 in
set_option maxHeartbeats 8000000 in
theorem l20All_top (d lo base E : Nat) (A : Option Addr) (n c : Nat) (l : List (Tr d)) (An : Option Addr) (nn cn : Nat) (names bits0 : List ByteArray) (v0 : Value) (wB w : World) (h : RdT wB lo d A n l) (hrn : Rd wB 1 An nn (strs names)) (hnn : names.length = nn) (hB : wB.heap.size ≤ base) (hbase : base ≤ w.heap.size) (hbB : Below base wB w) (hX : base ≤ E) (hev : EvS w base E An nn cn bits0 v0) (hb3 : bits0.length ≤ 3) (h4 : nn ≤ 4) (hsz : szT d l ≤ 1048576) (hv : validT d l = true) :
    Calls Tryd.prog 41 #[.slice A n c, .pointer (some ⟨E, 0, none⟩)] w (RetAllS base (chkT d l names bits0) w) := by
  cases d with
  | zero =>
    obtain rfl := szT_zero_len h
    clear h hrn hnn hbB hev
    go_enter Tryd.func41, Tryd.ntmps41
    go_wp2
    refine wp_loop_rounds 1 ?_
    rw [rounds_succ]
    go_wp2
    exact bodyPost_ret (v := .agg #[.int .i64 0, .string ⟨#[]⟩]) (by simp [results, Tryd.results41, go_sem]) rfl ⟨rfl, (Below.refl _ _).alloc hbase _, (by first | omega | (simp; done) | (simp; omega))⟩
  | succ d =>
    have hq := hsz
    rw [szT_succ] at hq
    have hln := h.len
    have hn : n ≤ 1048576 := by omega
    obtain ⟨f, hf⟩ : ∃ f, f = fun (s : Tr (d + 1)) bits => oneT d (hdT s) (bdT s) names bits := ⟨_, rfl⟩
    obtain ⟨RES, hRES⟩ : ∃ RES, RES = topB f l bits0 := ⟨_, rfl⟩
    have HRES : Hid (chkT (d + 1) l names bits0 = RES) := by rw [hRES, hf]; exact rfl
    obtain ⟨w0, hw0⟩ : ∃ w0, w0 = w.alloc (.cells #[.int .i64 0, .string ⟨#[]⟩] 67) := ⟨_, rfl⟩
    have X0 := Lib.hid (show w0.heap[w.heap.size]? = some (.cells #[.int .i64 0, .string ⟨#[]⟩] 67 (0, 0)) by rw [hw0]; exact boxed1_0 _ _)
    have b0 : Below w.heap.size w w0 := by rw [hw0]; exact (by repeat (first | exact Below.refl _ _ | assumption | (refine Below.trans ?_ (Below.mono (by assumption) (by first | omega | (simp; done) | (simp; omega)))) | (with_reducible refine Below.drew ?_) | (with_reducible refine Below.alloc ?_ (by first | omega | (simp; done) | (simp; omega)) _) | (with_reducible refine Below.setCell ?_ (by first | omega | (simp; done) | (simp; omega)) _)))
    have hz0 : w.heap.size < w0.heap.size := by rw [hw0]; simp
    have hxw : E < w.heap.size := lt_of_block hev.x
    have hvl : ∀ k, v0.ownBlock = some k → base ≤ k ∧ k < w.heap.size := fun k e => hev.o.lt k e
    have HVL := Lib.hid hvl
    have EV0 := Lib.hid (hev.below b0)
    have HW := Lib.hid hw0
    have H := Lib.hid h
    have HLN := Lib.hid hln
    have HF := Lib.hid hf
    have HRS := Lib.hid hRES
    have HN := Lib.hid hrn
    have HNN := Lib.hid hnn
    have HQ := Lib.hid hq
    have HV := Lib.hid hv
    have B0 := Lib.hid b0
    have BB := Lib.hid (hbB.trans (b0.mono hbase))
    clear h hln hf hRES hrn hnn hsz hq hv hw0 b0 hev hvl hbB
    go_enter Tryd.func41, Tryd.ntmps41
    go_wp2_with fail
    rw [← HW.out]
    go_loopw [5] (fun i wr => ∃ (t : Nat) (v : Value) (bits : List ByteArray), t ≤ n ∧ i = .int .i64 t ∧ Hid (topB f (l.drop t) bits = RES) ∧ Hid (bits.length ≤ 3) ∧ Hid (EvS wr base E An nn cn bits v) ∧ Hid (Mod E v0.ownBlock w0 wr) ∧ Hid (Grew v0.ownBlock w0.heap.size v.ownBlock)) (fun i _ => n - (intOf i).toNat)
    case atStart => exact ⟨0, v0, bits0, Nat.zero_le _, rfl, HRS.out.symm, hb3, EV0.out, Mod.of_below _ _ (Below.refl _ _), .inl rfl⟩
    case round =>
      obtain ⟨t, v, bits, ht, rfl, hres, hb3r, hevr, hmod, hgr⟩ := hrel
      have hbs := hmod.out.size
      have hBr : Below base w0 wr := hmod.out.below (by omega) hX (fun k e => (HVL.out k e).1)
      have hbB : Below wB.heap.size wB wr := (BB.out.trans hBr).mono hB
      have hX0r : wr.heap[w.heap.size]? = some (.cells #[.int .i64 0, .string ⟨#[]⟩] 67 (0, 0)) := (hmod.out.block _ hz0 (by omega) (fun e => by have := (HVL.out _ e).2; omega)).trans X0.out
      by_cases hlt : t < n
      · obtain ⟨b, off, s, Aa, ca, Ac, nc, cc, rfl, hbl, hs, ⟨c0, c1, c2, c3, c4⟩, ha, hbd, hcap⟩ := H.out.at_c hlt
        rw [← hbB.cell (p := ⟨b, _, none⟩) hbl] at c0 c1 c2 c3 c4
        have hbl' : b < wr.heap.size := Nat.lt_of_lt_of_le hbl hbB.size
        have hme := szT_mem hs
        have hze : szE s = (hdT s).word.size + ((hdT s).args.length + szS (hdT s).args + szT d (bdT s)) := rfl
        have hq := HQ.out
        have hvs := validT_mem HV.out hs
        obtain ⟨hk, _, hvb⟩ := vOne_facts hvs
        have HC := Lib.hid (l20Stmt_any_top d (bdT s) (hdT s).k (hdT s).word (hdT s).args names bits (hdT s).count Aa _ ca Ac nc cc An nn cn base E v wr hevr.out (by omega) hb3r.out rfl (ha.rd.below hbB) hcap (by omega) HNN.out (HN.out.below hbB) h4 hvs (by omega) (bodyS_of (l20All_in d) cc (hbd.below hbB) hvb))
        obtain ⟨R, hR⟩ : ∃ R, R = oneT d (hdT s) (bdT s) names bits := ⟨_, rfl⟩
        have HC2 : Hid (Calls Tryd.prog 57 #[.agg #[.int .i64 (hdT s).k, .string (hdT s).word, .slice Aa (hdT s).args.length ca, .int .i64 (hdT s).count, .slice Ac nc cc], .pointer (some ⟨E, 0, none⟩)] wr (RetMS base E An nn cn v R wr)) := by
          rw [hR]
          exact HC.out
        have HAT : Hid (RES = if R.1.1 = 0 then topB f (l.drop (t + 1)) R.2 else R.1) := by
          rw [← hres.out, topB_at hs, HF.out, hR]
          exact rfl
        have HB3 : Hid (R.2.length ≤ 3) := by rw [hR]; exact oneT_len hb3r.out
        have hvlr : ∀ k, v.ownBlock = some k → k < wr.heap.size := fun k e => (hevr.out.o.lt k e).2
        have hvX : v.ownBlock ≠ some w.heap.size := fun e => by rcases hgr.out with g | ⟨k', g, hk'⟩ <;> have hh := g.symm.trans e <;> first | (have := (HVL.out _ hh).2; omega) | (have := Option.some.inj hh; omega)
        have HVX := Lib.hid hvX
        clear hs ha hbd hcap hme hze hq hvs hk hvb HC hR hvlr hvX hevr hres
        go_wp2_with fail
        refine HC2.out.mono ?_
        rintro e w1 ⟨v1, rfl, ev1, m1, g1⟩
        have hX1 : w1.heap[w.heap.size]? = some (.cells #[.int .i64 0, .string ⟨#[]⟩] 67 (0, 0)) := (m1.block _ (by omega) (by omega) HVX.out).trans hX0r
        obtain ⟨k0, k1⟩ := boxc2 (lay := Below.refl _ _) hX1
        have f0 := boxfree (Below.refl _ _) hX1 0
        have f1 := boxfree (Below.refl _ _) hX1 1
        have hl1 : w.heap.size < w1.heap.size := lt_of_block hX1
        have hs1 := m1.size
        have MW1 := Lib.hid (hmod.out.trans m1 hgr.out)
        have GR1 := Lib.hid (hgr.out.transV g1 (by omega))
        have EV1 := Lib.hid ev1
        clear c0 c1 c2 c3 c4 hX1 ev1 m1 g1 hmod hgr
        by_cases hc0 : R.1.1 = 0
        · have HZ : Hid (topB f (l.drop (t + 1)) R.2 = RES) := by rw [HAT.out, if_pos hc0]; exact rfl
          have hne : (R.1.1 != 0) = false := by simp [hc0]
          have HC0 := Lib.hid hc0
          clear hc0
          go_wp2_with fail
          go_roundw
          case rel => exact ⟨t + 1, v1, R.2, by omega, by go_num, HZ, HB3, EV1.out.below ((Below.refl _ _).alloc (Nat.le_refl _) _), MW1.out.trans (Mod.of_below E _ ((Below.refl _ _).alloc (Nat.le_refl _) _)) (.inl rfl), GR1⟩
          case measure => simp [intOf]; omega
        · have HE2 : Hid (RES = R.1) := by rw [HAT.out, if_neg hc0]; exact rfl
          have hne : (R.1.1 != 0) = true := by rw [bne_iff_ne]; exact hc0
          have HBE := Lib.hid (MW1.out.below (B := base) (by omega) hX (fun k e => (HVL.out k e).1))
          clear hc0
          go_wp2_with fail
          exact bodyPost_ret (v := .agg #[.int .i64 R.1.1, .string R.1.2]) (by simp [results, Tryd.results41, go_sem, k0, k1, hl1]) rfl ⟨by rw [HRES.out, HE2.out], ((((B0.out.mono hbase).trans HBE.out).setCell hbase _).setCell hbase _).alloc (by rw [size_setCell, size_setCell]; have := HBE.out.size; omega) _, by have := HBE.out.size; simp [World.setCell]; omega⟩
      · obtain rfl : t = n := by omega
        have HFN : Hid (RES = bad0) := by
          rw [← hres.out, List.drop_of_length_le (by rw [HLN.out]; exact Nat.le_refl _)]
          exact rfl
        have HB := Lib.hid hBr
        obtain ⟨k0, k1⟩ := boxc2 (lay := Below.refl _ _) hX0r
        have f0 := boxfree (Below.refl _ _) hX0r 0
        have f1 := boxfree (Below.refl _ _) hX0r 1
        have hl1 : w.heap.size < wr.heap.size := lt_of_block hX0r
        clear hX0r hbB hBr hmod hgr hevr
        go_wp2_with fail
        exact bodyPost_ret (v := .agg #[.int .i64 0, .string ⟨#[]⟩]) (by simp [results, Tryd.results41, go_sem, k0, k1]) rfl ⟨by rw [HRES.out, HFN.out]; rfl, (((B0.out.mono hbase).trans HB.out).setCell hbase _).setCell hbase _, by simp [World.setCell]; omega⟩
end Go.Proofs.YtbamjfbfipkioaaDoor
