/- What the calls that this law reaches answer, part 7 of 30. -/
import Derived.Test.YtbamjfbfipkioaaDoorJFCheck5
namespace Go.Proofs.YtbamjfbfipkioaaDoor
open Go.RowKit
set_option linter.unusedVariables false
/-- What l20All answers of a body. -/
def BodyS (d : Nat) (bd : List (Tr d)) (w : World) (Ac : Option Addr) (nc cc : Nat) : Prop := ∀ (E : Nat) (An : Option Addr) (nn cn : Nat) (Ah : Option Addr) (nh ch : Nat) (Ab : Option Addr) (nb cb : Nat) (names held : List ByteArray) (w' : World), Below w.heap.size w w' →
  w'.heap[E]? = some (.cells #[.slice An nn cn, .slice Ah nh ch, .bool true, .slice Ab nb cb] 71 (0, 0)) → Rd w' 1 An nn (strs names) → Rd w' 1 Ah nh (strs held) → names.length = nn → held.length = nh → nn ≤ 4 → nh + szT d bd ≤ 1048576 →
  Calls Tryd.prog 41 #[.slice Ac nc cc, .pointer (some ⟨E, 0, none⟩)] w' (RetBadA (chkN d bd names held) w')
set_option maxRecDepth 100000 in
set_option maxHeartbeats 8000000 in
theorem l20Stmt_1 (d : Nat) (word : ByteArray) (args names held : List ByteArray) (count : Int) (bd : List (Tr d)) (Aa : Option Addr) (m ca : Nat) (Ac : Option Addr) (nc cc E : Nat) (An Ah Ab : Option Addr) (nn cn nh ch nb cb : Nat) (ins : Bool) (w : World)
    (hx : w.heap[E]? = some (.cells #[.slice An nn cn, .slice Ah nh ch, .bool ins, .slice Ab nb cb] 71 (0, 0))) (hm : args.length = m) (hra : Rd w 1 Aa m (strs args)) (hca : m ≤ ca) (hnn : names.length = nn) (hrn : Rd w 1 An nn (strs names)) (hnh : held.length = nh) (hrh : Rd w 1 Ah nh (strs held)) (h1 : m ≤ 1048576) (h2 : nn ≤ 4) (h3 : nh + m + szT d bd ≤ 1048576)
    (hv : vOne d (validT d) ⟨1, word, args, count⟩ bd = true) (hbody : BodyS d bd w Ac nc cc) :
    Calls Tryd.prog 57 #[.agg #[.int .i64 1, .string word, .slice Aa m ca, .int .i64 count, .slice Ac nc cc], .pointer (some ⟨E, 0, none⟩)] w (RetBadA (oneN ⟨1, word, args, count⟩ (chkN d bd) names held) w) := by
  obtain ⟨w0, hw0⟩ : ∃ w0, w0 = ((w.alloc (.cells #[.int .i64 1, .string word, .slice Aa m ca, .int .i64 count, .slice Ac nc cc] 27)).alloc (.cells #[.int .i64 0, .string ⟨#[]⟩] 67)).alloc (.cells #[.slice An nn cn, .slice Ah nh ch, .bool true, .slice Ab nb cb] 71) := ⟨_, rfl⟩
  have X0 := Lib.hid (show w0.heap[w.heap.size]? = some (.cells #[.int .i64 1, .string word, .slice Aa m ca, .int .i64 count, .slice Ac nc cc] 27 (0, 0)) by rw [hw0]; exact boxed3_0 _ _ _ _)
  have X1 := Lib.hid (show w0.heap[w.heap.size + 1]? = some (.cells #[.int .i64 0, .string ⟨#[]⟩] 67 (0, 0)) by rw [hw0]; exact boxed3_1 _ _ _ _)
  have X2 := Lib.hid (show w0.heap[w.heap.size + 1 + 1]? = some (.cells #[.slice An nn cn, .slice Ah nh ch, .bool true, .slice Ab nb cb] 71 (0, 0)) by rw [hw0]; exact boxed3_2 _ _ _ _)
  have b0 : Below w.heap.size w w0 := by rw [hw0]; exact (by repeat (first | exact Below.refl _ _ | assumption | (refine Below.trans ?_ (Below.mono (by assumption) (by first | omega | (simp; done) | (simp; omega)))) | (with_reducible refine Below.drew ?_) | (with_reducible refine Below.alloc ?_ (by first | omega | (simp; done) | (simp; omega)) _) | (with_reducible refine Below.setCell ?_ (by first | omega | (simp; done) | (simp; omega)) _)))
  have hz : w.heap.size + 1 + 1 < w0.heap.size := by rw [hw0]; simp
  have hz0 : w.heap.size < w0.heap.size := by omega
  have hz1 : w.heap.size + 1 < w0.heap.size := by omega
  have HW := Lib.hid hw0
  have HA0 := Lib.hid hra
  have HA := Lib.hid (hra.below b0)
  have HN0 := Lib.hid hrn
  have HH0 := Lib.hid hrh
  have HN := Lib.hid (hrn.below b0)
  have HH := Lib.hid (hrh.below b0)
  have XE := Lib.hid ((b0.block E (lt_of_block hx)).trans hx)
  have HM := Lib.hid hm
  have HNN := Lib.hid hnn
  have HNH := Lib.hid hnh
  have B0 := Lib.hid b0
  have HV := Lib.hid hv
  have HB := Lib.hid hbody
  have al : ∀ (W : World) (ob : Obj), Below W.heap.size W (W.alloc ob) := fun W ob => (Below.refl _ _).alloc (Nat.le_refl _) _
  have AL := Lib.hid al
  have hEl := lt_of_block hx
  have hE1 : E < w.heap.size + 1 := by omega
  have hE2 : E < w.heap.size + 1 + 1 := by omega
  obtain ⟨e0, e1, e2, e3⟩ := boxcells4' (lay := Below.refl _ _) hx
  clear hra hrn hrh hm hnn hnh hv hbody al
  go_enter Tryd.func57, Tryd.ntmps57
  go_wp2_with fail
  rw [← HW.out]
  clear e0 e1 e2 e3 hx b0 hw0
  have hEl0 := lt_of_block XE.out
  obtain ⟨e0, e1, e2, e3⟩ := boxcells4' (lay := Below.refl _ _) XE.out
  obtain ⟨p0, p1, p2, p3, p4⟩ := boxcells5 (lay := Below.refl _ _) X0.out
  obtain ⟨k0, k1⟩ := boxc2 (lay := Below.refl _ _) X1.out
  have f0 := boxfree (Below.refl _ _) X1.out 0
  have f1 := boxfree (Below.refl _ _) X1.out 1
  have hbd := valid_gate HV.out rfl
  have HF := Lib.hid (oneN_gate (names := names) (held := held) (h := ⟨1, word, args, count⟩) rfl hbd)
  go_still_tail 4, (by kernel_rfl)
  change wpList _ _ _ _ _ w0.drew
  go_wp2_with fail
  refine (l20Gate_any word args names held count Aa m ca Ac nc cc An Ah Ab nn cn nh ch nb cb ins _ HM.out HA.out.drew hca HNN.out HN.out.drew HNH.out HH.out.drew h1 (by omega) (by omega)).mono ?_
  rintro e w1 ⟨rfl, b1d, s1d⟩
  have b1 := below_undrewC b1d
  have hs1 := b1.size
  clear b1d s1d k0 k1 f0 f1
  obtain ⟨k0, k1⟩ := boxc2 (lay := b1) X1.out
  have f0 := boxfree b1 X1.out 0
  have f1 := boxfree b1 X1.out 1
  have hl1 : w.heap.size + 1 < w1.heap.size := by omega
  obtain ⟨c, hc⟩ : ∃ c, c = gateBad names held args word := ⟨_, rfl⟩
  have HC := Lib.hid hc
  rw [← hc]
  clear hc
  go_wp2_with fail
  exact bodyPost_ret (v := .agg #[.int .i64 c.1, .string c.2]) (by simp [results, Tryd.results57, go_sem, k0, k1]) rfl ⟨by rw [HF.out, HC.out], ((B0.out.trans (b1.mono (by omega))).setCell (by simp) _).setCell (by simp) _, by simp [World.setCell]; omega⟩
set_option maxRecDepth 100000 in
set_option maxHeartbeats 8000000 in
theorem l20Stmt_6 (d : Nat) (word : ByteArray) (args names held : List ByteArray) (count : Int) (bd : List (Tr d)) (Aa : Option Addr) (m ca : Nat) (Ac : Option Addr) (nc cc E : Nat) (An Ah Ab : Option Addr) (nn cn nh ch nb cb : Nat) (w : World)
    (hx : w.heap[E]? = some (.cells #[.slice An nn cn, .slice Ah nh ch, .bool true, .slice Ab nb cb] 71 (0, 0))) (hm : args.length = m) (hra : Rd w 1 Aa m (strs args)) (hca : m ≤ ca) (hnn : names.length = nn) (hrn : Rd w 1 An nn (strs names)) (hnh : held.length = nh) (hrh : Rd w 1 Ah nh (strs held)) (h1 : m ≤ 1048576) (h2 : nn ≤ 4) (h3 : nh + m + szT d bd ≤ 1048576)
    (hv : vOne d (validT d) ⟨6, word, args, count⟩ bd = true) (hbody : BodyS d bd w Ac nc cc) :
    Calls Tryd.prog 57 #[.agg #[.int .i64 6, .string word, .slice Aa m ca, .int .i64 count, .slice Ac nc cc], .pointer (some ⟨E, 0, none⟩)] w (RetBadA (oneN ⟨6, word, args, count⟩ (chkN d bd) names held) w) := by
  obtain ⟨w0, hw0⟩ : ∃ w0, w0 = ((w.alloc (.cells #[.int .i64 6, .string word, .slice Aa m ca, .int .i64 count, .slice Ac nc cc] 27)).alloc (.cells #[.int .i64 0, .string ⟨#[]⟩] 67)).alloc (.cells #[.slice An nn cn, .slice Ah nh ch, .bool true, .slice Ab nb cb] 71) := ⟨_, rfl⟩
  have X0 := Lib.hid (show w0.heap[w.heap.size]? = some (.cells #[.int .i64 6, .string word, .slice Aa m ca, .int .i64 count, .slice Ac nc cc] 27 (0, 0)) by rw [hw0]; exact boxed3_0 _ _ _ _)
  have X1 := Lib.hid (show w0.heap[w.heap.size + 1]? = some (.cells #[.int .i64 0, .string ⟨#[]⟩] 67 (0, 0)) by rw [hw0]; exact boxed3_1 _ _ _ _)
  have X2 := Lib.hid (show w0.heap[w.heap.size + 1 + 1]? = some (.cells #[.slice An nn cn, .slice Ah nh ch, .bool true, .slice Ab nb cb] 71 (0, 0)) by rw [hw0]; exact boxed3_2 _ _ _ _)
  have b0 : Below w.heap.size w w0 := by rw [hw0]; exact (by repeat (first | exact Below.refl _ _ | assumption | (refine Below.trans ?_ (Below.mono (by assumption) (by first | omega | (simp; done) | (simp; omega)))) | (with_reducible refine Below.drew ?_) | (with_reducible refine Below.alloc ?_ (by first | omega | (simp; done) | (simp; omega)) _) | (with_reducible refine Below.setCell ?_ (by first | omega | (simp; done) | (simp; omega)) _)))
  have hz : w.heap.size + 1 + 1 < w0.heap.size := by rw [hw0]; simp
  have hz0 : w.heap.size < w0.heap.size := by omega
  have hz1 : w.heap.size + 1 < w0.heap.size := by omega
  have HW := Lib.hid hw0
  have HA0 := Lib.hid hra
  have HA := Lib.hid (hra.below b0)
  have HN0 := Lib.hid hrn
  have HH0 := Lib.hid hrh
  have HN := Lib.hid (hrn.below b0)
  have HH := Lib.hid (hrh.below b0)
  have XE := Lib.hid ((b0.block E (lt_of_block hx)).trans hx)
  have HM := Lib.hid hm
  have HNN := Lib.hid hnn
  have HNH := Lib.hid hnh
  have B0 := Lib.hid b0
  have HV := Lib.hid hv
  have HB := Lib.hid hbody
  have al : ∀ (W : World) (ob : Obj), Below W.heap.size W (W.alloc ob) := fun W ob => (Below.refl _ _).alloc (Nat.le_refl _) _
  have AL := Lib.hid al
  have hEl := lt_of_block hx
  have hE1 : E < w.heap.size + 1 := by omega
  have hE2 : E < w.heap.size + 1 + 1 := by omega
  obtain ⟨e0, e1, e2, e3⟩ := boxcells4' (lay := Below.refl _ _) hx
  clear hra hrn hrh hm hnn hnh hv hbody al
  go_enter Tryd.func57, Tryd.ntmps57
  go_wp2_with fail
  rw [← HW.out]
  clear e0 e1 e2 e3 hx b0 hw0
  have hEl0 := lt_of_block XE.out
  obtain ⟨e0, e1, e2, e3⟩ := boxcells4' (lay := Below.refl _ _) XE.out
  obtain ⟨p0, p1, p2, p3, p4⟩ := boxcells5 (lay := Below.refl _ _) X0.out
  obtain ⟨k0, k1⟩ := boxc2 (lay := Below.refl _ _) X1.out
  have f0 := boxfree (Below.refl _ _) X1.out 0
  have f1 := boxfree (Below.refl _ _) X1.out 1
  have hm2 : 1 < m := by have e : args.length = 2 := valid_args HV.out; rw [← HM.out]; omega
  have HS : Hid (oneN ⟨6, word, args, count⟩ (chkN d bd) names held = (6, arg0 ⟨6, word, args, count⟩)) := oneN_b (p := (names, held)) rfl (show (6 : Int) ≠ 0 by decide)
  have HAR := Lib.hid (arg0_of (h := ⟨6, word, args, count⟩) (by show 0 < args.length; rw [HM.out]; omega))
  obtain ⟨a, hae⟩ : ∃ a, a = arg0 ⟨6, word, args, count⟩ := ⟨_, rfl⟩
  rw [← hae] at HS HAR
  clear hae
  go_wp2_with fail
  refine (l20Measure_in word args a count Aa m ca Ac nc cc E An Ah Ab nn cn nh ch nb cb _ XE.out HA.out HAR.out (by omega) (by omega)).mono ?_
  rintro e w1 ⟨rfl, b1, s1⟩
  clear k0 k1 f0 f1
  obtain ⟨k0, k1⟩ := boxc2 (lay := b1) X1.out
  have f0 := boxfree b1 X1.out 0
  have f1 := boxfree b1 X1.out 1
  have hl1 : w.heap.size + 1 < w1.heap.size := by omega
  go_wp2_with fail
  exact bodyPost_ret (v := .agg #[.int .i64 6, .string a]) (by simp [results, Tryd.results57, go_sem, k0, k1]) rfl ⟨by rw [HS.out], ((B0.out.trans (b1.mono (by omega))).setCell (by simp) _).setCell (by simp) _, by simp [World.setCell]; omega⟩
set_option maxRecDepth 100000 in
set_option maxHeartbeats 8000000 in
theorem l20Stmt_7 (d : Nat) (word : ByteArray) (args names held : List ByteArray) (count : Int) (bd : List (Tr d)) (Aa : Option Addr) (m ca : Nat) (Ac : Option Addr) (nc cc E : Nat) (An Ah Ab : Option Addr) (nn cn nh ch nb cb : Nat) (w : World)
    (hx : w.heap[E]? = some (.cells #[.slice An nn cn, .slice Ah nh ch, .bool true, .slice Ab nb cb] 71 (0, 0))) (hm : args.length = m) (hra : Rd w 1 Aa m (strs args)) (hca : m ≤ ca) (hnn : names.length = nn) (hrn : Rd w 1 An nn (strs names)) (hnh : held.length = nh) (hrh : Rd w 1 Ah nh (strs held)) (h1 : m ≤ 1048576) (h2 : nn ≤ 4) (h3 : nh + m + szT d bd ≤ 1048576)
    (hv : vOne d (validT d) ⟨7, word, args, count⟩ bd = true) (hbody : BodyS d bd w Ac nc cc) :
    Calls Tryd.prog 57 #[.agg #[.int .i64 7, .string word, .slice Aa m ca, .int .i64 count, .slice Ac nc cc], .pointer (some ⟨E, 0, none⟩)] w (RetBadA (oneN ⟨7, word, args, count⟩ (chkN d bd) names held) w) := by
  have hm2 : 0 < m := by have e : args.length = 1 := valid_args hv; rw [← hm]; omega
  have HS : Hid (oneN ⟨7, word, args, count⟩ (chkN d bd) names held = (6, arg0 ⟨7, word, args, count⟩)) := oneN_b (p := (names, held)) rfl (show (6 : Int) ≠ 0 by decide)
  obtain ⟨b, off, rfl, hbl, hcl⟩ := hra.2 (by omega)
  have r0 := hcl 0 _ (strs_at (arg0_of (h := ⟨7, word, args, count⟩) (by show 0 < args.length; rw [hm]; omega)))
  rw [Nat.add_zero] at r0
  have hm3 : (0 : Int) < (m : Int) := by omega
  obtain ⟨a, hae⟩ : ∃ a, a = arg0 ⟨7, word, args, count⟩ := ⟨_, rfl⟩
  rw [← hae] at HS r0
  have hEl := lt_of_block hx
  have hE1 : E < w.heap.size + 1 := by omega
  have hE2 : E < w.heap.size + 1 + 1 := by omega
  have hb1 : b < w.heap.size + 1 := by omega
  have hb2 : b < w.heap.size + 1 + 1 := by omega
  obtain ⟨e0, e1, e2, e3⟩ := boxcells4' (lay := Below.refl _ _) hx
  clear hcl hae hra hrn hrh hm hnn hnh hv hbody hx
  go_enter Tryd.func57, Tryd.ntmps57
  go_wp2_with fail
  exact bodyPost_ret (v := .agg #[.int .i64 6, .string a]) (by simp [results, Tryd.results57, go_sem]) rfl ⟨by rw [HS.out], (by repeat (first | exact Below.refl _ _ | assumption | (refine Below.trans ?_ (Below.mono (by assumption) (by first | omega | (simp; done) | (simp; omega)))) | (with_reducible refine Below.drew ?_) | (with_reducible refine Below.alloc ?_ (by first | omega | (simp; done) | (simp; omega)) _) | (with_reducible refine Below.setCell ?_ (by first | omega | (simp; done) | (simp; omega)) _))), (by first | omega | (simp; done) | (simp; omega))⟩
set_option maxRecDepth 100000 in
set_option maxHeartbeats 8000000 in
theorem l20Stmt_2 (d : Nat) (word : ByteArray) (args names held : List ByteArray) (count : Int) (bd : List (Tr d)) (Aa : Option Addr) (m ca : Nat) (Ac : Option Addr) (nc cc E : Nat) (An Ah Ab : Option Addr) (nn cn nh ch nb cb : Nat) (ins : Bool) (w : World)
    (hx : w.heap[E]? = some (.cells #[.slice An nn cn, .slice Ah nh ch, .bool ins, .slice Ab nb cb] 71 (0, 0))) (hm : args.length = m) (hra : Rd w 1 Aa m (strs args)) (hca : m ≤ ca) (hnn : names.length = nn) (hrn : Rd w 1 An nn (strs names)) (hnh : held.length = nh) (hrh : Rd w 1 Ah nh (strs held)) (h1 : m ≤ 1048576) (h2 : nn ≤ 4) (h3 : nh + m + szT d bd ≤ 1048576)
    (hv : vOne d (validT d) ⟨2, word, args, count⟩ bd = true) (hbody : BodyS d bd w Ac nc cc) :
    Calls Tryd.prog 57 #[.agg #[.int .i64 2, .string word, .slice Aa m ca, .int .i64 count, .slice Ac nc cc], .pointer (some ⟨E, 0, none⟩)] w (RetBadA (oneN ⟨2, word, args, count⟩ (chkN d bd) names held) w) := by
  obtain ⟨w0, hw0⟩ : ∃ w0, w0 = ((w.alloc (.cells #[.int .i64 2, .string word, .slice Aa m ca, .int .i64 count, .slice Ac nc cc] 27)).alloc (.cells #[.int .i64 0, .string ⟨#[]⟩] 67)).alloc (.cells #[.slice An nn cn, .slice Ah nh ch, .bool true, .slice Ab nb cb] 71) := ⟨_, rfl⟩
  have X0 := Lib.hid (show w0.heap[w.heap.size]? = some (.cells #[.int .i64 2, .string word, .slice Aa m ca, .int .i64 count, .slice Ac nc cc] 27 (0, 0)) by rw [hw0]; exact boxed3_0 _ _ _ _)
  have X1 := Lib.hid (show w0.heap[w.heap.size + 1]? = some (.cells #[.int .i64 0, .string ⟨#[]⟩] 67 (0, 0)) by rw [hw0]; exact boxed3_1 _ _ _ _)
  have X2 := Lib.hid (show w0.heap[w.heap.size + 1 + 1]? = some (.cells #[.slice An nn cn, .slice Ah nh ch, .bool true, .slice Ab nb cb] 71 (0, 0)) by rw [hw0]; exact boxed3_2 _ _ _ _)
  have b0 : Below w.heap.size w w0 := by rw [hw0]; exact (by repeat (first | exact Below.refl _ _ | assumption | (refine Below.trans ?_ (Below.mono (by assumption) (by first | omega | (simp; done) | (simp; omega)))) | (with_reducible refine Below.drew ?_) | (with_reducible refine Below.alloc ?_ (by first | omega | (simp; done) | (simp; omega)) _) | (with_reducible refine Below.setCell ?_ (by first | omega | (simp; done) | (simp; omega)) _)))
  have hz : w.heap.size + 1 + 1 < w0.heap.size := by rw [hw0]; simp
  have hz0 : w.heap.size < w0.heap.size := by omega
  have hz1 : w.heap.size + 1 < w0.heap.size := by omega
  have HW := Lib.hid hw0
  have HA0 := Lib.hid hra
  have HA := Lib.hid (hra.below b0)
  have HN0 := Lib.hid hrn
  have HH0 := Lib.hid hrh
  have HN := Lib.hid (hrn.below b0)
  have HH := Lib.hid (hrh.below b0)
  have XE := Lib.hid ((b0.block E (lt_of_block hx)).trans hx)
  have HM := Lib.hid hm
  have HNN := Lib.hid hnn
  have HNH := Lib.hid hnh
  have B0 := Lib.hid b0
  have HV := Lib.hid hv
  have HB := Lib.hid hbody
  have al : ∀ (W : World) (ob : Obj), Below W.heap.size W (W.alloc ob) := fun W ob => (Below.refl _ _).alloc (Nat.le_refl _) _
  have AL := Lib.hid al
  have hEl := lt_of_block hx
  have hE1 : E < w.heap.size + 1 := by omega
  have hE2 : E < w.heap.size + 1 + 1 := by omega
  obtain ⟨e0, e1, e2, e3⟩ := boxcells4' (lay := Below.refl _ _) hx
  clear hra hrn hrh hm hnn hnh hv hbody al
  go_enter Tryd.func57, Tryd.ntmps57
  go_wp2_with fail
  rw [← HW.out]
  clear e0 e1 e2 e3 hx b0 hw0
  have hEl0 := lt_of_block XE.out
  obtain ⟨e0, e1, e2, e3⟩ := boxcells4' (lay := Below.refl _ _) XE.out
  obtain ⟨p0, p1, p2, p3, p4⟩ := boxcells5 (lay := Below.refl _ _) X0.out
  obtain ⟨k0, k1⟩ := boxc2 (lay := Below.refl _ _) X1.out
  have f0 := boxfree (Below.refl _ _) X1.out 0
  have f1 := boxfree (Below.refl _ _) X1.out 1
  have HS : Hid (oneN ⟨2, word, args, count⟩ (chkN d bd) names held = chkN d bd names held) := oneN_z (p := (names, held)) rfl
  go_wp2_with fail
  refine (HB.out (w.heap.size + 1 + 1) An nn cn Ah nh ch Ab nb cb names held w0 B0.out X2.out HN.out HH.out HNN.out HNH.out h2 (by omega)).mono ?_
  rintro e w1 ⟨rfl, b1, s1⟩
  clear k0 k1 f0 f1
  obtain ⟨k0, k1⟩ := boxc2 (lay := b1) X1.out
  have f0 := boxfree b1 X1.out 0
  have f1 := boxfree b1 X1.out 1
  have hl1 : w.heap.size + 1 < w1.heap.size := by omega
  obtain ⟨c, hc⟩ : ∃ c, c = chkN d bd names held := ⟨_, rfl⟩
  rw [← hc] at HS ⊢
  clear hc
  go_wp2_with fail
  exact bodyPost_ret (v := .agg #[.int .i64 c.1, .string c.2]) (by simp [results, Tryd.results57, go_sem, k0, k1]) rfl ⟨by rw [HS.out], ((B0.out.trans (b1.mono (by omega))).setCell (by simp) _).setCell (by simp) _, by simp [World.setCell]; omega⟩
set_option maxRecDepth 100000 in
set_option maxHeartbeats 8000000 in
theorem l20Stmt_3 (d : Nat) (word : ByteArray) (args names held : List ByteArray) (count : Int) (bd : List (Tr d)) (Aa : Option Addr) (m ca : Nat) (Ac : Option Addr) (nc cc E : Nat) (An Ah Ab : Option Addr) (nn cn nh ch nb cb : Nat) (ins : Bool) (w : World)
    (hx : w.heap[E]? = some (.cells #[.slice An nn cn, .slice Ah nh ch, .bool ins, .slice Ab nb cb] 71 (0, 0))) (hm : args.length = m) (hra : Rd w 1 Aa m (strs args)) (hca : m ≤ ca) (hnn : names.length = nn) (hrn : Rd w 1 An nn (strs names)) (hnh : held.length = nh) (hrh : Rd w 1 Ah nh (strs held)) (h1 : m ≤ 1048576) (h2 : nn ≤ 4) (h3 : nh + m + szT d bd ≤ 1048576)
    (hv : vOne d (validT d) ⟨3, word, args, count⟩ bd = true) (hbody : BodyS d bd w Ac nc cc) :
    Calls Tryd.prog 57 #[.agg #[.int .i64 3, .string word, .slice Aa m ca, .int .i64 count, .slice Ac nc cc], .pointer (some ⟨E, 0, none⟩)] w (RetBadA (oneN ⟨3, word, args, count⟩ (chkN d bd) names held) w) := by
  obtain ⟨w0, hw0⟩ : ∃ w0, w0 = ((w.alloc (.cells #[.int .i64 3, .string word, .slice Aa m ca, .int .i64 count, .slice Ac nc cc] 27)).alloc (.cells #[.int .i64 0, .string ⟨#[]⟩] 67)).alloc (.cells #[.slice An nn cn, .slice Ah nh ch, .bool true, .slice Ab nb cb] 71) := ⟨_, rfl⟩
  have X0 := Lib.hid (show w0.heap[w.heap.size]? = some (.cells #[.int .i64 3, .string word, .slice Aa m ca, .int .i64 count, .slice Ac nc cc] 27 (0, 0)) by rw [hw0]; exact boxed3_0 _ _ _ _)
  have X1 := Lib.hid (show w0.heap[w.heap.size + 1]? = some (.cells #[.int .i64 0, .string ⟨#[]⟩] 67 (0, 0)) by rw [hw0]; exact boxed3_1 _ _ _ _)
  have X2 := Lib.hid (show w0.heap[w.heap.size + 1 + 1]? = some (.cells #[.slice An nn cn, .slice Ah nh ch, .bool true, .slice Ab nb cb] 71 (0, 0)) by rw [hw0]; exact boxed3_2 _ _ _ _)
  have b0 : Below w.heap.size w w0 := by rw [hw0]; exact (by repeat (first | exact Below.refl _ _ | assumption | (refine Below.trans ?_ (Below.mono (by assumption) (by first | omega | (simp; done) | (simp; omega)))) | (with_reducible refine Below.drew ?_) | (with_reducible refine Below.alloc ?_ (by first | omega | (simp; done) | (simp; omega)) _) | (with_reducible refine Below.setCell ?_ (by first | omega | (simp; done) | (simp; omega)) _)))
  have hz : w.heap.size + 1 + 1 < w0.heap.size := by rw [hw0]; simp
  have hz0 : w.heap.size < w0.heap.size := by omega
  have hz1 : w.heap.size + 1 < w0.heap.size := by omega
  have HW := Lib.hid hw0
  have HA0 := Lib.hid hra
  have HA := Lib.hid (hra.below b0)
  have HN0 := Lib.hid hrn
  have HH0 := Lib.hid hrh
  have HN := Lib.hid (hrn.below b0)
  have HH := Lib.hid (hrh.below b0)
  have XE := Lib.hid ((b0.block E (lt_of_block hx)).trans hx)
  have HM := Lib.hid hm
  have HNN := Lib.hid hnn
  have HNH := Lib.hid hnh
  have B0 := Lib.hid b0
  have HV := Lib.hid hv
  have HB := Lib.hid hbody
  have al : ∀ (W : World) (ob : Obj), Below W.heap.size W (W.alloc ob) := fun W ob => (Below.refl _ _).alloc (Nat.le_refl _) _
  have AL := Lib.hid al
  have hEl := lt_of_block hx
  have hE1 : E < w.heap.size + 1 := by omega
  have hE2 : E < w.heap.size + 1 + 1 := by omega
  obtain ⟨e0, e1, e2, e3⟩ := boxcells4' (lay := Below.refl _ _) hx
  clear hra hrn hrh hm hnn hnh hv hbody al
  go_enter Tryd.func57, Tryd.ntmps57
  go_wp2_with fail
  rw [← HW.out]
  clear e0 e1 e2 e3 hx b0 hw0
  have hEl0 := lt_of_block XE.out
  obtain ⟨e0, e1, e2, e3⟩ := boxcells4' (lay := Below.refl _ _) XE.out
  obtain ⟨p0, p1, p2, p3, p4⟩ := boxcells5 (lay := Below.refl _ _) X0.out
  obtain ⟨k0, k1⟩ := boxc2 (lay := Below.refl _ _) X1.out
  have f0 := boxfree (Below.refl _ _) X1.out 0
  have f1 := boxfree (Below.refl _ _) X1.out 1
  have HS : Hid (oneN ⟨3, word, args, count⟩ (chkN d bd) names held = chkN d bd names held) := oneN_z (p := (names, held)) rfl
  go_wp2_with fail
  refine (HB.out (w.heap.size + 1 + 1) An nn cn Ah nh ch Ab nb cb names held w0 B0.out X2.out HN.out HH.out HNN.out HNH.out h2 (by omega)).mono ?_
  rintro e w1 ⟨rfl, b1, s1⟩
  clear k0 k1 f0 f1
  obtain ⟨k0, k1⟩ := boxc2 (lay := b1) X1.out
  have f0 := boxfree b1 X1.out 0
  have f1 := boxfree b1 X1.out 1
  have hl1 : w.heap.size + 1 < w1.heap.size := by omega
  obtain ⟨c, hc⟩ : ∃ c, c = chkN d bd names held := ⟨_, rfl⟩
  rw [← hc] at HS ⊢
  clear hc
  go_wp2_with fail
  exact bodyPost_ret (v := .agg #[.int .i64 c.1, .string c.2]) (by simp [results, Tryd.results57, go_sem, k0, k1]) rfl ⟨by rw [HS.out], ((B0.out.trans (b1.mono (by omega))).setCell (by simp) _).setCell (by simp) _, by simp [World.setCell]; omega⟩
set_option maxRecDepth 100000 in
set_option maxHeartbeats 8000000 in
theorem l20Stmt_5 (d : Nat) (word : ByteArray) (args names held : List ByteArray) (count : Int) (bd : List (Tr d)) (Aa : Option Addr) (m ca : Nat) (Ac : Option Addr) (nc cc E : Nat) (An Ah Ab : Option Addr) (nn cn nh ch nb cb : Nat) (ins : Bool) (w : World)
    (hx : w.heap[E]? = some (.cells #[.slice An nn cn, .slice Ah nh ch, .bool ins, .slice Ab nb cb] 71 (0, 0))) (hm : args.length = m) (hra : Rd w 1 Aa m (strs args)) (hca : m ≤ ca) (hnn : names.length = nn) (hrn : Rd w 1 An nn (strs names)) (hnh : held.length = nh) (hrh : Rd w 1 Ah nh (strs held)) (h1 : m ≤ 1048576) (h2 : nn ≤ 4) (h3 : nh + m + szT d bd ≤ 1048576)
    (hv : vOne d (validT d) ⟨5, word, args, count⟩ bd = true) (hbody : BodyS d bd w Ac nc cc) :
    Calls Tryd.prog 57 #[.agg #[.int .i64 5, .string word, .slice Aa m ca, .int .i64 count, .slice Ac nc cc], .pointer (some ⟨E, 0, none⟩)] w (RetBadA (oneN ⟨5, word, args, count⟩ (chkN d bd) names held) w) := by
  obtain ⟨w0, hw0⟩ : ∃ w0, w0 = ((w.alloc (.cells #[.int .i64 5, .string word, .slice Aa m ca, .int .i64 count, .slice Ac nc cc] 27)).alloc (.cells #[.int .i64 0, .string ⟨#[]⟩] 67)).alloc (.cells #[.slice An nn cn, .slice Ah nh ch, .bool true, .slice Ab nb cb] 71) := ⟨_, rfl⟩
  have X0 := Lib.hid (show w0.heap[w.heap.size]? = some (.cells #[.int .i64 5, .string word, .slice Aa m ca, .int .i64 count, .slice Ac nc cc] 27 (0, 0)) by rw [hw0]; exact boxed3_0 _ _ _ _)
  have X1 := Lib.hid (show w0.heap[w.heap.size + 1]? = some (.cells #[.int .i64 0, .string ⟨#[]⟩] 67 (0, 0)) by rw [hw0]; exact boxed3_1 _ _ _ _)
  have X2 := Lib.hid (show w0.heap[w.heap.size + 1 + 1]? = some (.cells #[.slice An nn cn, .slice Ah nh ch, .bool true, .slice Ab nb cb] 71 (0, 0)) by rw [hw0]; exact boxed3_2 _ _ _ _)
  have b0 : Below w.heap.size w w0 := by rw [hw0]; exact (by repeat (first | exact Below.refl _ _ | assumption | (refine Below.trans ?_ (Below.mono (by assumption) (by first | omega | (simp; done) | (simp; omega)))) | (with_reducible refine Below.drew ?_) | (with_reducible refine Below.alloc ?_ (by first | omega | (simp; done) | (simp; omega)) _) | (with_reducible refine Below.setCell ?_ (by first | omega | (simp; done) | (simp; omega)) _)))
  have hz : w.heap.size + 1 + 1 < w0.heap.size := by rw [hw0]; simp
  have hz0 : w.heap.size < w0.heap.size := by omega
  have hz1 : w.heap.size + 1 < w0.heap.size := by omega
  have HW := Lib.hid hw0
  have HA0 := Lib.hid hra
  have HA := Lib.hid (hra.below b0)
  have HN0 := Lib.hid hrn
  have HH0 := Lib.hid hrh
  have HN := Lib.hid (hrn.below b0)
  have HH := Lib.hid (hrh.below b0)
  have XE := Lib.hid ((b0.block E (lt_of_block hx)).trans hx)
  have HM := Lib.hid hm
  have HNN := Lib.hid hnn
  have HNH := Lib.hid hnh
  have B0 := Lib.hid b0
  have HV := Lib.hid hv
  have HB := Lib.hid hbody
  have al : ∀ (W : World) (ob : Obj), Below W.heap.size W (W.alloc ob) := fun W ob => (Below.refl _ _).alloc (Nat.le_refl _) _
  have AL := Lib.hid al
  have hEl := lt_of_block hx
  have hE1 : E < w.heap.size + 1 := by omega
  have hE2 : E < w.heap.size + 1 + 1 := by omega
  obtain ⟨e0, e1, e2, e3⟩ := boxcells4' (lay := Below.refl _ _) hx
  clear hra hrn hrh hm hnn hnh hv hbody al
  go_enter Tryd.func57, Tryd.ntmps57
  go_wp2_with fail
  rw [← HW.out]
  clear e0 e1 e2 e3 hx b0 hw0
  have hEl0 := lt_of_block XE.out
  obtain ⟨e0, e1, e2, e3⟩ := boxcells4' (lay := Below.refl _ _) XE.out
  obtain ⟨p0, p1, p2, p3, p4⟩ := boxcells5 (lay := Below.refl _ _) X0.out
  obtain ⟨k0, k1⟩ := boxc2 (lay := Below.refl _ _) X1.out
  have f0 := boxfree (Below.refl _ _) X1.out 0
  have f1 := boxfree (Below.refl _ _) X1.out 1
  have hm2 : 0 < m := by have e : args.length = 1 := valid_args HV.out; rw [← HM.out]; omega
  obtain ⟨b, off, rfl, hbw, hcl⟩ := HA0.out.2 (by omega)
  have hbl : b < w0.heap.size := by omega
  have r0 := hcl 0 _ (strs_at (arg0_of (h := ⟨5, word, args, count⟩) (by show 0 < args.length; rw [HM.out]; omega)))
  rw [Nat.add_zero, ← B0.out.cell (p := ⟨b, off, none⟩) hbw] at r0
  have hm3 : (0 : Int) < (m : Int) := by omega
  obtain ⟨a, hae⟩ : ∃ a, a = arg0 ⟨5, word, args, count⟩ := ⟨_, rfl⟩
  have HAE := Lib.hid hae
  rw [← hae] at r0
  clear hcl hae
  have KS : Hid (∀ W : World, Below (w.heap.size + 1) w0 W → (W.cell? ⟨E, 0, none⟩ = some (.slice An nn cn) ∧ W.cell? ⟨E, 1, none⟩ = some (.slice Ah nh ch) ∧ W.cell? ⟨E, 2, none⟩ = some (.bool ins) ∧ W.cell? ⟨E, 3, none⟩ = some (.slice Ab nb cb) ∧ W.cell? ⟨w.heap.size, 2, none⟩ = some (.slice (some ⟨b, off, none⟩) m ca) ∧ W.cell? ⟨b, off, none⟩ = some (.string a))) := fun W hW =>
    ⟨(hW.cell (p := ⟨E, 0, none⟩) (by show E < _; omega)).trans e0, (hW.cell (p := ⟨E, 1, none⟩) (by show E < _; omega)).trans e1, (hW.cell (p := ⟨E, 2, none⟩) (by show E < _; omega)).trans e2, (hW.cell (p := ⟨E, 3, none⟩) (by show E < _; omega)).trans e3, (hW.cell (p := ⟨w.heap.size, 2, none⟩) (by show w.heap.size < _; omega)).trans p2, (hW.cell (p := ⟨b, off, none⟩) (by show b < _; omega)).trans r0⟩
  cases hh : hasS names a
  · by_cases h4 : nn = 4
    · have HS : Hid (oneN ⟨5, word, args, count⟩ (chkN d bd) names held = (5, a)) := by
        refine oneN_b (p := (names, held)) ?_ (show (5 : Int) ≠ 0 by decide)
        show (if hasS names (arg0 _) = true then _ else _) = _
        rw [← HAE.out, hh, if_neg (by decide), if_pos (by rw [HNN.out]; exact h4)]
      have d4 : ((nn : Int) == 4) = true := by simp; omega
      have H4 := Lib.hid h4
      clear h4
      go_wp2_with fail
      go_quiet ((go_at_call 40; exact Calls.quiet_of_same ((l1Has_any An nn cn names a _ (HN.out.drewN _) HNN.out (by omega)).mono fun e W h => (⟨h.1.trans (by rw [hh]), h.2.symm⟩ : e = .returned (.bool false) ∧ W = _))))
      go_wp2_with fail
      exact bodyPost_ret (v := .agg #[.int .i64 5, .string a]) (by simp [results, Tryd.results57, go_sem, k0, k1]) rfl ⟨by rw [HS.out], ((B0.out.trans ((below_drewN (Below.refl w0.heap.size w0) _).mono (by omega))).setCell (by simp) _).setCell (by simp) _, by simp [World.setCell]; omega⟩
    · have HS : Hid (oneN ⟨5, word, args, count⟩ (chkN d bd) names held = chkN d bd (names ++ [a]) held) := by
        have hs : stepN ⟨5, word, args, count⟩ names held = (bad0, (names ++ [a], held)) := by
          show (if hasS names (arg0 _) = true then _ else _) = _
          rw [← HAE.out, hh, if_neg (by decide), if_neg (by rw [HNN.out]; exact h4)]
        exact oneN_z hs
      have d4 : ((nn : Int) == 4) = false := by rw [beq_eq_false_iff_ne]; omega
      have hn3 : nn ≤ 3 := by omega
      have H4 := Lib.hid h4
      clear h4
      go_wp2_with fail
      go_quiet ((go_at_call 40; exact Calls.quiet_of_same ((l1Has_any An nn cn names a _ (HN.out.drewN _) HNN.out (by omega)).mono fun e W h => (⟨h.1.trans (by rw [hh]), h.2.symm⟩ : e = .returned (.bool false) ∧ W = _))))
      go_wp2_with fail
      clear e0 e1 e2 e3 p0 p1 p2 p3 p4 k0 k1 f0 f1 r0
      go_region_held3 (fun W => W.cell? ⟨E, 0, none⟩ = some (.slice An nn cn) ∧ W.cell? ⟨E, 1, none⟩ = some (.slice Ah nh ch) ∧ W.cell? ⟨E, 2, none⟩ = some (.bool ins) ∧ W.cell? ⟨E, 3, none⟩ = some (.slice Ab nb cb) ∧ W.cell? ⟨w.heap.size, 2, none⟩ = some (.slice (some ⟨b, off, none⟩) m ca) ∧ W.cell? ⟨b, off, none⟩ = some (.string a)) ((refine KS.out _ ?_; first | exact Below.mono (below_drewN (Below.refl w0.heap.size w0) _) (by omega) | exact (Below.mono (below_drewN (Below.refl w0.heap.size w0) _) (by omega)).drew | exact Below.mono b2 (by omega) | exact (Below.mono b2 (by omega)).setCell (by simp) _)) (first | (go_at_call 69; (with_reducible refine (l20Add_any An nn cn names a _ (HN.out.drewN _) HNN.out (by omega)).mono ?_); rintro e w2 ⟨v2, rfl, o2, b2d, s2d⟩; obtain ⟨A2, c2, rfl, _, _, _⟩ := rd_of_own o2; have b2 : Below w0.heap.size w0 w2 := Below.trans (below_drewN (Below.refl w0.heap.size w0) _) (b2d.mono (Nat.le_refl _)); have hx2 := (b2.block (w.heap.size + 1 + 1) hz).trans X2.out; have y0 := cell_at (j := 0) (u := .slice An nn cn) hx2 rfl; have y1 : w2.frozen? ⟨w.heap.size + 1 + 1, 0, none⟩ = false := boxfree b2 X2.out 0; have hl2 : w.heap.size + 1 + 1 < w2.heap.size := lt_of_block hx2))
      obtain ⟨w3, hw3⟩ : ∃ w3, w3 = w2.setCell ⟨w.heap.size + 1 + 1, 0, none⟩ (.slice A2 (nn + 1) c2) := ⟨_, rfl⟩
      have hx3 : w3.heap[w.heap.size + 1 + 1]? = some (.cells #[.slice A2 (nn + 1) c2, .slice Ah nh ch, .bool true, .slice Ab nb cb] 71 (0, 0)) := by rw [hw3]; exact heap_set_self hx2 _
      have hr3 : w3.heap[w.heap.size + 1]? = some (.cells #[.int .i64 0, .string ⟨#[]⟩] 67 (0, 0)) := by rw [hw3]; exact heap_set_far ((b2.block (w.heap.size + 1) hz1).trans X1.out) (by show _ ≠ w.heap.size + 1 + 1; omega) _
      have hs3 : w3.heap[w.heap.size]? = some (.cells #[.int .i64 5, .string word, .slice (some ⟨b, off, none⟩) m ca, .int .i64 count, .slice Ac nc cc] 27 (0, 0)) := by rw [hw3]; exact heap_set_far ((b2.block w.heap.size hz0).trans X0.out) (by show _ ≠ w.heap.size + 1 + 1; omega) _
      have b3 : Below w.heap.size w w3 := by rw [hw3]; exact (B0.out.trans (b2.mono (by omega))).setCell (by show w.heap.size ≤ w.heap.size + 1 + 1; omega) _
      have o3 : w3.ownsRow w0.heap.size 9 1 (.slice A2 (nn + 1) c2) (nn + 1) (strs (names ++ [a])) := by rw [hw3]; exact ownsRow_setCell_below (own_low o2 (B' := w0.heap.size) (Nat.le_refl _)) (by show w.heap.size + 1 + 1 < _; exact hz) _
      have R3 := Lib.hid (rd_own o3)
      have HX3 := Lib.hid hx3
      have HR3 := Lib.hid hr3
      have HB3 := Lib.hid b3
      have W3 := Lib.hid hw3
      have p4 := cell_at (j := 4) (u := .slice Ac nc cc) hs3 rfl
      have hl3 := lt_of_block hs3
      clear hx3 hr3 hs3 b3 o3 hw3 o2 b2 b2d s2d hx2 y0 y1 hl2
      rw [← W3.out]
      go_wp2_with fail
      refine (HB.out (w.heap.size + 1 + 1) A2 (nn + 1) c2 Ah nh ch Ab nb cb (names ++ [a]) held w3 HB3.out HX3.out R3.out (HH0.out.below HB3.out) (by rw [List.length_append, HNN.out]; rfl) HNH.out (by omega) (by omega)).mono ?_
      rintro e w4 ⟨rfl, b4, s4⟩
      obtain ⟨k0, k1⟩ := boxc2 (lay := b4) HR3.out
      have f0 := boxfree b4 HR3.out 0
      have f1 := boxfree b4 HR3.out 1
      have hl4 : w.heap.size + 1 < w4.heap.size := by have := lt_of_block HR3.out; omega
      obtain ⟨c, hc⟩ : ∃ c, c = chkN d bd (names ++ [a]) held := ⟨_, rfl⟩
      rw [← hc] at HS ⊢
      clear hc
      go_wp2_with fail
      exact bodyPost_ret (v := .agg #[.int .i64 c.1, .string c.2]) (by simp [results, Tryd.results57, go_sem, k0, k1]) rfl ⟨by rw [HS.out], ((HB3.out.trans (b4.mono (by have := HB3.out.size; omega))).setCell (by simp) _).setCell (by simp) _, by have := HB3.out.size; simp [World.setCell]; omega⟩
  · have HS : Hid (oneN ⟨5, word, args, count⟩ (chkN d bd) names held = (1, a)) := by
      refine oneN_b (p := (names, held)) ?_ (show (1 : Int) ≠ 0 by decide)
      show (if hasS names (arg0 _) = true then _ else _) = _
      rw [← HAE.out, hh, if_pos rfl]
    go_wp2_with fail
    go_quiet ((go_at_call 40; exact Calls.quiet_of_same ((l1Has_any An nn cn names a _ (HN.out.drewN _) HNN.out (by omega)).mono fun e W h => (⟨h.1.trans (by rw [hh]), h.2.symm⟩ : e = .returned (.bool true) ∧ W = _))))
    go_wp2_with fail
    exact bodyPost_ret (v := .agg #[.int .i64 1, .string a]) (by simp [results, Tryd.results57, go_sem, k0, k1]) rfl ⟨by rw [HS.out], ((B0.out.trans ((below_drewN (Below.refl w0.heap.size w0) _).mono (by omega))).setCell (by simp) _).setCell (by simp) _, by simp [World.setCell]; omega⟩
set_option maxRecDepth 100000 in
set_option maxHeartbeats 8000000 in
theorem l20Stmt_4 (d : Nat) (word : ByteArray) (args names held : List ByteArray) (count : Int) (bd : List (Tr d)) (Aa : Option Addr) (m ca : Nat) (Ac : Option Addr) (nc cc E : Nat) (An Ah Ab : Option Addr) (nn cn nh ch nb cb : Nat) (ins : Bool) (w : World)
    (hx : w.heap[E]? = some (.cells #[.slice An nn cn, .slice Ah nh ch, .bool ins, .slice Ab nb cb] 71 (0, 0))) (hm : args.length = m) (hra : Rd w 1 Aa m (strs args)) (hca : m ≤ ca) (hnn : names.length = nn) (hrn : Rd w 1 An nn (strs names)) (hnh : held.length = nh) (hrh : Rd w 1 Ah nh (strs held)) (h1 : m ≤ 1048576) (h2 : nn ≤ 4) (h3 : nh + m + szT d bd ≤ 1048576)
    (hv : vOne d (validT d) ⟨4, word, args, count⟩ bd = true) (hbody : BodyS d bd w Ac nc cc) :
    Calls Tryd.prog 57 #[.agg #[.int .i64 4, .string word, .slice Aa m ca, .int .i64 count, .slice Ac nc cc], .pointer (some ⟨E, 0, none⟩)] w (RetBadA (oneN ⟨4, word, args, count⟩ (chkN d bd) names held) w) := by
  obtain ⟨w0, hw0⟩ : ∃ w0, w0 = ((w.alloc (.cells #[.int .i64 4, .string word, .slice Aa m ca, .int .i64 count, .slice Ac nc cc] 27)).alloc (.cells #[.int .i64 0, .string ⟨#[]⟩] 67)).alloc (.cells #[.slice An nn cn, .slice Ah nh ch, .bool true, .slice Ab nb cb] 71) := ⟨_, rfl⟩
  have X0 := Lib.hid (show w0.heap[w.heap.size]? = some (.cells #[.int .i64 4, .string word, .slice Aa m ca, .int .i64 count, .slice Ac nc cc] 27 (0, 0)) by rw [hw0]; exact boxed3_0 _ _ _ _)
  have X1 := Lib.hid (show w0.heap[w.heap.size + 1]? = some (.cells #[.int .i64 0, .string ⟨#[]⟩] 67 (0, 0)) by rw [hw0]; exact boxed3_1 _ _ _ _)
  have X2 := Lib.hid (show w0.heap[w.heap.size + 1 + 1]? = some (.cells #[.slice An nn cn, .slice Ah nh ch, .bool true, .slice Ab nb cb] 71 (0, 0)) by rw [hw0]; exact boxed3_2 _ _ _ _)
  have b0 : Below w.heap.size w w0 := by rw [hw0]; exact (by repeat (first | exact Below.refl _ _ | assumption | (refine Below.trans ?_ (Below.mono (by assumption) (by first | omega | (simp; done) | (simp; omega)))) | (with_reducible refine Below.drew ?_) | (with_reducible refine Below.alloc ?_ (by first | omega | (simp; done) | (simp; omega)) _) | (with_reducible refine Below.setCell ?_ (by first | omega | (simp; done) | (simp; omega)) _)))
  have hz : w.heap.size + 1 + 1 < w0.heap.size := by rw [hw0]; simp
  have hz0 : w.heap.size < w0.heap.size := by omega
  have hz1 : w.heap.size + 1 < w0.heap.size := by omega
  have HW := Lib.hid hw0
  have HA0 := Lib.hid hra
  have HA := Lib.hid (hra.below b0)
  have HN0 := Lib.hid hrn
  have HH0 := Lib.hid hrh
  have HN := Lib.hid (hrn.below b0)
  have HH := Lib.hid (hrh.below b0)
  have XE := Lib.hid ((b0.block E (lt_of_block hx)).trans hx)
  have HM := Lib.hid hm
  have HNN := Lib.hid hnn
  have HNH := Lib.hid hnh
  have B0 := Lib.hid b0
  have HV := Lib.hid hv
  have HB := Lib.hid hbody
  have al : ∀ (W : World) (ob : Obj), Below W.heap.size W (W.alloc ob) := fun W ob => (Below.refl _ _).alloc (Nat.le_refl _) _
  have AL := Lib.hid al
  have hEl := lt_of_block hx
  have hE1 : E < w.heap.size + 1 := by omega
  have hE2 : E < w.heap.size + 1 + 1 := by omega
  obtain ⟨e0, e1, e2, e3⟩ := boxcells4' (lay := Below.refl _ _) hx
  clear hra hrn hrh hm hnn hnh hv hbody al
  go_enter Tryd.func57, Tryd.ntmps57
  go_wp2_with fail
  rw [← HW.out]
  clear e0 e1 e2 e3 hx b0 hw0
  have hEl0 := lt_of_block XE.out
  obtain ⟨e0, e1, e2, e3⟩ := boxcells4' (lay := Below.refl _ _) XE.out
  obtain ⟨p0, p1, p2, p3, p4⟩ := boxcells5 (lay := Below.refl _ _) X0.out
  obtain ⟨k0, k1⟩ := boxc2 (lay := Below.refl _ _) X1.out
  have f0 := boxfree (Below.refl _ _) X1.out 0
  have f1 := boxfree (Below.refl _ _) X1.out 1
  have hm2 : 0 < m := by have e : args.length = 1 := valid_args HV.out; rw [← HM.out]; omega
  obtain ⟨b, off, rfl, hbw, hcl⟩ := HA0.out.2 (by omega)
  have hbl : b < w0.heap.size := by omega
  have r0 := hcl 0 _ (strs_at (arg0_of (h := ⟨4, word, args, count⟩) (by show 0 < args.length; rw [HM.out]; omega)))
  rw [Nat.add_zero, ← B0.out.cell (p := ⟨b, off, none⟩) hbw] at r0
  have hm3 : (0 : Int) < (m : Int) := by omega
  obtain ⟨a, hae⟩ : ∃ a, a = arg0 ⟨4, word, args, count⟩ := ⟨_, rfl⟩
  have HAE := Lib.hid hae
  rw [← hae] at r0
  clear hcl hae
  have KS : Hid (∀ W : World, Below (w.heap.size + 1) w0 W → (W.cell? ⟨E, 0, none⟩ = some (.slice An nn cn) ∧ W.cell? ⟨E, 1, none⟩ = some (.slice Ah nh ch) ∧ W.cell? ⟨E, 2, none⟩ = some (.bool ins) ∧ W.cell? ⟨E, 3, none⟩ = some (.slice Ab nb cb) ∧ W.cell? ⟨w.heap.size, 2, none⟩ = some (.slice (some ⟨b, off, none⟩) m ca) ∧ W.cell? ⟨b, off, none⟩ = some (.string a))) := fun W hW =>
    ⟨(hW.cell (p := ⟨E, 0, none⟩) (by show E < _; omega)).trans e0, (hW.cell (p := ⟨E, 1, none⟩) (by show E < _; omega)).trans e1, (hW.cell (p := ⟨E, 2, none⟩) (by show E < _; omega)).trans e2, (hW.cell (p := ⟨E, 3, none⟩) (by show E < _; omega)).trans e3, (hW.cell (p := ⟨w.heap.size, 2, none⟩) (by show w.heap.size < _; omega)).trans p2, (hW.cell (p := ⟨b, off, none⟩) (by show b < _; omega)).trans r0⟩
  obtain ⟨c, hcd⟩ : ∃ c, c = argBad names held a := ⟨_, rfl⟩
  have HC := Lib.hid hcd
  clear hcd
  go_region_held3 (fun W => W.cell? ⟨E, 0, none⟩ = some (.slice An nn cn) ∧ W.cell? ⟨E, 1, none⟩ = some (.slice Ah nh ch) ∧ W.cell? ⟨E, 2, none⟩ = some (.bool ins) ∧ W.cell? ⟨E, 3, none⟩ = some (.slice Ab nb cb) ∧ W.cell? ⟨w.heap.size, 2, none⟩ = some (.slice (some ⟨b, off, none⟩) m ca) ∧ W.cell? ⟨b, off, none⟩ = some (.string a)) ((refine KS.out _ ?_; first | exact Below.refl _ _ | exact (Below.refl _ _).drew | exact Below.mono b1 (by omega) | exact ((Below.refl w0.heap.size w0).drew.alloc (Nat.le_refl _) _).mono (by omega) | exact (b1.alloc b1.size _).mono (by omega) | exact ((b1.mono (by omega)).setCell (by simp; omega) _).setCell (by simp; omega) _)) (first | (go_at_call 68; (with_reducible refine (l20Arg_any a names held An Ah Ab nn cn nh ch nb cb ins _ HNN.out (by first | exact HN.out.drew | exact HN.out.drew.below (AL.out _ _)) HNH.out (by first | exact HH.out.drew | exact HH.out.drew.below (AL.out _ _)) (by omega) (by omega)).mono ?_); rintro e w1 ⟨rfl, b1d, s1d⟩; rw [← HC.out]; first | (have b1 : Below w0.heap.size w0 w1 := below_undrewC b1d) | (have b1 : Below w0.heap.size w0 w1 := ((Below.refl _ _).drew.alloc (Nat.le_refl _) _).trans (b1d.mono (by simp)); obtain ⟨y0, y1⟩ : w1.cell? ⟨w0.heap.size, 0, none⟩ = some (.int .i64 0) ∧ w1.cell? ⟨w0.heap.size, 1, none⟩ = some (.string ⟨#[]⟩) := boxc2 (lay := b1d) (heap_alloc_new w0.drew (.cells #[.int .i64 0, .string ⟨#[]⟩] 67)); have y2 : w1.frozen? ⟨w0.heap.size, 0, none⟩ = false := boxfree b1d (heap_alloc_new w0.drew (.cells #[.int .i64 0, .string ⟨#[]⟩] 67)) 0; have y3 : w1.frozen? ⟨w0.heap.size, 1, none⟩ = false := boxfree b1d (heap_alloc_new w0.drew (.cells #[.int .i64 0, .string ⟨#[]⟩] 67)) 1; have y6 : w1.heap[w0.heap.size]? = some (.cells #[.int .i64 0, .string ⟨#[]⟩] 67 (0, 0)) := (b1d.block _ (by simp)).trans (heap_alloc_new w0.drew _); have y4 : w0.heap.size < w1.heap.size := lt_of_block y6)))
  all_goals
    have hs1 := b1.size
    first
    | (have y5 := y4
       obtain ⟨G, hGe⟩ : ∃ G, G = w0.heap.size := ⟨_, rfl⟩
       have hg0 : w0.heap.size ≤ G := by omega
       obtain ⟨wy, hwy⟩ : ∃ wy, wy = (w1.setCell ⟨w0.heap.size, 0, none⟩ (.int .i64 c.1)).setCell ⟨w0.heap.size, 1, none⟩ (.string c.2) := ⟨_, rfl⟩
       have hxy : wy.heap[G]? = some (.cells #[.int .i64 c.1, .string c.2] 67 (0, 0)) := by rw [hwy, hGe]; exact heap_set_self (heap_set_self y6 _) _
       have by2 : Below w0.heap.size w0 wy := by rw [hwy]; exact (b1.setCell (Nat.le_refl _) _).setCell (Nat.le_refl _) _
       rw [← hwy, ← hGe]
       clear hwy hGe y0 y1 y2 y3 y4 y5 y6)
    | (obtain ⟨G, hGe⟩ : ∃ G, G = w1.heap.size := ⟨_, rfl⟩
       have hg0 : w0.heap.size ≤ G := by omega
       obtain ⟨wy, hwy⟩ : ∃ wy, wy = w1.alloc (.cells #[.int .i64 c.1, .string c.2] 67) := ⟨_, rfl⟩
       have hxy : wy.heap[G]? = some (.cells #[.int .i64 c.1, .string c.2] 67 (0, 0)) := by rw [hwy, hGe]; exact heap_alloc_new _ _
       have by2 : Below w0.heap.size w0 wy := by rw [hwy]; exact b1.alloc hs1 _
       rw [← hwy, ← hGe]
       clear hwy hGe)
    clear b1 hs1 b1d s1d
    have hsy := by2.size
    have hgl := lt_of_block hxy
    obtain ⟨z0, z1⟩ := boxc2 (lay := Below.refl _ _) hxy
    by_cases hc0 : c.1 = 0
    · obtain ⟨ec, g1, g2⟩ := argBad_zero (HC.out ▸ hc0)
      have hcz : c = bad0 := by rw [HC.out]; exact ec
      subst hcz
      have HS : Hid (oneN ⟨4, word, args, count⟩ (chkN d bd) names held = chkN d bd names (held ++ [a])) := by
        have hs : stepN ⟨4, word, args, count⟩ names held = (bad0, (names, held ++ [a])) := by
          show (argBad names held (arg0 _), (names, held ++ [arg0 _])) = _
          rw [← HAE.out, ec]
        exact oneN_z hs
      have z0' : wy.cell? ⟨G, 0, none⟩ = some (.int .i64 0) := z0
      have z1' : wy.cell? ⟨G, 1, none⟩ = some (.string ⟨#[]⟩) := z1
      clear z0 z1 hxy ec hc0
      go_wp2_with fail
      clear z0' z1'
      clear e0 e1 e2 e3 p0 p1 p2 p3 p4 k0 k1 f0 f1 r0
      go_region_held3 (fun W => W.cell? ⟨E, 0, none⟩ = some (.slice An nn cn) ∧ W.cell? ⟨E, 1, none⟩ = some (.slice Ah nh ch) ∧ W.cell? ⟨E, 2, none⟩ = some (.bool ins) ∧ W.cell? ⟨E, 3, none⟩ = some (.slice Ab nb cb) ∧ W.cell? ⟨w.heap.size, 2, none⟩ = some (.slice (some ⟨b, off, none⟩) m ca) ∧ W.cell? ⟨b, off, none⟩ = some (.string a)) ((refine KS.out _ ?_; first | exact Below.mono by2 (by omega) | exact (Below.mono by2 (by omega)).drew | exact Below.mono b2 (by omega) | exact (Below.mono b2 (by omega)).setCell (by simp) _)) (first | (go_at_call 69; (with_reducible refine (l20Add_any Ah nh ch held a _ ((HH.out.below by2).drew) HNH.out (by omega)).mono ?_); rintro e w2 ⟨v2, rfl, o2, b2d, s2d⟩; obtain ⟨A2, c2, rfl, _, _, _⟩ := rd_of_own o2; have b2 : Below w0.heap.size w0 w2 := Below.trans by2 ((below_undrewC b2d).mono (Below.size by2)); have hx2 := (b2.block (w.heap.size + 1 + 1) hz).trans X2.out; have y0 := cell_at (j := 1) (u := .slice Ah nh ch) hx2 rfl; have y1 : w2.frozen? ⟨w.heap.size + 1 + 1, 1, none⟩ = false := boxfree b2 X2.out 1; have hl2 : w.heap.size + 1 + 1 < w2.heap.size := lt_of_block hx2))
      obtain ⟨w3, hw3⟩ : ∃ w3, w3 = w2.setCell ⟨w.heap.size + 1 + 1, 1, none⟩ (.slice A2 (nh + 1) c2) := ⟨_, rfl⟩
      have hx3 : w3.heap[w.heap.size + 1 + 1]? = some (.cells #[.slice An nn cn, .slice A2 (nh + 1) c2, .bool true, .slice Ab nb cb] 71 (0, 0)) := by rw [hw3]; exact heap_set_self hx2 _
      have hr3 : w3.heap[w.heap.size + 1]? = some (.cells #[.int .i64 0, .string ⟨#[]⟩] 67 (0, 0)) := by rw [hw3]; exact heap_set_far ((b2.block (w.heap.size + 1) hz1).trans X1.out) (by show _ ≠ w.heap.size + 1 + 1; omega) _
      have hs3 : w3.heap[w.heap.size]? = some (.cells #[.int .i64 4, .string word, .slice (some ⟨b, off, none⟩) m ca, .int .i64 count, .slice Ac nc cc] 27 (0, 0)) := by rw [hw3]; exact heap_set_far ((b2.block w.heap.size hz0).trans X0.out) (by show _ ≠ w.heap.size + 1 + 1; omega) _
      have b3 : Below w.heap.size w w3 := by rw [hw3]; exact (B0.out.trans (b2.mono (by omega))).setCell (by show w.heap.size ≤ w.heap.size + 1 + 1; omega) _
      have o3 : w3.ownsRow w0.heap.size 9 1 (.slice A2 (nh + 1) c2) (nh + 1) (strs (held ++ [a])) := by rw [hw3]; exact ownsRow_setCell_below (own_low o2 (B' := w0.heap.size) hsy) (by show w.heap.size + 1 + 1 < _; exact hz) _
      have R3 := Lib.hid (rd_own o3)
      have HX3 := Lib.hid hx3
      have HR3 := Lib.hid hr3
      have HB3 := Lib.hid b3
      have W3 := Lib.hid hw3
      have p4 := cell_at (j := 4) (u := .slice Ac nc cc) hs3 rfl
      have hl3 := lt_of_block hs3
      clear hx3 hr3 hs3 b3 o3 hw3 o2 b2 b2d s2d hx2 y0 y1 hl2
      rw [← W3.out]
      go_wp2_with fail
      refine (HB.out (w.heap.size + 1 + 1) An nn cn A2 (nh + 1) c2 Ab nb cb names (held ++ [a]) w3 HB3.out HX3.out (HN0.out.below HB3.out) R3.out HNN.out (by rw [List.length_append, HNH.out]; rfl) (by omega) (by omega)).mono ?_
      rintro e w4 ⟨rfl, b4, s4⟩
      obtain ⟨k0, k1⟩ := boxc2 (lay := b4) HR3.out
      have f0 := boxfree b4 HR3.out 0
      have f1 := boxfree b4 HR3.out 1
      have hl4 : w.heap.size + 1 < w4.heap.size := by have := lt_of_block HR3.out; omega
      obtain ⟨c, hc⟩ : ∃ c, c = chkN d bd names (held ++ [a]) := ⟨_, rfl⟩
      rw [← hc] at HS ⊢
      clear hc
      go_wp2_with fail
      exact bodyPost_ret (v := .agg #[.int .i64 c.1, .string c.2]) (by simp [results, Tryd.results57, go_sem, k0, k1]) rfl ⟨by rw [HS.out], ((HB3.out.trans (b4.mono (by have := HB3.out.size; omega))).setCell (by simp) _).setCell (by simp) _, by have := HB3.out.size; simp [World.setCell]; omega⟩
    · have HS : Hid (oneN ⟨4, word, args, count⟩ (chkN d bd) names held = c) := by
        have hs : stepN ⟨4, word, args, count⟩ names held = (c, (names, held ++ [a])) := by
          show (argBad names held (arg0 _), (names, held ++ [arg0 _])) = _
          rw [← HAE.out, ← HC.out]
        exact oneN_b hs hc0
      have hne : (c.1 != 0) = true := by rw [bne_iff_ne]; exact hc0
      clear k0 k1 f0 f1
      obtain ⟨k0, k1⟩ := boxc2 (lay := by2) X1.out
      have f0 := boxfree by2 X1.out 0
      have f1 := boxfree by2 X1.out 1
      have hl1 : w.heap.size + 1 < wy.heap.size := by omega
      go_wp2_with fail
      exact bodyPost_ret (v := .agg #[.int .i64 c.1, .string c.2]) (by simp [results, Tryd.results57, go_sem, k0, k1]) rfl ⟨by rw [HS.out], ((B0.out.trans (by2.mono (by omega))).setCell (by simp) _).setCell (by simp) _, by simp [World.setCell]; omega⟩
end Go.Proofs.YtbamjfbfipkioaaDoor
