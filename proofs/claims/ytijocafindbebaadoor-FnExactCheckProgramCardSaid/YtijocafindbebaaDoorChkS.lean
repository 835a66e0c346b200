/- Checking a gate in the reference. -/
import Derived.Test.YtijocafindbebaaDoorChkR
namespace Go.Proofs.YtijocafindbebaaDoor
open Go.RowKit
set_option linter.unusedVariables false
theorem below_undrewC {w w' : World} (h : Below w.drew.heap.size w.drew w') : Below w.heap.size w w' := ⟨h.os, h.tape, h.output, h.size, h.block⟩
theorem boxcells4' {w w' : World} {b : Nat} {x0 x1 x2 x3 : Value} {t : TypeId} (lay : Below w'.heap.size w' w) (h : w'.heap[b]? = some (.cells #[x0, x1, x2, x3] t (0, 0))) :
    w.cell? ⟨b, 0, none⟩ = some x0 ∧ w.cell? ⟨b, 1, none⟩ = some x1 ∧ w.cell? ⟨b, 2, none⟩ = some x2 ∧ w.cell? ⟨b, 3, none⟩ = some x3 := boxcells4 lay h
theorem boxc2 {w w' : World} {b : Nat} {x0 x1 : Value} {t : TypeId} (lay : Below w'.heap.size w' w) (h : w'.heap[b]? = some (.cells #[x0, x1] t (0, 0))) :
    w.cell? ⟨b, 0, none⟩ = some x0 ∧ w.cell? ⟨b, 1, none⟩ = some x1 := by
  have h' : w.heap[b]? = some (.cells #[x0, x1] t (0, 0)) := (lay.block b (lt_of_block h)).trans h
  exact ⟨by simp [World.cell?, h'], by simp [World.cell?, h']⟩
theorem gateBad_eq {names held args : List ByteArray} {word : ByteArray} {c : Bad} (h : chkA names held args 0 args = c) (hc : c.1 ≠ 0) : gateBad names held args word = c := gateBad_n h hc
theorem argBad_step {names held args : List ByteArray} {t : Nat} {a : ByteArray} (h : args[t]? = some a) (hb : (argBad names held a).1 ≠ 0) : chkA names held args t (args.drop t) = argBad names held a := by
  rw [drop_at h, chkA]
  unfold argBad at hb ⊢
  split
  · rfl
  · split
    · rfl
    · rename_i h1 h2
      rw [if_neg h1, if_neg h2] at hb
      exact absurd rfl hb
theorem argBad_zero {names held : List ByteArray} {a : ByteArray} (hb : (argBad names held a).1 = 0) : argBad names held a = bad0 ∧ hasS names a = true ∧ hasS held a = false := by
  unfold argBad at hb ⊢
  split at hb
  · simp at hb
  · split at hb
    · simp at hb
    · rename_i h1 h2
      rw [if_neg h1, if_neg h2]
      exact ⟨rfl, by simpa using h1, by simpa using h2⟩
set_option maxRecDepth 100000 in
set_option maxHeartbeats 8000000 in
theorem l20Gate_any (word : ByteArray) (args names held : List ByteArray) (count : Int) (Aa : Option Addr) (m ca : Nat) (Ac : Option Addr) (nc cc : Nat) (An Ah Ab : Option Addr) (nn cn nh ch nb cb : Nat) (inside : Bool) (w : World)
    (hm : args.length = m) (hra : Rd w 1 Aa m (strs args)) (hca : m ≤ ca) (hnn : names.length = nn) (hrn : Rd w 1 An nn (strs names)) (hnh : held.length = nh) (hrh : Rd w 1 Ah nh (strs held)) (h1 : m ≤ 1048576) (h2 : nn ≤ 1048576) (h3 : nh ≤ 1048576) :
    Calls Tryd.prog 110 #[.agg #[.int .i64 1, .string word, .slice Aa m ca, .int .i64 count, .slice Ac nc cc], .agg #[.slice An nn cn, .slice Ah nh ch, .bool inside, .slice Ab nb cb]] w (RetBadA (gateBad names held args word) w) := by
  obtain ⟨w0, hw0⟩ : ∃ w0, w0 = ((w.alloc (.cells #[.int .i64 1, .string word, .slice Aa m ca, .int .i64 count, .slice Ac nc cc] 30)).alloc (.cells #[.slice An nn cn, .slice Ah nh ch, .bool inside, .slice Ab nb cb] 97)).alloc (.cells #[.int .i64 0, .string ⟨#[]⟩] 93) := ⟨_, rfl⟩
  have X0 := Lib.hid (show w0.heap[w.heap.size]? = some (.cells #[.int .i64 1, .string word, .slice Aa m ca, .int .i64 count, .slice Ac nc cc] 30 (0, 0)) by rw [hw0]; exact boxed3_0 _ _ _ _)
  have X1 := Lib.hid (show w0.heap[w.heap.size + 1]? = some (.cells #[.slice An nn cn, .slice Ah nh ch, .bool inside, .slice Ab nb cb] 97 (0, 0)) by rw [hw0]; exact boxed3_1 _ _ _ _)
  have X2 := Lib.hid (show w0.heap[w.heap.size + 1 + 1]? = some (.cells #[.int .i64 0, .string ⟨#[]⟩] 93 (0, 0)) by rw [hw0]; exact boxed3_2 _ _ _ _)
  have b0 : Below w.heap.size w w0 := by rw [hw0]; exact (by repeat (first | exact Below.refl _ _ | assumption | (refine Below.trans ?_ (Below.mono (by assumption) (by first | omega | (simp; done) | (simp; omega)))) | (with_reducible refine Below.drew ?_) | (with_reducible refine Below.alloc ?_ (by first | omega | (simp; done) | (simp; omega)) _) | (with_reducible refine Below.setCell ?_ (by first | omega | (simp; done) | (simp; omega)) _)))
  have hz : w.heap.size + 2 < w0.heap.size := by rw [hw0]; simp
  have HW := Lib.hid hw0
  have HA := Lib.hid (hra.below b0)
  have HN := Lib.hid (hrn.below b0)
  have HH := Lib.hid (hrh.below b0)
  have HM := Lib.hid hm
  have HNN := Lib.hid hnn
  have HNH := Lib.hid hnh
  have B0 := Lib.hid b0
  have al : ∀ (W : World) (ob : Obj), Below W.heap.size W (W.alloc ob) := fun W ob => (Below.refl _ _).alloc (Nat.le_refl _) _
  have AL := Lib.hid al
  clear hw0 b0 hra hrn hrh hm hnn hnh al
  go_enter Tryd.func110, Tryd.ntmps110
  go_wp2_with fail
  rw [← HW.out]
  go_loopw [5] (fun i wr => ∃ t : Nat, t ≤ m ∧ i = .int .i64 t ∧ Hid (chkA names held args 0 args = chkA names held args t (args.drop t)) ∧ Below w0.heap.size w0 wr) (fun i _ => m - (intOf i).toNat)
  case atStart => exact ⟨0, Nat.zero_le _, rfl, rfl, Below.refl _ _⟩
  case round =>
    obtain ⟨t, ht, rfl, hc, hb⟩ := hrel
    have hbs := hb.size
    obtain ⟨p0, p1, p2, p3, p4⟩ := boxcells5 (lay := hb) X0.out
    have hlz : w.heap.size < wr.heap.size := by omega
    have hlz1 : w.heap.size + 1 < wr.heap.size := by omega
    obtain ⟨q0, q1, q2, q3⟩ := boxcells4' (lay := hb) X1.out
    by_cases hlt : t < m
    · obtain ⟨a, ha⟩ : ∃ a, args[t]? = some a := ⟨_, List.getElem?_eq_getElem (by rw [HM.out]; exact hlt)⟩
      obtain ⟨b, off, rfl, hbl, hcl⟩ := (HA.out.below hb).2 (by omega)
      have r0 := hcl t _ (strs_at ha)
      have HAT := Lib.hid ha
      have RT : Hid (Rd wr 1 (some ⟨b, off, none⟩) t (strs (args.take t))) := by
        have := (HA.out.below hb).take (t := t) (by omega)
        rw [show (strs args).take t = strs (args.take t) by simp [strs]] at this
        exact this
      have RN := Lib.hid (HN.out.below hb)
      have RH := Lib.hid (HH.out.below hb)
      have KS : Hid (∀ W : World, Below wr.heap.size wr W → (W.cell? ⟨w.heap.size + 1, 0, none⟩ = some (.slice An nn cn) ∧ W.cell? ⟨w.heap.size + 1, 1, none⟩ = some (.slice Ah nh ch) ∧ W.cell? ⟨w.heap.size + 1, 2, none⟩ = some (.bool inside) ∧ W.cell? ⟨w.heap.size + 1, 3, none⟩ = some (.slice Ab nb cb) ∧ W.cell? ⟨w.heap.size, 2, none⟩ = some (.slice (some ⟨b, off, none⟩) m ca) ∧ W.cell? ⟨b, off + t, none⟩ = some (.string a))) := fun W hW =>
        ⟨(hW.cell (p := ⟨w.heap.size + 1, 0, none⟩) hlz1).trans q0, (hW.cell (p := ⟨w.heap.size + 1, 1, none⟩) hlz1).trans q1, (hW.cell (p := ⟨w.heap.size + 1, 2, none⟩) hlz1).trans q2, (hW.cell (p := ⟨w.heap.size + 1, 3, none⟩) hlz1).trans q3, (hW.cell (p := ⟨w.heap.size, 2, none⟩) hlz).trans p2, (hW.cell (p := ⟨b, off + t, none⟩) hbl).trans r0⟩
      obtain ⟨c, hcd⟩ : ∃ c, c = argBad names held a := ⟨_, rfl⟩
      have HC := Lib.hid hcd
      clear hcl ha hcd
      go_wp2_with fail
      go_region_held3 (fun W => W.cell? ⟨w.heap.size + 1, 0, none⟩ = some (.slice An nn cn) ∧ W.cell? ⟨w.heap.size + 1, 1, none⟩ = some (.slice Ah nh ch) ∧ W.cell? ⟨w.heap.size + 1, 2, none⟩ = some (.bool inside) ∧ W.cell? ⟨w.heap.size + 1, 3, none⟩ = some (.slice Ab nb cb) ∧ W.cell? ⟨w.heap.size, 2, none⟩ = some (.slice (some ⟨b, off, none⟩) m ca) ∧ W.cell? ⟨b, off + t, none⟩ = some (.string a)) ((refine KS.out _ ?_; first | exact Below.refl _ _ | exact (Below.refl _ _).drew | exact b1 | exact (Below.refl _ _).drew.alloc (Nat.le_refl _) _ | exact b1.alloc b1.size _ | exact (b1.alloc b1.size _).setCell (by simp; omega) _ | exact ((b1.alloc b1.size _).setCell (by simp; omega) _).setCell (by simp; omega) _ | exact (b1.setCell (by simp) _).setCell (by simp) _)) (first | (go_at_call 111; (with_reducible refine (l20Arg_any a names held An Ah Ab nn cn nh ch nb cb inside _ HNN.out (by first | exact RN.out.drew | exact RN.out.drew.below (AL.out _ _)) HNH.out (by first | exact RH.out.drew | exact RH.out.drew.below (AL.out _ _)) (by omega) (by omega)).mono ?_); rintro e w1 ⟨rfl, b1d, s1d⟩; rw [← HC.out]; first | (have b1 : Below wr.heap.size wr w1 := below_undrewC b1d) | (have b1 : Below wr.heap.size wr w1 := ((Below.refl _ _).drew.alloc (Nat.le_refl _) _).trans (b1d.mono (by simp)); obtain ⟨y0, y1⟩ : w1.cell? ⟨wr.heap.size, 0, none⟩ = some (.int .i64 0) ∧ w1.cell? ⟨wr.heap.size, 1, none⟩ = some (.string ⟨#[]⟩) := boxc2 (lay := b1d) (heap_alloc_new wr.drew (.cells #[.int .i64 0, .string ⟨#[]⟩] 93)); have y2 : w1.frozen? ⟨wr.heap.size, 0, none⟩ = false := boxfree b1d (heap_alloc_new wr.drew (.cells #[.int .i64 0, .string ⟨#[]⟩] 93)) 0; have y3 : w1.frozen? ⟨wr.heap.size, 1, none⟩ = false := boxfree b1d (heap_alloc_new wr.drew (.cells #[.int .i64 0, .string ⟨#[]⟩] 93)) 1; have y6 : w1.heap[wr.heap.size]? = some (.cells #[.int .i64 0, .string ⟨#[]⟩] 93 (0, 0)) := (b1d.block _ (by simp)).trans (heap_alloc_new wr.drew _); have y4 : wr.heap.size < w1.heap.size := Nat.lt_of_lt_of_le (Nat.lt_succ_self _) (Nat.le_trans (by simp) b1d.size))))
      all_goals
        have hs1 := b1.size
        first
        | (have y5 := y4
           obtain ⟨G, hGe⟩ : ∃ G, G = wr.heap.size := ⟨_, rfl⟩
           have hg0 : wr.heap.size ≤ G := by omega
           obtain ⟨w2, hw2⟩ : ∃ w2, w2 = (w1.setCell ⟨wr.heap.size, 0, none⟩ (.int .i64 c.1)).setCell ⟨wr.heap.size, 1, none⟩ (.string c.2) := ⟨_, rfl⟩
           have hx2 : w2.heap[G]? = some (.cells #[.int .i64 c.1, .string c.2] 93 (0, 0)) := by rw [hw2, hGe]; exact heap_set_self (heap_set_self y6 _) _
           have b2 : Below wr.heap.size wr w2 := by rw [hw2]; exact (b1.setCell (Nat.le_refl _) _).setCell (Nat.le_refl _) _
           rw [← hw2, ← hGe]
           clear hw2 hGe y0 y1 y2 y3 y4 y5 y6)
        | (obtain ⟨G, hGe⟩ : ∃ G, G = w1.heap.size := ⟨_, rfl⟩
           have hg0 : wr.heap.size ≤ G := by omega
           obtain ⟨w2, hw2⟩ : ∃ w2, w2 = w1.alloc (.cells #[.int .i64 c.1, .string c.2] 93) := ⟨_, rfl⟩
           have hx2 : w2.heap[G]? = some (.cells #[.int .i64 c.1, .string c.2] 93 (0, 0)) := by rw [hw2, hGe]; exact heap_alloc_new _ _
           have b2 : Below wr.heap.size wr w2 := by rw [hw2]; exact b1.alloc hs1 _
           rw [← hw2, ← hGe]
           clear hw2 hGe)
        clear b1 hs1 p0 p1 p2 p3 p4 q0 q1 q2 q3 r0
        have hs2 := b2.size
        have bb := hb.trans (b2.mono hbs)
        have hgl := lt_of_block hx2
        obtain ⟨z0, z1⟩ := boxc2 (lay := Below.refl _ _) hx2
        obtain ⟨k0, k1⟩ := boxc2 (lay := bb) X2.out
        have f0 := boxfree bb X2.out 0
        have f1 := boxfree bb X2.out 1
        have hl2 : w.heap.size + 1 + 1 < w2.heap.size := by omega
        have hl0 : w.heap.size < w2.heap.size := by omega
        by_cases hc0 : c.1 = 0
        · obtain ⟨ec, e1, e2⟩ := argBad_zero (HC.out ▸ hc0)
          have hcz : c = bad0 := by rw [HC.out]; exact ec
          subst hcz
          have z0' : w2.cell? ⟨G, 0, none⟩ = some (.int .i64 0) := z0
          have z1' : w2.cell? ⟨G, 1, none⟩ = some (.string ⟨#[]⟩) := z1
          clear z0 z1 hx2
          have RT2 := Lib.hid (RT.out.below b2)
          obtain ⟨p0, p1, p2, p3, p4⟩ := boxcells5 (lay := bb) X0.out
          have r0 := (KS.out _ b2).2.2.2.2.2
          have hbl2 : b < w2.heap.size := by omega
          clear ec hc0
          go_wp2_with fail
          cases e3 : hasS (args.take t) a
          · have HN1 := Lib.hid (hc.out.trans (chkA_0 HAT.out e1 e2 e3))
            go_quiet ((go_at_call 74; exact Calls.quiet_of_same ((l1Has_any _ _ _ (args.take t) a _ (RT2.out.drewN _) (by rw [List.length_take, HM.out]; omega) (by omega)).mono fun e W h => (⟨h.1.trans (by rw [e3]), h.2.symm⟩ : e = .returned (.bool false) ∧ W = _))))
            go_wp2_with fail
            go_roundw
            case rel => exact ⟨t + 1, by omega, by go_num, HN1, below_drewN bb _⟩
            case measure => simp [intOf]; omega
          · have HF := Lib.hid (gateBad_n (word := word) (hc.out.trans (chkA_3 HAT.out e1 e2 e3)) (show (3 : Int) ≠ 0 by decide))
            go_quiet ((go_at_call 74; exact Calls.quiet_of_same ((l1Has_any _ _ _ (args.take t) a _ (RT2.out.drewN _) (by rw [List.length_take, HM.out]; omega) (by omega)).mono fun e W h => (⟨h.1.trans (by rw [e3]), h.2.symm⟩ : e = .returned (.bool true) ∧ W = _))))
            go_wp2_with fail
            exact bodyPost_ret (v := .agg #[.int .i64 3, .string a]) (by simp [results, Tryd.results110, go_sem, k0, k1]) rfl ⟨by rw [HF.out], ((B0.out.trans ((below_drewN bb _).mono (by omega))).setCell (by simp; omega) _).setCell (by simp; omega) _, by simp [World.setCell]; omega⟩
        · have HF := Lib.hid (gateBad_n (word := word) (hc.out.trans (argBad_step HAT.out (HC.out ▸ hc0))) (HC.out ▸ hc0))
          have hne : (c.1 != 0) = true := by rw [bne_iff_ne]; exact hc0
          go_wp2_with fail
          exact bodyPost_ret (v := .agg #[.int .i64 c.1, .string c.2]) (by simp [results, Tryd.results110, go_sem, k0, k1]) rfl ⟨by rw [HF.out, ← HC.out], ((B0.out.trans (bb.mono (by omega))).setCell (by simp; omega) _).setCell (by simp; omega) _, by simp [World.setCell]; omega⟩
    · obtain rfl : t = m := by omega
      have hc' : Hid (chkA names held args 0 args = bad0) := by
        have := hc.out
        rw [List.drop_of_length_le (by rw [HM.out]; exact Nat.le_refl _)] at this
        exact this.trans rfl
      have hkk : gkind word ≤ 12 := gkindFrom_le _ 12 1 (by omega)
      have HCT := Lib.hid (fun W => l20Control_any (gkind word) nh W hkk h3)
      obtain ⟨v, hv⟩ : ∃ v, v = ctlS (gkind word) nh := ⟨_, rfl⟩
      rw [← hv] at HCT
      have HV := Lib.hid hv
      clear hv
      have KS : Hid (∀ W : World, Below wr.heap.size wr W → (W.cell? ⟨w.heap.size, 1, none⟩ = some (.string word) ∧ W.cell? ⟨w.heap.size + 1, 1, none⟩ = some (.slice Ah nh ch))) := fun W hW => ⟨(hW.cell (p := ⟨w.heap.size, 1, none⟩) hlz).trans p1, (hW.cell (p := ⟨w.heap.size + 1, 1, none⟩) hlz1).trans q1⟩
      cases v
      all_goals
        go_wp2_with fail
        go_region_held3 (fun W => W.cell? ⟨w.heap.size, 1, none⟩ = some (.string word) ∧ W.cell? ⟨w.heap.size + 1, 1, none⟩ = some (.slice Ah nh ch)) ((refine KS.out _ ?_; first | exact Below.refl _ _ | exact (Below.refl _ _).drew | exact b1)) (first | (go_at_call 90; (with_reducible refine (GateKind_spec word _).mono ?_); rintro e w1 ⟨rfl, b1d, s1d⟩; have b1 := below_undrewC b1d) | (go_at_call 121; (with_reducible refine (HCT.out _).mono ?_); rintro e w' ⟨rfl, rfl⟩))
        have hs1 := b1.size
        have bb := hb.trans (b1.mono hbs)
        have r1 := (KS.out _ b1).1
        clear p0 p1 p2 p3 p4 q0 q1 q2 q3
        obtain ⟨k0, k1⟩ := boxc2 (lay := bb) X2.out
        have f0 := boxfree bb X2.out 0
        have f1 := boxfree bb X2.out 1
        have hl2 : w.heap.size + 1 + 1 < w1.heap.size := by omega
        have hl0 : w.heap.size < w1.heap.size := by omega
        go_wp2_with fail
      · have HF := Lib.hid (gateBad_f (word := word) hc'.out (by rw [HNH.out]; exact HV.out.symm))
        exact bodyPost_ret (v := .agg #[.int .i64 9, .string word]) (by simp [results, Tryd.results110, go_sem, k0, k1]) rfl ⟨by rw [HF.out], ((B0.out.trans (bb.mono (by omega))).setCell (by simp; omega) _).setCell (by simp; omega) _, by simp [World.setCell]; omega⟩
      · have HF := Lib.hid (gateBad_t (word := word) hc'.out (by rw [HNH.out]; exact HV.out.symm))
        exact bodyPost_ret (v := .agg #[.int .i64 0, .string ⟨#[]⟩]) (by simp [results, Tryd.results110, go_sem, k0, k1]) rfl ⟨by rw [HF.out]; rfl, ((B0.out.trans (bb.mono (by omega))).setCell (by simp; omega) _).setCell (by simp; omega) _, by simp [World.setCell]; omega⟩
end Go.Proofs.YtijocafindbebaaDoor
