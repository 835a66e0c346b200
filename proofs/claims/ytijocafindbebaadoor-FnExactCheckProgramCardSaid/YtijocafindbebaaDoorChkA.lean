/- Checking in the program: lists of nested statements. -/
import Derived.Test.YtijocafindbebaaDoorChkO
import Derived.Test.YtijocafindbebaaDoorChkU
namespace Go.Proofs.YtijocafindbebaaDoor
open Go.RowKit
set_option linter.unusedVariables false
theorem stepN_fit {h : SH} {names held : List ByteArray} (h0 : (stepN h names held).1.1 = 0) (hn : names.length ≤ 4) : (stepN h names held).2.1.length ≤ 4 ∧ (stepN h names held).2.2.length ≤ held.length + 1 := by
  unfold stepN at h0 ⊢
  split
  · exact ⟨hn, by simp⟩
  · split
    · exact ⟨hn, by simp⟩
    · split
      · exact ⟨hn, by simp⟩
      · split
        · exact ⟨hn, by simp⟩
        · split
          · split
            · exact ⟨hn, by simp⟩
            · split
              · exact ⟨hn, by simp⟩
              · exact ⟨by simp; omega, by simp⟩
          · exact ⟨hn, by simp⟩
/-- Only a statement with an argument adds to what is under control. -/
theorem stepN_fit2 {h : SH} {names held : List ByteArray} (h1 : 4 ≤ h.k → 1 ≤ h.args.length) : (stepN h names held).2.2.length ≤ held.length + h.args.length := by
  unfold stepN
  split
  · simp
  · split
    · simp
    · split
      · simp
      · split
        · rename_i h4
          have := h1 (by omega)
          simp
          omega
        · split
          · split
            · simp
            · split <;> simp
          · simp
theorem nargs_facts {d : Nat} {h : SH} {bd : List (Tr d)} (hv : vOne d (validT d) h bd = true) : (h.k = 6 → 2 ≤ h.args.length) ∧ (4 ≤ h.k → 1 ≤ h.args.length) := by
  have e := valid_args hv
  refine ⟨fun hk => ?_, fun hk => ?_⟩
  · have h6 : nargs 6 h.word = 2 := rfl
    rw [e, hk, h6]
    exact Nat.le_refl 2
  · rw [e]
    unfold nargs
    repeat' split
    all_goals omega
def AllI (d : Nat) : Prop := ∀ (lo : Nat) (C : Value) (A : Option Addr) (n c : Nat) (l : List (Tr d)) (An : Option Addr) (nn cn : Nat) (Ah : Option Addr) (nh ch : Nat) (names held : List ByteArray) (w : World), RdT w lo d A n l →
  Rd w 1 An nn (strs names) → Rd w 1 Ah nh (strs held) → names.length = nn → held.length = nh → nn ≤ 4 → nh + szT d l ≤ 1048576 → validT d l = true →
  Calls Tryd.prog 77 #[C, .slice A n c, .agg #[.slice An nn cn, .slice Ah nh ch, .bool true]] w (RetBad2 (chkN d l names held) w)
set_option maxRecDepth 100000 in
set_option maxHeartbeats 8000000 in
theorem all_nested : ∀ (d : Nat), AllI d := by
  intro d
  induction d with
  | zero =>
    intro lo C A n c l An nn cn Ah nh ch names held w h _ _ _ _ _ _ _
    obtain rfl := szT_zero_len h
    go_enter Tryd.func77, Tryd.ntmps77
    go_wp2
    refine wp_loop_rounds 1 ?_
    rw [rounds_succ]
    go_wp2
    go_ret2
    exact ⟨rfl, (by repeat (first | exact Below.refl _ _ | assumption | (refine Below.trans ?_ (Below.mono (by assumption) (by first | omega | (simp; done) | (simp; omega)))) | (with_reducible refine Below.drew ?_) | (with_reducible refine Below.alloc ?_ (by first | omega | (simp; done) | (simp; omega)) _) | (with_reducible refine Below.setCell ?_ (by first | omega | (simp; done) | (simp; omega)) _))), (by first | omega | (simp; done) | (simp; omega))⟩
  | succ d ih =>
    intro lo C A n c l An nn cn Ah nh ch names held w h hrn hrh hnn hnh h4 hsz hv
    have hq := hsz
    rw [szT_succ] at hq
    have hln := h.len
    have hn : n ≤ 1048576 := by omega
    obtain ⟨L, hL⟩ : ∃ L, L = l.map fun s => oneN (hdT s) (chkN d (bdT s)) names held := ⟨_, rfl⟩
    have HRES : Hid (chkN (d + 1) l names held = firstB L) := by rw [hL]; exact rfl
    obtain ⟨w0, hw0⟩ : ∃ w0, w0 = w.alloc (.cells #[.slice An nn cn, .slice Ah nh ch, .bool true] 103) := ⟨_, rfl⟩
    have X0 := Lib.hid (show w0.heap[w.heap.size]? = some (.cells #[.slice An nn cn, .slice Ah nh ch, .bool true] 103 (0, 0)) by rw [hw0]; exact boxed1_0 _ _)
    have b0 : Below w.heap.size w w0 := by rw [hw0]; exact (by repeat (first | exact Below.refl _ _ | assumption | (refine Below.trans ?_ (Below.mono (by assumption) (by first | omega | (simp; done) | (simp; omega)))) | (with_reducible refine Below.drew ?_) | (with_reducible refine Below.alloc ?_ (by first | omega | (simp; done) | (simp; omega)) _) | (with_reducible refine Below.setCell ?_ (by first | omega | (simp; done) | (simp; omega)) _)))
    have hz0 : w.heap.size < w0.heap.size := by rw [hw0]; simp
    have HW := Lib.hid hw0
    have H := Lib.hid h
    have HLN := Lib.hid hln
    have HL := Lib.hid hL
    have HN := Lib.hid hrn
    have HH := Lib.hid hrh
    have HNN := Lib.hid hnn
    have HNH := Lib.hid hnh
    have HQ := Lib.hid hq
    have HV := Lib.hid hv
    have IH := Lib.hid ih
    have B0 := Lib.hid b0
    clear h hln hL hrn hrh hnn hnh hsz hq hv ih hw0 b0
    go_enter Tryd.func77, Tryd.ntmps77
    go_wp2_with fail
    rw [← HW.out]
    go_loopw [15] (fun i wr => ∃ t : Nat, t ≤ n ∧ i = .int .i64 t ∧ Hid (∀ x ∈ L.take t, x.1 = 0) ∧ Below w0.heap.size w0 wr) (fun i _ => n - (intOf i).toNat)
    case atStart => exact ⟨0, Nat.zero_le _, rfl, fun x hx => by simp at hx, Below.refl _ _⟩
    case round =>
      obtain ⟨t, ht, rfl, hzs, hb⟩ := hrel
      have hbs := hb.size
      by_cases hlt : t < n
      · have hbw : Below w.heap.size w wr := B0.out.trans (hb.mono (by omega))
        obtain ⟨b, off, s, Aa, ca, Ac, nc, cc, rfl, hbl, hs, ⟨c0, c1, c2, c3, c4⟩, ha, hbd, hcap⟩ := (H.out.below hbw).at_c hlt
        have hme := szT_mem hs
        have hze : szE s = (hdT s).word.size + ((hdT s).args.length + szS (hdT s).args + szT d (bdT s)) := rfl
        have hq := HQ.out
        have hvs := validT_mem HV.out hs
        obtain ⟨hk, _, hvb⟩ := vOne_facts hvs
        obtain ⟨hg6, hg4⟩ := nargs_facts hvs
        obtain ⟨k, hk0⟩ : ∃ k, k = (hdT s).k := ⟨_, rfl⟩
        obtain ⟨m, hm0⟩ : ∃ m, m = (hdT s).args.length := ⟨_, rfl⟩
        obtain ⟨word, hwd⟩ : ∃ word, word = (hdT s).word := ⟨_, rfl⟩
        obtain ⟨count, hct⟩ : ∃ count, count = (hdT s).count := ⟨_, rfl⟩
        obtain ⟨R, hR⟩ : ∃ R, R = stepN (hdT s) names held := ⟨_, rfl⟩
        have hHD : (⟨k, word, (hdT s).args, count⟩ : SH) = hdT s := by rw [hk0, hwd, hct]
        obtain ⟨wS, hwS⟩ : ∃ wS, wS = wr.alloc (.cells #[.int .i64 k, .string word, .slice Aa m ca, .int .i64 count, .slice Ac nc cc] 30) := ⟨_, rfl⟩
        have XS := Lib.hid (show wS.heap[wr.heap.size]? = some (.cells #[.int .i64 k, .string word, .slice Aa m ca, .int .i64 count, .slice Ac nc cc] 30 (0, 0)) by rw [hwS]; exact boxed1_0 _ _)
        have bS : Below wr.heap.size wr wS := by rw [hwS]; exact (by repeat (first | exact Below.refl _ _ | assumption | (refine Below.trans ?_ (Below.mono (by assumption) (by first | omega | (simp; done) | (simp; omega)))) | (with_reducible refine Below.drew ?_) | (with_reducible refine Below.alloc ?_ (by first | omega | (simp; done) | (simp; omega)) _) | (with_reducible refine Below.setCell ?_ (by first | omega | (simp; done) | (simp; omega)) _)))
        have bwS : Below w.heap.size w wS := hbw.trans (bS.mono (by omega))
        have hsS : wr.heap.size + 1 = wS.heap.size := by rw [hwS]; simp
        have HC : Hid (Calls Tryd.prog 98 #[C, .agg #[.int .i64 k, .string word, .slice Aa m ca, .int .i64 count, .slice Ac nc cc], .agg #[.slice An nn cn, .slice Ah nh ch, .bool true]] wS (RetOne R wS)) := by
          rw [hR, ← hHD]
          exact one_try C k word names held count Aa m ca Ac nc cc An Ah nn cn nh ch true wS (hdT s).args hm0.symm ((by rw [hm0]; exact ha.rd : Rd wr 1 Aa m (strs (hdT s).args)).below bS) (by rw [hm0]; exact hcap) (by rw [hk0]; exact hk) (by rw [hk0, hm0]; exact hg6) (by rw [hk0, hm0]; exact hg4) (by omega) HNN.out (HN.out.below bwS) HNH.out (HH.out.below bwS) (by omega) (by omega) h4 (fun _ => rfl)
        have HFIT : Hid (R.1.1 = 0 → R.2.1.length ≤ 4 ∧ R.2.2.length + szT d (bdT s) ≤ 1048576) := by
          rw [hR]
          refine fun h0 => ⟨(stepN_fit h0 (by rw [HNN.out]; exact h4)).1, ?_⟩
          have h1 := stepN_fit2 (names := names) (held := held) hg4
          rw [HNH.out] at h1
          omega
        have HBD := Lib.hid (hbd.below bS)
        have HVB := Lib.hid hvb
        obtain ⟨cc', hcc⟩ : ∃ c', c' = oneN (hdT s) (chkN d (bdT s)) names held := ⟨_, rfl⟩
        have HAT : Hid (L[t]? = some cc') := by
          rw [HL.out, List.getElem?_map, hs, hcc]
          exact rfl
        have HC0 : Hid (R.1.1 = 0 → cc' = chkN d (bdT s) R.2.1 R.2.2) := by
          rw [hcc, hR]
          exact fun h0 => by rw [oneN, if_pos h0]
        have HC1 : Hid (¬ R.1.1 = 0 → cc' = R.1) := by
          rw [hcc, hR]
          exact fun h0 => by rw [oneN, if_neg h0]
        rw [← hk0] at c0
        rw [← hwd] at c1
        rw [← hm0] at c2
        rw [← hct] at c3
        have BWS := Lib.hid (hb.trans (bS.mono hbs))
        have WS := Lib.hid hwS
        obtain ⟨q0, q1, q2⟩ := boxcells3 (lay := hb) X0.out
        have hzr : w.heap.size < wr.heap.size := by omega
        clear hs ha hbd hcap hme hze hq hvs hk hvb hg6 hg4 hk0 hm0 hwd hct hR hHD hwS bS bwS hcc
        go_wp2_with fail
        rw [← WS.out]
        refine HC.out.mono ?_
        rintro e w1 ⟨A1, c1', A2, c2', n1, n2, rfl, hl12, b1, s1⟩
        have HLL := Lib.hid hl12
        have BW1 := Lib.hid (BWS.out.trans (b1.mono BWS.out.size))
        have hl1 : wr.heap.size < w1.heap.size := by omega
        obtain ⟨p0, p1, p2, p3, p4⟩ := boxcells5 (lay := b1) XS.out
        clear hl12 c0 c1 c2 c3 c4 q0 q1 q2
        by_cases hr0 : R.1.1 = 0
        · obtain ⟨z1, z2, z3, z4⟩ := HLL.out hr0
          obtain ⟨y1, y2⟩ := HFIT.out hr0
          have HE := Lib.hid (HC0.out hr0)
          have heq : (R.1.1 == 0) = true := by simp [hr0]
          obtain ⟨wz, hwz⟩ : ∃ wz, wz = w1.alloc (.cells #[.slice A1 n1 c1', .slice A2 n2 c2', .bool true] 103) := ⟨_, rfl⟩
          have bz : Below w1.heap.size w1 wz := by rw [hwz]; exact (by repeat (first | exact Below.refl _ _ | assumption | (refine Below.trans ?_ (Below.mono (by assumption) (by first | omega | (simp; done) | (simp; omega)))) | (with_reducible refine Below.drew ?_) | (with_reducible refine Below.alloc ?_ (by first | omega | (simp; done) | (simp; omega)) _) | (with_reducible refine Below.setCell ?_ (by first | omega | (simp; done) | (simp; omega)) _)))
          have bzz : Below wS.heap.size wS wz := b1.trans (bz.mono b1.size)
          have HK := Lib.hid (IH.out lo C Ac nc cc (bdT s) A1 n1 c1' A2 n2 c2' R.2.1 R.2.2 wz (HBD.out.below bzz) (z2.below bz) (z4.below bz) z1 z3 (by omega) (by omega) HVB.out)
          have BWZ := Lib.hid (BW1.out.trans (bz.mono BW1.out.size))
          have WZ := Lib.hid hwz
          have HR0 := Lib.hid hr0
          clear z1 z2 z3 z4 y1 y2 hr0 bz bzz hwz b1
          rw [← HE.out] at HK
          go_wp2_with fail
          rw [← WZ.out]
          refine HK.out.mono ?_
          rintro e w2 ⟨rfl, b2, s2⟩
          have BW2 := Lib.hid (BWZ.out.trans (b2.mono BWZ.out.size))
          clear b2 p0 p1 p2 p3 p4
          by_cases hc0 : cc'.1 = 0
          · have HZ := Lib.hid (take_zero HAT.out hzs.out hc0)
            have hne : (cc'.1 != 0) = false := by simp [hc0]
            clear hc0
            go_wp2_with fail
            go_roundw
            case rel => exact ⟨t + 1, by omega, by go_num, HZ, BW2.out⟩
            case measure => simp [intOf]; omega
          · have HF := Lib.hid (HRES.out.trans (firstB_at HAT.out hzs.out hc0))
            have hne : (cc'.1 != 0) = true := by rw [bne_iff_ne]; exact hc0
            clear hc0
            go_wp2_with fail
            go_ret2
            exact ⟨by rw [HF.out]; exact rfl, B0.out.trans (BW2.out.mono (by omega)), by have := BW2.out.size; omega⟩
        · have HE := Lib.hid (HC1.out hr0)
          have hc0 : ¬ cc'.1 = 0 := by rw [HE.out]; exact hr0
          have heq : (R.1.1 == 0) = false := by rw [beq_eq_false_iff_ne]; exact hr0
          have hne : (R.1.1 != 0) = true := by rw [bne_iff_ne]; exact hr0
          have HF := Lib.hid (HRES.out.trans (firstB_at HAT.out hzs.out hc0))
          clear hc0 hr0
          go_wp2_with fail
          go_ret2
          exact ⟨by rw [HF.out, HE.out]; exact rfl, B0.out.trans ((BW1.out.mono (by omega)).alloc (by omega) _), by simp; omega⟩
      · obtain rfl : t = n := by omega
        have HF : Hid (chkN (d + 1) l names held = bad0) := by
          rw [HRES.out]
          refine firstB_zero ?_
          have := hzs.out
          rwa [List.take_of_length_le (by rw [HL.out, List.length_map, HLN.out]; exact Nat.le_refl _)] at this
        go_wp2_with fail
        go_ret2
        exact ⟨by rw [HF.out]; rfl, B0.out.trans (hb.mono (by omega)), by omega⟩
end Go.Proofs.YtijocafindbebaaDoor
