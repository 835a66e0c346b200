/- The measured bits: the reference's l20Bits and MeasuredBits. -/
import Derived.Test.YtijocafindbebaaBits
import Derived.Test.YtijocafindbebaaPgm
namespace Go.Proofs.Ytijocafindbebaa
open Go.RowKit
set_option linter.unusedVariables false
def RetOut (base : Nat) (out : List ByteArray) (w : World) (e : Ending) (w' : World) : Prop := ∃ v', e = .returned v' ∧ OutS w' base v' out ∧ Below base w w' ∧ w.heap.size ≤ w'.heap.size
def BitsSaid (d : Nat) : Prop := ∀ (lo base : Nat) (A : Option Addr) (n c : Nat) (l : List (Tr d)) (v : Value) (out : List ByteArray) (w0 w : World), RdT w0 lo d A n l → w0.heap.size ≤ base → base ≤ w.heap.size → Below base w0 w → OutS w base v out → out.length + szT d l ≤ 1048576 →
  Calls Try.prog 24 #[.slice A n c, v] w (RetOut base (bitsT d l out) w)
theorem strs_snoc (l : List ByteArray) (a : ByteArray) : strs (l ++ [a]) = strs l ++ [.string a] := by simp [strs]
theorem rd_lit3 {w : World} {cs : Array Value} {e n size b : Nat} (h0 : b = w.heap.size) (hs : cs.size = n * size) : Rd (w.alloc (.cells cs e)) size (some ⟨b, 0, none⟩) n cs.toList := by
  subst h0
  refine ⟨by simpa using hs, fun _ => ⟨_, 0, rfl, by simp, fun j u hu => ?_⟩⟩
  have h := heap_alloc_new w (.cells cs e)
  have hc : cs[j]? = some u := by rw [← Array.getElem?_toList]; exact hu
  rw [Nat.zero_add]
  exact cell_at h hc
theorem own_lowB {w : World} {B B' e size n : Nat} {v : Value} {xs : List Value} (h : w.ownsRow B e size v n xs) (hB : B' ≤ B) : w.ownsRow B' e size v n xs := by
  refine ⟨h.1, ?_⟩
  rcases h.2 with h2 | ⟨g, cap, cur, h1, h2, h3⟩
  · exact .inl h2
  · exact .inr ⟨g, cap, cur, h1, Nat.le_trans hB h2, h3⟩
theorem newB_k {h : SH} {out : List ByteArray} (e : h.k ≠ 6) : newB h out = false := by simp [newB, e]
theorem newB_l {h : SH} {out : List ByteArray} (e : ¬ 1 < h.args.length) : newB h out = false := by simp [newB, e]
theorem newB_h {h : SH} {out : List ByteArray} (e : hasS out (argAt h) = true) : newB h out = false := by simp [newB, e]
theorem newB_t {h : SH} {out : List ByteArray} (e1 : h.k = 6) (e2 : 1 < h.args.length) (e3 : hasS out (argAt h) = false) : newB h out = true := by simp [newB, e1, e2, e3]
set_option maxRecDepth 100000 in
set_option maxHeartbeats 4000000 in
theorem l20Bits_any : ∀ (d : Nat), BitsSaid d := by
  intro d
  induction d with
  | zero =>
    intro lo base A n c l v out w0 w h h0 hbs hb ho _
    obtain rfl := szT_zero_len h
    go_enter Try.func24, Try.ntmps24
    go_wp2
    refine wp_loop_rounds 1 ?_
    rw [rounds_succ]
    go_wp2
    go_ret
    exact ⟨_, rfl, ho, Below.refl _ _, Nat.le_refl _⟩
  | succ d ih =>
    intro lo base A n c l v out w0 w h h0 hbs hb ho hsz
    obtain ⟨i0, hi, hz0, hz1, hz2⟩ := info_parts info_str
    have hl := h.len
    have hq := hsz
    rw [szT_succ] at hq
    have hn : n ≤ 1048576 := by omega
    have H := Lib.hid h
    have HL := Lib.hid hl
    have HB0 := Lib.hid hb
    have HQ := Lib.hid hq
    have IH := Lib.hid ih
    clear h hl hb hsz hq ih
    go_enter Try.func24, Try.ntmps24
    go_wp2
    go_loopw [1, 5] (fun v i wr => ∃ t : Nat, t ≤ n ∧ i = .int .i64 t ∧ OutS wr base v (bitsT (d + 1) (l.take t) out) ∧ Below base w wr) (fun _ i _ => n - (intOf i).toNat)
    case atStart => exact ⟨0, Nat.zero_le _, rfl, ho, Below.refl _ _⟩
    case round =>
      obtain ⟨t, ht, rfl, hO, hb⟩ := hrel
      have hbz := hb.size
      by_cases hlt : t < n
      · have hb0 : Below w0.heap.size w0 wr := (HB0.out.trans hb).mono h0
        have hz0' := hb0.size
        obtain ⟨b, off, s, Aa, ca, Ab, nb, cb, rfl, hbl, hs, ⟨c0, c1, c2, c3, c4⟩, ha, hbd⟩ := H.out.at_ hlt
        rw [← hb0.cell (p := ⟨b, _, none⟩) hbl] at c0 c1 c2 c3 c4
        have HSTEP := Lib.hid (bitsT_step l t s out hs)
        have hq := HQ.out
        have hl' := HL.out
        have h1 := sumE_take l t s hs
        have h2 := sumE_take_le l (t + 1)
        have h3 : szE s = (hdT s).word.size + ((hdT s).args.length + szS (hdT s).args + szT d (bdT s)) := rfl
        have h4 := bitsT_len (d + 1) (l.take t) out
        rw [szT_succ, List.length_take] at h4
        obtain ⟨O, hOe⟩ : ∃ O, O = bitsT (d + 1) (l.take t) out := ⟨_, rfl⟩
        rw [← hOe] at hO HSTEP h4
        have h5 := bits1_len (hdT s) O
        have hsz' : (bits1 (hdT s) O).length + szT d (bdT s) ≤ 1048576 := by omega
        have hol : O.length ≤ 1048576 := by omega
        have hal : (hdT s).args.length ≤ 1048576 := by omega
        have HBD := Lib.hid hbd
        obtain ⟨Y, hY⟩ : ∃ Y, Y = bits1 (hdT s) O := ⟨_, rfl⟩
        rw [← hY] at HSTEP hsz'
        have HY := Lib.hid hY
        obtain ⟨Ao, co, rfl, _, _, ro⟩ := rd_of_own hO
        obtain ⟨wa, hwa⟩ : ∃ wa, wa = wr.alloc (.cells #[.int .i64 (hdT s).k, .string (hdT s).word, .slice Aa (hdT s).args.length ca, .int .i64 (hdT s).count, .slice Ab nb cb] 49) := ⟨_, rfl⟩
        have ba : Below wr.heap.size wr wa := by rw [hwa]; exact (by repeat (first | exact Below.refl _ _ | assumption | (refine Below.trans ?_ (Below.mono (by assumption) (by first | omega | (simp; done) | (simp; omega)))) | (with_reducible refine Below.drew ?_) | (with_reducible refine Below.alloc ?_ (by first | omega | (simp; done) | (simp; omega)) _) | (with_reducible refine Below.setCell ?_ (by first | omega | (simp; done) | (simp; omega)) _)))
        have X := Lib.hid (show wa.heap[wr.heap.size]? = some (.cells #[.int .i64 (hdT s).k, .string (hdT s).word, .slice Aa (hdT s).args.length ca, .int .i64 (hdT s).count, .slice Ab nb cb] 49 (0, 0)) by rw [hwa]; exact boxed1_0 _ _)
        have hsa : wr.heap.size + 1 = wa.heap.size := by rw [hwa]; simp
        have HO := Lib.hid hO
        have OWN := Lib.hid (ownsRow_below hO ba)
        have RO := Lib.hid (ro.below ba)
        have BA := Lib.hid (hb.trans (ba.mono (by omega)))
        have WA := Lib.hid hwa
        have HS := Lib.hid hs
        have HA := Lib.hid ha
        obtain ⟨k, hk0⟩ : ∃ k, k = (hdT s).k := ⟨_, rfl⟩
        obtain ⟨na, hna⟩ : ∃ na, na = (hdT s).args.length := ⟨_, rfl⟩
        rw [← hk0] at c0 X WA
        rw [← hna] at c2 hal X WA HA
        have HK := Lib.hid hk0
        have HNA := Lib.hid hna
        clear hs ha hbd hq hl' h1 h2 h3 h4 h5 hOe hO ro hwa ba hk0 hna hY hb hb0
        by_cases hk : k = 6
        · subst hk
          by_cases h1 : 1 < na
          · have hi1 : (1 : Int) < (na : Int) := by omega
            obtain ⟨bq, offq, rfl, _, hbq, hcq⟩ := HA.out.2 (by omega)
            have hq1 := hcq 1 _ (strs_at (argAt_of (by rw [← HNA.out]; exact h1)))
            have hb0 : Below w0.heap.size w0 wa := (HB0.out.trans BA.out).mono h0
            have q1 : wa.cell? ⟨bq, offq + 1, none⟩ = some (.string (argAt (hdT s))) := (hb0.cell (p := ⟨bq, offq + 1, none⟩) hbq).trans hq1
            have hlt1 : bq < wa.heap.size := by have := hb0.size; omega
            obtain ⟨p0, p1, p2, p3, p4⟩ := boxcells5 (lay := Below.refl _ _) X.out
            have hlt2 : wr.heap.size < wa.heap.size := by omega
            obtain ⟨a, hae⟩ : ∃ a, a = argAt (hdT s) := ⟨_, rfl⟩
            rw [← hae] at q1
            have HAE := Lib.hid hae
            have BB0 := Lib.hid hb0
            have W2 := WA.out
            rw [W2] at q1 p0 p1 p2 p3 p4
            clear hcq hq1 hae hb0 W2
            cases hh : hasS O a
            · have HYO : Hid (Y = O ++ [a]) := by rw [HY.out, bits1_t (newB_t (by rw [← HK.out]) (by rw [← HNA.out]; exact h1) (by rw [← HAE.out]; exact hh)), ← HAE.out]; exact rfl
              have OWR := OWN.out
              rw [WA.out] at OWR
              have hbsz : base ≤ (wr.alloc (.cells #[.int .i64 6, .string (hdT s).word, .slice (some ⟨bq, offq, none⟩) na ca, .int .i64 (hdT s).count, .slice Ab nb cb] 49)).heap.size := by simp; omega
              go_wp2_with (first | (go_at_call 39; refine (l1Has_any _ _ _ O a _ (by rw [← WA.out]; exact RO.out) rfl (by omega)).mono ?_; rintro e w' ⟨rfl, rfl⟩) | (at_builtin; refine wpList_append_rd _ rfl _ _ 22 rfl base 9 i0 _ 1 16 Try.underlying22 hi hz0 hz1 hz2 rfl (by decide) _ _ _ rfl (OWR.alloc _) _ 1 1 _ rfl (rd_lit3 ?c0 rfl) ?c2 ?c3 ?c4 ?c5 ?_))
              case c0 => first | omega | rfl | (simp; done) | (simp; omega)
              case c2 => repeat' (first | rfl | apply And.intro)
              case c3 => simp only [maxLen]; omega
              case c4 => omega
              case c5 => simp; omega
              intro v3 w3 own3 gr3 _
              rw [← WA.out] at gr3
              have hx3 : w3.heap[wr.heap.size]? = _ := (gr3.block wr.heap.size (by simp; omega) (fun e => by have := (HO.out.lt _ e.symm).2; omega)).trans ((Below.heap_alloc _ _ _ hlt2).trans X.out)
              have r4 := cell_at (j := 4) (u := .slice Ab nb cb) hx3 rfl
              have hlt3 : wr.heap.size < w3.heap.size := lt_of_block hx3
              have BY := Lib.hid ((BA.out.alloc (by omega) _).grown gr3 (by simp; omega) (own_ge HO.out))
              have OWNY : Hid (OutS w3 base v3 Y) := by
                rw [HYO.out]
                unfold OutS
                rw [List.length_append, strs_snoc]
                exact own3
              clear OWR gr3 hx3 own3 hbsz p0 p1 p2 p3 p4 q1
              go_wp2_with fail
        
              refine (IH.out lo base _ _ _ (bdT s) _ Y w0 _ HBD.out h0 (by have := BY.out.size; omega) (HB0.out.trans BY.out) OWNY.out hsz').mono ?_
              rintro e wz ⟨vz, rfl, oz, bz, sz⟩
              have OZ := Lib.hid oz
              have BZ := Lib.hid (BY.out.trans bz)
              clear oz bz
              go_wp2_with fail
              go_roundw
              case rel => exact ⟨t + 1, by omega, by go_num, by rw [HSTEP.out]; exact OZ.out, BZ.out⟩
              case measure => simp [intOf]; omega
            · have HYO : Hid (Y = O) := by rw [HY.out, bits1_f (newB_h (by rw [← HAE.out]; exact hh))]; exact rfl
              have OWNY : Hid (OutS wa base (.slice Ao O.length co) Y) := by rw [HYO.out]; exact OWN.out
              go_wp2_with (go_at_call 39; refine (l1Has_any _ _ _ O a _ (by rw [← WA.out]; exact RO.out) rfl (by omega)).mono ?_; rintro e w' ⟨rfl, rfl⟩)
              rw [← WA.out]
              refine (IH.out lo base _ _ _ (bdT s) _ Y w0 _ HBD.out h0 (by have := BA.out.size; omega) (HB0.out.trans BA.out) OWNY.out hsz').mono ?_
              rintro e wz ⟨vz, rfl, oz, bz, sz⟩
              have OZ := Lib.hid oz
              have BZ := Lib.hid (BA.out.trans bz)
              clear oz bz
              go_wp2_with fail
              go_roundw
              case rel => exact ⟨t + 1, by omega, by go_num, by rw [HSTEP.out]; exact OZ.out, BZ.out⟩
              case measure => simp [intOf]; omega
          · have HYO : Hid (Y = O) := by rw [HY.out, bits1_f (newB_l (by rw [← HNA.out]; exact h1))]; exact rfl
            have hi1 : decide ((1 : Int) < (na : Int)) = false := by simp; omega
            have hi2 : decide (1 < na) = false := by simp; omega
            clear h1
            have OWNY : Hid (OutS wa base (.slice Ao O.length co) Y) := by rw [HYO.out]; exact OWN.out
            go_wp2_with fail
            rw [← WA.out]
            refine (IH.out lo base _ _ _ (bdT s) _ Y w0 _ HBD.out h0 (by have := BA.out.size; omega) (HB0.out.trans BA.out) OWNY.out hsz').mono ?_
            rintro e wz ⟨vz, rfl, oz, bz, sz⟩
            have OZ := Lib.hid oz
            have BZ := Lib.hid (BA.out.trans bz)
            clear oz bz
            go_wp2_with fail
            go_roundw
            case rel => exact ⟨t + 1, by omega, by go_num, by rw [HSTEP.out]; exact OZ.out, BZ.out⟩
            case measure => simp [intOf]; omega
        · have HYO : Hid (Y = O) := by rw [HY.out, bits1_f (newB_k (by rw [← HK.out]; exact hk))]; exact rfl
          have ek : (k == 6) = false := beq_eq_false_iff_ne.2 hk
          clear hk
          have OWNY : Hid (OutS wa base (.slice Ao O.length co) Y) := by rw [HYO.out]; exact OWN.out
          go_wp2_with fail
          rw [← WA.out]
          refine (IH.out lo base _ _ _ (bdT s) _ Y w0 _ HBD.out h0 (by have := BA.out.size; omega) (HB0.out.trans BA.out) OWNY.out hsz').mono ?_
          rintro e wz ⟨vz, rfl, oz, bz, sz⟩
          have OZ := Lib.hid oz
          have BZ := Lib.hid (BA.out.trans bz)
          clear oz bz
          go_wp2_with fail
          go_roundw
          case rel => exact ⟨t + 1, by omega, by go_num, by rw [HSTEP.out]; exact OZ.out, BZ.out⟩
          case measure => simp [intOf]; omega
      · obtain rfl : t = n := by omega
        have HF : Hid (bitsT (d + 1) (l.take t) out = bitsT (d + 1) l out) := by rw [List.take_of_length_le (by rw [HL.out]; exact Nat.le_refl _)]; exact rfl
        have HO := Lib.hid hO
        clear hO
        go_wp2_with fail
        go_ret
        exact ⟨_, rfl, by rw [← HF.out]; exact HO.out, hb, hbz⟩
/-- A list of words that a call returns in new memory. -/
def RetStrs (w : World) (out : List ByteArray) : Ending → World → Prop := RetRow 9 1 w out.length (strs out)
set_option maxRecDepth 100000 in
set_option maxHeartbeats 1000000 in
theorem MeasuredBits_spec (d lo : Nat) (Aq : Option Addr) (m cq : Nat) (l : List (Tr d)) (Ab : Option Addr) (nb cb : Nat) (w : World) (hrb : RdT w lo d Ab nb l) (hsz : szT d l ≤ 1048576) :
    Calls Try.prog 6 #[.agg #[.slice Aq m cq, .slice Ab nb cb]] w (RetStrs w (bitsT d l [])) := by
  have ho : OutS ((w.alloc (.cells #[.slice Aq m cq, .slice Ab nb cb] 30)).alloc (.cells #[] 9)) w.heap.size (.slice (some ⟨w.heap.size + 1, 0, none⟩) 0 0) [] := by
    have h := own_lowB (own_empty (w.alloc (.cells #[.slice Aq m cq, .slice Ab nb cb] 30)) 9 1) (B' := w.heap.size) (by simp)
    unfold OutS
    simpa [strs] using h
  have HO := Lib.hid ho
  have H := Lib.hid hrb
  clear hrb ho
  go_enter Try.func6, Try.ntmps6
  go_wp2_with fail
  refine (l20Bits_any d lo w.heap.size _ _ _ l _ [] w _ H.out (Nat.le_refl _) (by first | omega | (simp; done) | (simp; omega)) (by repeat (first | exact Below.refl _ _ | assumption | (refine Below.trans ?_ (Below.mono (by assumption) (by first | omega | (simp; done) | (simp; omega)))) | (with_reducible refine Below.drew ?_) | (with_reducible refine Below.alloc ?_ (by first | omega | (simp; done) | (simp; omega)) _) | (with_reducible refine Below.setCell ?_ (by first | omega | (simp; done) | (simp; omega)) _))) HO.out (by simpa using hsz)).mono ?_
  rintro e w1 ⟨v1, rfl, o1, b1, s1⟩
  have O1 := Lib.hid o1
  have B1 := Lib.hid b1
  clear o1 b1
  have hs1 : w.heap.size ≤ w1.heap.size := by simp at s1; omega
  go_wp2_with fail
  go_ret
  exact ⟨_, rfl, O1.out, Below.trans (by repeat (first | exact Below.refl _ _ | assumption | (refine Below.trans ?_ (Below.mono (by assumption) (by first | omega | (simp; done) | (simp; omega)))) | (with_reducible refine Below.drew ?_) | (with_reducible refine Below.alloc ?_ (by first | omega | (simp; done) | (simp; omega)) _) | (with_reducible refine Below.setCell ?_ (by first | omega | (simp; done) | (simp; omega)) _))) B1.out, hs1⟩
end Go.Proofs.Ytijocafindbebaa
