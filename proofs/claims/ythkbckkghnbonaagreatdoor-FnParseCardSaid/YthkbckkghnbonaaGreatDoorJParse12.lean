/- What the calls that this law reaches answer, part 12 of 16. -/
import Derived.Test.YthkbckkghnbonaaGreatDoorJParse7
import Derived.Test.YthkbckkghnbonaaGreatDoorJParse11
import Derived.Test.YthkbckkghnbonaaGreatDoorJParse6
import Derived.Test.YthkbckkghnbonaaGreatDoorJParse2
import Derived.Test.YthkbckkghnbonaaGreatDoorJParse5
import Derived.Test.YthkbckkghnbonaaGreatDoorJParse1
import Derived.Test.YthkbckkghnbonaaGreatDoorJParse3
import Derived.Test.YthkbckkghnbonaaGreatDoorJParse8
namespace Go.Proofs.YthkbckkghnbonaaGreatDoor
open Go.RowKit
set_option linter.unusedVariables false
theorem heads_size (n : Nat) : (heads.getD n ⟨#[]⟩).size ≤ 8 := by
  rcases Nat.lt_or_ge n 8 with h | h
  · have : n = 0 ∨ n = 1 ∨ n = 2 ∨ n = 3 ∨ n = 4 ∨ n = 5 ∨ n = 6 ∨ n = 7 := by omega
    rcases this with rfl | rfl | rfl | rfl | rfl | rfl | rfl | rfl <;> decide
  · rw [List.getD_eq_getElem?_getD, List.getElem?_eq_none (by exact h)]
    exact Nat.zero_le _
theorem szS_leF {l : List ByteArray} {s : ByteArray} (h : s ∈ l) : s.size ≤ szS l := by
  obtain ⟨t, ht⟩ := List.mem_iff_getElem?.1 h
  exact szS_mem ht
theorem toks1_small {h : SH} {b : List Tk} {z : Nat} (hw : h.word.size ≤ z) (ha : szS h.args ≤ z) (hb : ∀ t ∈ b, t.s.size ≤ z + 8) : ∀ t ∈ toks1 h b, t.s.size ≤ z + 8 := by
  intro t ht
  unfold toks1 at ht
  simp only [List.mem_append] at ht
  rcases ht with ((ht | ht) | ht) | ht
  · simp only [List.mem_singleton] at ht
    subst ht
    show (headW h.k h.word).size ≤ z + 8
    unfold headW
    split
    · omega
    · have := heads_size h.k.toNat; omega
  · split at ht
    · simp only [List.mem_singleton] at ht
      subst ht
      show 1 ≤ z + 8
      omega
    · cases ht
  · obtain ⟨a, ha', rfl⟩ := List.mem_map.1 ht
    have := szS_leF ha'
    show a.size ≤ z + 8
    omega
  · split at ht
    · simp only [List.mem_singleton] at ht
      subst ht
      exact Nat.zero_le _
    · simp only [List.mem_append, List.mem_singleton] at ht
      rcases ht with (rfl | ht) | rfl
      · exact Nat.zero_le _
      · exact hb t ht
      · exact Nat.zero_le _
theorem toksT_small : ∀ (d : Nat) (l : List (Tr d)) (z : Nat), szT d l ≤ z → ∀ t ∈ toksT d l, t.s.size ≤ z + 8 := by
  intro d
  induction d with
  | zero => intro l z _ t ht; cases ht
  | succ d ih =>
    intro l z hz t ht
    have ht' : t ∈ l.flatMap fun s => toks1 (hdT s) (toksT d (bdT s)) := ht
    obtain ⟨s, hs, ht2⟩ := List.mem_flatMap.1 ht'
    obtain ⟨i, hi⟩ := List.mem_iff_getElem?.1 hs
    have hme := szT_mem hi
    rw [szT_succ] at hz
    unfold szE at hme
    exact toks1_small (by omega) (by omega) (ih (bdT s) z (by omega)) t ht2
theorem pTks_small {d : Nat} {qs : List ByteArray} {l : List (Tr d)} (h1 : szS qs ≤ 1048576) (h2 : szT d l ≤ 1048576) : ∀ t ∈ pTks d qs l, t.s.size ≤ 1099511627776 := by
  intro t ht
  unfold pTks stToks at ht
  split at ht
  · unfold pg1 at ht
    simp only [List.mem_append, List.mem_singleton] at ht
    rcases ht with ((rfl | ht) | rfl) | ht
    · show 6 ≤ _; omega
    · obtain ⟨a, ha, rfl⟩ := List.mem_map.1 ht
      have := szS_leF ha
      show a.size ≤ _
      omega
    · exact Nat.zero_le _
    · have := toksT_small d l 1048576 h2 t ht
      omega
  · cases ht
set_option maxRecDepth 100000 in
set_option maxHeartbeats 1000000 in
theorem FormatProgram_impl (d lo lo' : Nat) (Aq : Option Addr) (cq : Nat) (qs : List ByteArray) (l : List (Tr d)) (Ab : Option Addr) (nb cb : Nat) (w : World) (hra : RdL w lo 1 Aq qs.length (strs qs)) (hrb : RdT w lo' d Ab nb l) (hG : GN w) (hm : qs.length ≤ 1048576) (hz : szS qs ≤ 1048576) (hsz : szT d l ≤ 1048576) :
    Calls Tryz.prog 9 #[.agg #[.slice Aq qs.length cq, .slice Ab nb cb]] w fun e w' => e = .returned (.string (ftx (pTks d qs l))) ∧ Below w.heap.size w w' ∧ w.heap.size ≤ w'.heap.size := by
  have b0 : Below w.heap.size w (w.alloc (.cells #[.slice Aq qs.length cq, .slice Ab nb cb] 27)) := (by repeat (first | exact Below.refl _ _ | assumption | (refine Below.trans ?_ (Below.mono (by assumption) (by first | omega | (simp; done) | (simp; omega)))) | (with_reducible refine Below.drew ?_) | (with_reducible refine Below.alloc ?_ (by first | omega | (simp; done) | (simp; omega)) _) | (with_reducible refine Below.setCell ?_ (by first | omega | (simp; done) | (simp; omega)) _)))
  have HP := Lib.hid (ProgramTokens_impl d lo lo' Aq cq qs l Ab nb cb _ (hra.below b0) (hrb.below b0) (hG.below b0) hm hz hsz)
  have hl := pTks_len d qs l
  have hs := pTks_small (d := d) (qs := qs) (l := l) hz hsz
  obtain ⟨T, hT⟩ : ∃ T, T = pTks d qs l := ⟨_, rfl⟩
  rw [← hT] at HP hl hs ⊢
  have HS := Lib.hid hs
  clear hT hra hrb hG hs b0
  go_enter Tryz.func9, Tryz.ntmps9
  go_wp2_with fail
  refine HP.out.mono ?_
  rintro e w1 ⟨v1, rfl, o1, b1, s1⟩
  obtain ⟨A1, c1, rfl, _, _, r1⟩ := rd_of_own o1
  have hb1 : Below w.heap.size w w1 := ((Below.refl _ _).alloc (Nat.le_refl _) _).trans (b1.mono (by simp))
  have hs1 := hb1.size
  have R1 := Lib.hid r1
  clear o1 b1 s1 r1
  go_wp2_with fail
  refine (FormatTokens_impl _ _ _ T _ R1.out rfl (by omega) HS.out).mono ?_
  rintro e w2 ⟨rfl, b2, s2⟩
  go_wp2_with fail
  go_ret
  exact ⟨rfl, hb1.trans (b2.mono hs1), by omega⟩
set_option maxRecDepth 100000 in
set_option maxHeartbeats 1000000 in
theorem FormatProgram_spec (d lo lo' : Nat) (Aq : Option Addr) (cq : Nat) (qs : List ByteArray) (l : List (Tr d)) (Ab : Option Addr) (nb cb : Nat) (w : World) (hra : RdL w lo 1 Aq qs.length (strs qs)) (hrb : RdT w lo' d Ab nb l) (hm : qs.length ≤ 1048576) (hz : szS qs ≤ 1048576) (hsz : szT d l ≤ 1048576) :
    Calls Tryz.prog 10 #[.agg #[.slice Aq qs.length cq, .slice Ab nb cb]] w fun e w' => e = .returned (.string (ftx (pTks d qs l))) ∧ Below w.heap.size w w' ∧ w.heap.size ≤ w'.heap.size := by
  have b0 : Below w.heap.size w (w.alloc (.cells #[.slice Aq qs.length cq, .slice Ab nb cb] 27)) := (by repeat (first | exact Below.refl _ _ | assumption | (refine Below.trans ?_ (Below.mono (by assumption) (by first | omega | (simp; done) | (simp; omega)))) | (with_reducible refine Below.drew ?_) | (with_reducible refine Below.alloc ?_ (by first | omega | (simp; done) | (simp; omega)) _) | (with_reducible refine Below.setCell ?_ (by first | omega | (simp; done) | (simp; omega)) _)))
  have HP := Lib.hid (ProgramTokens_spec d lo lo' Aq cq qs l Ab nb cb _ (hra.below b0) (hrb.below b0) hm hz hsz)
  have hl := pTks_len d qs l
  have hs := pTks_small (d := d) (qs := qs) (l := l) hz hsz
  obtain ⟨T, hT⟩ : ∃ T, T = pTks d qs l := ⟨_, rfl⟩
  rw [← hT] at HP hl hs ⊢
  have HS := Lib.hid hs
  clear hT hra hrb hs b0
  go_enter Tryz.func10, Tryz.ntmps10
  go_wp2_with fail
  refine HP.out.mono ?_
  rintro e w1 ⟨v1, rfl, o1, b1, s1⟩
  obtain ⟨A1, c1, rfl, _, _, r1⟩ := rd_of_own o1
  have hb1 : Below w.heap.size w w1 := ((Below.refl _ _).alloc (Nat.le_refl _) _).trans (b1.mono (by simp))
  have hs1 := hb1.size
  have R1 := Lib.hid r1
  clear o1 b1 s1 r1
  go_wp2_with fail
  refine (FormatTokens_spec _ _ _ T _ R1.out rfl (by omega) HS.out).mono ?_
  rintro e w2 ⟨rfl, b2, s2⟩
  go_wp2_with fail
  go_ret
  exact ⟨rfl, hb1.trans (b2.mono hs1), by omega⟩
end Go.Proofs.YthkbckkghnbonaaGreatDoor
namespace Go.Proofs.YthkbckkghnbonaaGreatDoor
open Go.RowKit
set_option linter.unusedVariables false
theorem own_shape {w : World} {base E size n c : Nat} {A : Option Addr} {xs : List Value} (h : w.ownsRow base E size (.slice A n c) n xs) : n ≤ c ∧ c ≤ maxLen ∧ ((A = none ∧ n = 0 ∧ c = 0) ∨ ∃ g, A = some ⟨g, 0, none⟩ ∧ base ≤ g ∧ g < w.heap.size) := by
  have hlt := fun k hk => h.lt k hk
  rcases h.2 with ⟨e, e2⟩ | ⟨g, cap, cur, e, hg, hh, hc, hm, _⟩
  · injection e with e1 e3 e4
    exact ⟨by omega, by rw [e4]; exact Nat.zero_le _, .inl ⟨e1, e2, e4⟩⟩
  · rw [e] at hlt
    injection e with e1 e3 e4
    exact ⟨by omega, by rw [e4]; exact hm, .inr ⟨g, e1, hlt g rfl⟩⟩
def RetTkzO (r : Option (List Tk)) (w : World) (e : Ending) (w' : World) : Prop :=
  ∃ (A : Option Addr) (c : Nat) (T : List Tk), T = r.getD [] ∧ e = .returned (.tuple #[.slice A T.length c, .bool r.isSome]) ∧ Rd w' 2 A T.length (tkcs T) ∧ Below w.heap.size w w' ∧ w.heap.size ≤ w'.heap.size ∧
    T.length ≤ c ∧ c ≤ maxLen ∧ ((A = none ∧ T.length = 0 ∧ c = 0) ∨ ∃ g, A = some ⟨g, 0, none⟩ ∧ w.heap.size ≤ g ∧ g < w'.heap.size)
set_option maxRecDepth 100000 in
set_option maxHeartbeats 8000000 in
theorem Tokenize_specO (s : ByteArray) (w : World) (hs : s.size ≤ 1099511627776) : Calls Tryz.prog 32 #[.string s] w (RetTkzO (tkS s) w) := by
  obtain ⟨i0, hi, hz0, hz1, hz2⟩ := info_parts info_TkE
  have hE := own_empty w 110 2
  have b0 : Below w.heap.size w (w.alloc (.cells #[] 110)) := (by repeat (first | exact Below.refl _ _ | assumption | (refine Below.trans ?_ (Below.mono (by assumption) (by first | omega | (simp; done) | (simp; omega)))) | (with_reducible refine Below.drew ?_) | (with_reducible refine Below.alloc ?_ (by first | omega | (simp; done) | (simp; omega)) _) | (with_reducible refine Below.setCell ?_ (by first | omega | (simp; done) | (simp; omega)) _)))
  have HE := Lib.hid hE
  have B0 := Lib.hid b0
  clear hE b0
  go_enter Tryz.func32, Tryz.ntmps32
  go_wp2_with fail
  go_loopw [4, 5] (fun v i wr => ∃ (k : Nat) (T : List Tk), k ≤ s.size ∧ i = .int .i64 k ∧ T.length ≤ 160 ∧ Hid (wr.ownsRow w.heap.size 110 2 v T.length (tkcs T)) ∧ Hid (tkS s = (tkz (s.data.toList.drop k) T.length).map (T ++ ·)) ∧ Hid (Below w.heap.size w wr)) (fun _ i _ => s.size - (intOf i).toNat)
  case atStart => exact ⟨0, [], Nat.zero_le _, rfl, Nat.zero_le _, HE.out, Lib.hid (by rw [List.drop_zero]; unfold tkS; cases tkz s.data.toList 0 <;> rfl), B0.out⟩
  case round =>
    obtain ⟨k, T, hk, rfl, hT, hown, hd, hb⟩ := hrel
    have hbs := hb.out.size
    obtain ⟨A0, c0, rfl, _, _, r0⟩ := rd_of_own hown.out
    have HR := Lib.hid r0
    clear r0
    by_cases hlt : k < s.size
    · have HD := Lib.hid (bytes_drop hlt)
      by_cases h32 : s[k] = 32
      · have e32 : ((s[k].toNat : Int) == 32) = true := u8_eq (n := 32) (by decide) h32
        have HN := Lib.hid (show tkS s = (tkz (s.data.toList.drop (k + 1)) T.length).map (T ++ ·) by rw [hd.out, HD.out, tkz_blk (by rw [h32]; rfl)])
        clear h32
        go_wp2_with fail
        go_roundw
        case rel => exact ⟨k + 1, T, by omega, by go_num, hT, hown, HN.out, hb⟩
        case measure => simp [intOf]; omega
      have e32 : ((s[k].toNat : Int) == 32) = false := u8_ne (n := 32) (by decide) h32
      by_cases h10 : s[k] = 10
      · have e10 : ((s[k].toNat : Int) == 10) = true := u8_eq (n := 10) (by decide) h10
        have HN := Lib.hid (show tkS s = (tkz (s.data.toList.drop (k + 1)) T.length).map (T ++ ·) by rw [hd.out, HD.out, tkz_blk (by rw [h10]; rfl)])
        clear h10
        go_wp2_with fail
        go_roundw
        case rel => exact ⟨k + 1, T, by omega, by go_num, hT, hown, HN.out, hb⟩
        case measure => simp [intOf]; omega
      have e10 : ((s[k].toNat : Int) == 10) = false := u8_ne (n := 10) (by decide) h10
      have HBK := Lib.hid (blk_eq h32 h10)
      clear h32 h10
      have HF := Lib.hid (show 160 ≤ T.length → tkz (s.data.toList.drop k) T.length = none from fun hn => by rw [HD.out, tkz_full HBK.out hn])
      by_cases hm : mrk s[k] = 0
      · have HMK := Lib.hid hm
        go_wp2_with (go_at_call 88; refine (l16Mark_any _ _).mono ?_; rintro e w' ⟨rfl, rfl⟩; rw [HMK.out])
        go_loop [7] (fun i => ∃ j : Nat, k ≤ j ∧ j ≤ s.size ∧ i = .int .i64 j ∧ Hid (∀ q (hq : q < s.size), k ≤ q → q < j → letU s[q] = true)) (fun i => s.size - (intOf i).toNat)
        case atStart => exact ⟨k, Nat.le_refl _, hk, rfl, fun q _ h1 h2 => absurd h1 (by omega)⟩
        case round =>
          obtain ⟨j, hkj, hj, rfl, hle⟩ := hrel
          by_cases hjl : j < s.size
          · cases hlj : ltrB (s[j].toNat : Int)
            · have HE2 := Lib.hid (tkz_end hkj hj hlt hle.out (fun _ => hlj) HBK.out HMK.out T.length)
              have hxs : (s.extract k j).size ≤ 9223372036854775807 := by simp; omega
              cases hw : wordOk (s.extract k j)
              · have HN := Lib.hid (tks_none hd.out (HE2.out.1 hw))
                have HFW := Lib.hid (fmtT_bad hw)
                go_wp2_with (go_at_call 89; refine (l16Letter_any _ _).mono ?_; rintro e w' ⟨rfl, rfl⟩)
                refine (FormatToken_spec _ _ _ hxs).mono ?_
                rintro e w1 ⟨rfl, b1, s1⟩
                rw [HFW.out]
                have b2 : Below wr.heap.size wr w1 := ((Below.refl _ _).alloc (Nat.le_refl _) _).trans (b1.mono (by simp))
                have hb1 := hb.out.trans (b2.mono hbs)
                have hb1s := hb1.size
                have HB1 := Lib.hid hb1
                clear b1 s1 b2 hb1
                go_wp2_with fail
                go_ret2
                exact ⟨_, _, [], by rw [HN.out]; rfl, by rw [HN.out]; exact rfl, ⟨rfl, fun h => absurd h (by decide)⟩, HB1.out.alloc hb1s _, by simp; omega, Nat.le_refl _, Nat.zero_le _, .inr ⟨_, rfl, hb1s, by simp⟩⟩
              · have HZ := Lib.hid (HE2.out.2 hw)
                have HFW := Lib.hid (fmtT_w hw)
                have hwz := wordOk_size hw
                have hkj1 : k < j := by have e : (s.extract k j).size ≤ j - k := by simp; omega
                                        omega
                obtain ⟨f, hf0⟩ : ∃ f, f = s.extract k j := ⟨_, rfl⟩
                have hfe : f.toList.isEmpty = false := by rw [hf0]; exact isEmpty_size hwz.1
                have HFF := Lib.hid hf0
                clear hwz hf0 hw HE2
                go_wp2_with (go_at_call 89; refine (l16Letter_any _ _).mono ?_; rintro e w' ⟨rfl, rfl⟩)
                refine (FormatToken_spec _ _ _ hxs).mono ?_
                rintro e w1 ⟨rfl, b1, s1⟩
                rw [HFW.out, ← HFF.out]
                obtain ⟨p0, p1⟩ := cells2 (lay := b1) (boxed1_0 _ _)
                have b2 : Below wr.heap.size wr w1 := ((Below.refl _ _).alloc (Nat.le_refl _) _).trans (b1.mono (by simp))
                have zl : wr.heap.size < w1.heap.size := by simp at s1; omega
                clear b1 s1
                have hown1 := ownsRow_below hown.out b2
                have hb1 := hb.out.trans (b2.mono hbs)
                have hb1s := hb1.size
                have HB1 := Lib.hid hb1
                clear hb1
                by_cases hf : T.length = 160
                · have e160 : ((T.length : Int) == 160) = true := by simp [hf]
                  have HN := Lib.hid (tks_none hd.out (HF.out (by omega)))
                  clear hf
                  go_wp2_with fail
                  go_ret2
                  exact ⟨_, _, [], by rw [HN.out]; rfl, by rw [HN.out]; exact rfl, ⟨rfl, fun h => absurd h (by decide)⟩, HB1.out.alloc hb1s _, by simp; omega, Nat.le_refl _, Nat.zero_le _, .inr ⟨_, rfl, hb1s, by simp⟩⟩
                · have e160 : ((T.length : Int) == 160) = false := by simp; omega
                  have HN := Lib.hid (tks_step hd.out (HZ.out (by omega)))
                  go_wp2_with (at_builtin; refine wpList_append_rd _ rfl _ _ 53 rfl w.heap.size 110 i0 _ 2 24 Tryz.underlying53 hi hz0 hz1 hz2 rfl (by decide) _ _ _ rfl (hown1.alloc _) _ 1 1 _ rfl (rd_lit2 ?c0 rfl) ?c2 ?c3 ?c4 ?c5 ?_)
                  case c0 => first | rfl | simp
                  case c2 => repeat' (first | rfl | apply And.intro)
                  case c3 => simp only [maxLen]; omega
                  case c4 => omega
                  case c5 => first | omega | (simp; omega)
                  intro v6 w6 own6 gr6 _
                  have hb6 := (HB1.out.alloc hb1s _).grown gr6 (by simp; omega) (own_ge hown1)
                  have HB6 := Lib.hid hb6
                  have HO6 := Lib.hid own6
                  clear gr6 hb6 own6
                  go_wp2_with fail
                  go_roundw
                  case rel => exact ⟨j, T ++ [wTk (s.extract k j)], by omega, by go_num, by rw [List.length_append]; show T.length + 1 ≤ 160; omega, by rw [List.length_append, tkcs_append]; exact HO6.out, HN.out, HB6.out⟩
                  case measure => simp [intOf]; omega
            · have HS := Lib.hid (show ∀ q (hq : q < s.size), k ≤ q → q < j + 1 → letU s[q] = true from fun q hq h1 h2 => by
                rcases Nat.lt_or_ge q j with h3 | h3
                · exact hle.out q hq h1 h3
                · obtain rfl : q = j := by omega
                  exact hlj)
              go_wp2_with (go_at_call 89; refine (l16Letter_any _ _).mono ?_; rintro e w' ⟨rfl, rfl⟩)
              go_round
              case rel => exact ⟨j + 1, by omega, by omega, by go_num, HS.out⟩
              case measure => simp [intOf]; omega
          · have HE2 := Lib.hid (tkz_end hkj hj hlt hle.out (fun h => absurd h hjl) HBK.out HMK.out T.length)
            have hxs : (s.extract k j).size ≤ 9223372036854775807 := by simp; omega
            cases hw : wordOk (s.extract k j)
            · have HN := Lib.hid (tks_none hd.out (HE2.out.1 hw))
              have HFW := Lib.hid (fmtT_bad hw)
              go_wp2_with fail
              refine (FormatToken_spec _ _ _ hxs).mono ?_
              rintro e w1 ⟨rfl, b1, s1⟩
              rw [HFW.out]
              have b2 : Below wr.heap.size wr w1 := ((Below.refl _ _).alloc (Nat.le_refl _) _).trans (b1.mono (by simp))
              have hb1 := hb.out.trans (b2.mono hbs)
              have hb1s := hb1.size
              have HB1 := Lib.hid hb1
              clear b1 s1 b2 hb1
              go_wp2_with fail
              go_ret2
              exact ⟨_, _, [], by rw [HN.out]; rfl, by rw [HN.out]; exact rfl, ⟨rfl, fun h => absurd h (by decide)⟩, HB1.out.alloc hb1s _, by simp; omega, Nat.le_refl _, Nat.zero_le _, .inr ⟨_, rfl, hb1s, by simp⟩⟩
            · have HZ := Lib.hid (HE2.out.2 hw)
              have HFW := Lib.hid (fmtT_w hw)
              have hwz := wordOk_size hw
              have hkj1 : k < j := by have e : (s.extract k j).size ≤ j - k := by simp; omega
                                      omega
              obtain ⟨f, hf0⟩ : ∃ f, f = s.extract k j := ⟨_, rfl⟩
              have hfe : f.toList.isEmpty = false := by rw [hf0]; exact isEmpty_size hwz.1
              have HFF := Lib.hid hf0
              clear hwz hf0 hw HE2
              go_wp2_with fail
              refine (FormatToken_spec _ _ _ hxs).mono ?_
              rintro e w1 ⟨rfl, b1, s1⟩
              rw [HFW.out, ← HFF.out]
              obtain ⟨p0, p1⟩ := cells2 (lay := b1) (boxed1_0 _ _)
              have b2 : Below wr.heap.size wr w1 := ((Below.refl _ _).alloc (Nat.le_refl _) _).trans (b1.mono (by simp))
              have zl : wr.heap.size < w1.heap.size := by simp at s1; omega
              clear b1 s1
              have hown1 := ownsRow_below hown.out b2
              have hb1 := hb.out.trans (b2.mono hbs)
              have hb1s := hb1.size
              have HB1 := Lib.hid hb1
              clear hb1
              by_cases hf : T.length = 160
              · have e160 : ((T.length : Int) == 160) = true := by simp [hf]
                have HN := Lib.hid (tks_none hd.out (HF.out (by omega)))
                clear hf
                go_wp2_with fail
                go_ret2
                exact ⟨_, _, [], by rw [HN.out]; rfl, by rw [HN.out]; exact rfl, ⟨rfl, fun h => absurd h (by decide)⟩, HB1.out.alloc hb1s _, by simp; omega, Nat.le_refl _, Nat.zero_le _, .inr ⟨_, rfl, hb1s, by simp⟩⟩
              · have e160 : ((T.length : Int) == 160) = false := by simp; omega
                have HN := Lib.hid (tks_step hd.out (HZ.out (by omega)))
                go_wp2_with (at_builtin; refine wpList_append_rd _ rfl _ _ 53 rfl w.heap.size 110 i0 _ 2 24 Tryz.underlying53 hi hz0 hz1 hz2 rfl (by decide) _ _ _ rfl (hown1.alloc _) _ 1 1 _ rfl (rd_lit2 ?c0 rfl) ?c2 ?c3 ?c4 ?c5 ?_)
                case c0 => first | rfl | simp
                case c2 => repeat' (first | rfl | apply And.intro)
                case c3 => simp only [maxLen]; omega
                case c4 => omega
                case c5 => first | omega | (simp; omega)
                intro v6 w6 own6 gr6 _
                have hb6 := (HB1.out.alloc hb1s _).grown gr6 (by simp; omega) (own_ge hown1)
                have HB6 := Lib.hid hb6
                have HO6 := Lib.hid own6
                clear gr6 hb6 own6
                go_wp2_with fail
                go_roundw
                case rel => exact ⟨j, T ++ [wTk (s.extract k j)], by omega, by go_num, by rw [List.length_append]; show T.length + 1 ≤ 160; omega, by rw [List.length_append, tkcs_append]; exact HO6.out, HN.out, HB6.out⟩
                case measure => simp [intOf]; omega
      · obtain ⟨m, hm0⟩ : ∃ m, m = mrk s[k] := ⟨_, rfl⟩
        have HM := Lib.hid hm0
        have hm3 := mrk_cases s[k]
        rw [← hm0] at hm hm3
        have hm2 : m = 2 ∨ m = 3 ∨ m = 4 := by omega
        have HZ := Lib.hid (show T.length < 160 → tkz (s.data.toList.drop k) T.length = (tkz (s.data.toList.drop (k + 1)) (T.length + 1)).map (pTk m :: ·) from fun hn => by rw [HD.out, hm0, tkz_mrk HBK.out hn (by rw [← hm0]; exact hm)])
        have em : ((m : Int) == 0) = false := by simp; omega
        obtain ⟨f, hf0⟩ : ∃ f, f = fmtT m ⟨#[]⟩ := ⟨_, rfl⟩
        have hfe : f.toList.isEmpty = false := by rw [hf0]; exact isEmpty_size (fmtT_mark hm2)
        have HFF := Lib.hid hf0
        clear hm hm3 hm2 hm0 hf0
        go_wp2_with (first | (go_at_call 88; refine (l16Mark_any _ _).mono ?_; rintro e w' ⟨rfl, rfl⟩; rw [← HM.out]))
        refine (FormatToken_spec _ _ _ (by decide)).mono ?_
        rintro e w1 ⟨rfl, b1, s1⟩
        rw [← HFF.out]
        obtain ⟨p0, p1⟩ := cells2 (lay := b1) (boxed1_0 _ _)
        have b2 : Below wr.heap.size wr w1 := ((Below.refl _ _).alloc (Nat.le_refl _) _).trans (b1.mono (by simp))
        have zl : wr.heap.size < w1.heap.size := by simp at s1; omega
        clear b1 s1
        have hown1 := ownsRow_below hown.out b2
        have hb1 := hb.out.trans (b2.mono hbs)
        have hb1s := hb1.size
        have HB1 := Lib.hid hb1
        clear hb1
        by_cases hf : T.length = 160
        · have e160 : ((T.length : Int) == 160) = true := by simp [hf]
          have HN := Lib.hid (tks_none hd.out (HF.out (by omega)))
          clear hf
          go_wp2_with fail
          go_ret2
          exact ⟨_, _, [], by rw [HN.out]; rfl, by rw [HN.out]; exact rfl, ⟨rfl, fun h => absurd h (by decide)⟩, HB1.out.alloc hb1s _, by simp; omega, Nat.le_refl _, Nat.zero_le _, .inr ⟨_, rfl, hb1s, by simp⟩⟩
        · have e160 : ((T.length : Int) == 160) = false := by simp; omega
          have HN := Lib.hid (tks_step hd.out (HZ.out (by omega)))
          go_wp2_with (at_builtin; refine wpList_append_rd _ rfl _ _ 53 rfl w.heap.size 110 i0 _ 2 24 Tryz.underlying53 hi hz0 hz1 hz2 rfl (by decide) _ _ _ rfl (hown1.alloc _) _ 1 1 _ rfl (rd_lit2 ?c0 rfl) ?c2 ?c3 ?c4 ?c5 ?_)
          case c0 => first | rfl | simp
          case c2 => repeat' (first | rfl | apply And.intro)
          case c3 => simp only [maxLen]; omega
          case c4 => omega
          case c5 => first | omega | (simp; omega)
          intro v6 w6 own6 gr6 _
          have hb6 := (HB1.out.alloc hb1s _).grown gr6 (by simp; omega) (own_ge hown1)
          have HB6 := Lib.hid hb6
          have HO6 := Lib.hid own6
          clear gr6 hb6 own6
          go_wp2_with fail
          go_roundw
          case rel => exact ⟨k + 1, T ++ [pTk m], by omega, by go_num, by rw [List.length_append]; show T.length + 1 ≤ 160; omega, by rw [List.length_append, tkcs_append]; exact HO6.out, HN.out, HB6.out⟩
          case measure => simp [intOf]; omega
    · obtain rfl : k = s.size := by omega
      have HF := Lib.hid (show tkS s = some T by
        rw [hd.out, List.drop_of_length_le (by rw [bytes_len]; exact Nat.le_refl _), tkz_nil]
        simp)
      go_wp2_with fail
      go_ret2
      exact ⟨A0, c0, T, by rw [HF.out]; rfl, by rw [HF.out]; exact rfl, HR.out, hb.out, hbs, own_shape hown.out⟩
end Go.Proofs.YthkbckkghnbonaaGreatDoor
namespace Go.Proofs.YthkbckkghnbonaaGreatDoor
open Go.RowKit
set_option linter.unusedVariables false
set_option maxRecDepth 100000 in
set_option maxHeartbeats 2000000 in
theorem l1Turned_b (M b k c : Nat) (s : ByteArray) (L : List ByteArray) (w : World) (p : Nat) (hcur : CurAt w p) (hs : s.size ≤ M) (hM : M ≤ 1099511627776) (hL : L.length = k) (hk : 0 < k) (hk2 : k ≤ 1000) (h9 : ∀ x ∈ L, x.size ≤ 40) (hr : Rd w 1 (some ⟨b, 0, none⟩) k (L.map Value.string)) (hne : b ≠ p) :
    Calls Tryz.prog 82 #[.pointer (some ⟨p, 0, none⟩), .string s, .slice (some ⟨b, 0, none⟩) k c] w (DTx (M + 40) w p) := by
  have HL := Lib.hid hL
  have HR := Lib.hid hr
  have H9 := Lib.hid h9
  have CU := Lib.hid hcur
  clear hL hr h9 hcur
  go_enter Tryz.func82, Tryz.ntmps82
  go_wp2_with fail
  refine (l1Below_any _ s.size w p CU.out (by omega) (by omega) (by omega)).mono ?_
  rintro e w1 ⟨x, hx0, hx1, rfl, hc1, hg1⟩
  obtain ⟨j, rfl⟩ : ∃ j : Nat, x = j := ⟨x.toNat, by omega⟩
  have R1 := Lib.hid (grown_rd HR.out hg1 (fun _ ad e => by cases e; exact hne))
  have FR1 := Lib.hid (Fr.mk hc1 hg1)
  clear hc1 hg1
  go_wp2_with fail
  refine (l1Below_any 6 5 w1 p FR1.out.cur (by omega) (by omega) (by omega)).mono ?_
  rintro e w2 ⟨y, hy0, hy1, rfl, hc2, hg2⟩
  have R2 := Lib.hid (grown_rd R1.out hg2 (fun _ ad e => by cases e; exact hne))
  have FR2 := Lib.hid (FR1.out.call hc2 hg2)
  clear hc2 hg2 R1 FR1
  by_cases h0 : y = 0
  · have e0 : (y == 0) = true := by simp [h0]
    clear h0
    have FD : Fr w p w2.drew := ⟨FR2.out.cur, FR2.out.gr.os, FR2.out.gr.tape, FR2.out.gr.output, FR2.out.gr.size, FR2.out.gr.block⟩
    have RD : Rd w2.drew 1 (some ⟨b, 0, none⟩) k (L.map Value.string) := R2.out
    have z1 : (s.extract 0 j).size ≤ j := by simp; omega
    have z2 : (s.extract j s.size).size ≤ s.size - j := by simp
    have FDD := Lib.hid FD
    clear FD
    go_wp2_with fail
    go_region_with (go_at_call 91; (with_reducible refine (l1Pick_any b k c L _ p FDD.out.cur HL.out hk hk2 RD hne).mono ?_); rintro e w3 ⟨z, hz, rfl, hc3, hg3⟩; have hz9 := H9.out z hz; have a1 : ∀ w : World, (Op.stringOp .add (s.extract 0 j) z).run Tryz.prog w = .ok (.string (s.extract 0 j ++ z)) w := fun w => run_string_add_sum w _ _ (by omega); have a2 : ∀ w : World, (Op.stringOp .add (s.extract 0 j ++ z) (s.extract j s.size)).run Tryz.prog w = .ok (.string (s.extract 0 j ++ z ++ s.extract j s.size)) w := fun w => run_string_add_sum w _ _ (by rw [ByteArray.size_append]; omega))
    go_wp2_with fail
    go_ret
    exact ⟨_, by rw [ByteArray.size_append, ByteArray.size_append]; omega, rfl, hc3, FDD.out.gr.trans hg3⟩
  · have e0 : (y == 0) = false := by simp [h0]
    by_cases h1 : y = 1
    · have e1 : (y == 1) = true := by simp [h1]
      clear h0 h1
      go_wp2_with fail
      go_ret
      exact ⟨_, by simp; omega, rfl, FR2.out.cur, FR2.out.gr⟩
    · have e1 : (y == 1) = false := by simp [h1]
      clear h0 h1
      go_wp2_with fail
      go_ret
      exact ⟨s, by omega, rfl, FR2.out.cur, FR2.out.gr⟩
end Go.Proofs.YthkbckkghnbonaaGreatDoor
namespace Go.Proofs.YthkbckkghnbonaaGreatDoor
open Go.RowKit
set_option linter.unusedVariables false
theorem rd_tkTake {w : World} {n t : Nat} {A : Option Addr} {T : List Tk} (h : Rd w 2 A n (tkcs T)) (hl : T.length = n) (ht : t ≤ n) : Rd w 2 A t (tkcs (T.take t)) := by
  refine ⟨by rw [tkcs_len, List.length_take]; omega, fun h0 => ?_⟩
  obtain ⟨b, off, e, hb, hc⟩ := h.2 (by omega)
  refine ⟨b, off, e, hb, fun j u hu => hc j u ?_⟩
  have e1 : tkcs T = tkcs (T.take t) ++ tkcs (T.drop t) := by rw [← tkcs_append, List.take_append_drop]
  rw [e1, List.getElem?_append_left (List.getElem?_eq_some_iff.1 hu).1]
  exact hu
theorem rd_tkDrop {w : World} {n t b : Nat} {T : List Tk} (h : Rd w 2 (some ⟨b, 0, none⟩) n (tkcs T)) (hl : T.length = n) (ht : t ≤ n) : Rd w 2 (some ⟨b, t * 2, none⟩) (n - t) (tkcs (T.drop t)) := by
  refine ⟨by rw [tkcs_len, List.length_drop]; omega, fun h0 => ?_⟩
  obtain ⟨b', off, e, hb, hc⟩ := h.2 (by omega)
  injection e with e
  injection e with e1 e2
  subst e1 e2
  refine ⟨b, t * 2, rfl, hb, fun j u hu => ?_⟩
  have h1 := hc (t * 2 + j) u (by
    have e1 : tkcs T = tkcs (T.take t) ++ tkcs (T.drop t) := by rw [← tkcs_append, List.take_append_drop]
    have e2 : (tkcs (T.take t)).length = t * 2 := by rw [tkcs_len, List.length_take, Nat.min_eq_left (by omega)]
    rw [e1, List.getElem?_append_right (by omega), e2, Nat.add_sub_cancel_left]
    exact hu)
  rwa [Nat.zero_add] at h1
def words12 : List ByteArray := [⟨#[59]⟩, ⟨#[123]⟩, ⟨#[125]⟩, ⟨#[32]⟩, ⟨#[32, 97, 32]⟩, ⟨#[114, 101, 112, 101, 97, 116]⟩, ⟨#[105, 102, 32, 114]⟩, ⟨#[104]⟩, ⟨#[97, 100, 106, 111, 105, 110, 116, 32, 123, 32, 97, 100, 106, 111, 105, 110, 116, 32, 123, 32, 97, 100, 106, 111, 105, 110, 116, 32, 123, 32, 97, 100, 106, 111, 105, 110, 116, 32, 123]⟩, ⟨#[57]⟩, ⟨#[65]⟩, ⟨#[32, 113, 117, 98, 105, 116, 115, 32]⟩]
theorem words12_le : ∀ x ∈ words12, x.size ≤ 40 := by
  intro s hs
  simp only [words12, List.mem_cons, List.not_mem_nil, or_false] at hs
  rcases hs with rfl | rfl | rfl | rfl | rfl | rfl | rfl | rfl | rfl | rfl | rfl | rfl <;> decide
theorem tks_small {s : ByteArray} {T : List Tk} (h : T = (tkS s).getD []) : T.length ≤ 160 ∧ ∀ t ∈ T, t.s.size ≤ 1099511627776 := by
  subst h
  cases h : tkS s with
  | none => exact ⟨Nat.zero_le _, fun t ht => by cases ht⟩
  | some T =>
    obtain ⟨h1, h2⟩ := tkz_well _ _ _ _ (Nat.le_refl _) h (by omega)
    refine ⟨by show T.length ≤ 160; omega, fun t ht => ?_⟩
    rcases h1 t ht with ⟨_, h3⟩ | ⟨_, h3⟩
    · have := (wordOk_size h3).2; omega
    · rw [h3]; decide
def DrewT2 (M : Nat) (w : World) (e : Ending) (w' : World) : Prop := ∃ x : ByteArray, x.size ≤ M ∧ e = .returned (.string x) ∧ Below w.heap.size w w'
theorem rd_grownT {w w' : World} {r : Option Nat} {size n : Nat} {A : Option Addr} {xs : List Value} (h : Rd w size A n xs) (hg : w.grownBy w' r) (hne : 0 < n → ∀ ad, A = some ad → ∀ k, r = some k → ad.block ≠ k) : Rd w' size A n xs :=
  ⟨h.1, fun h0 => by
    obtain ⟨b, off, e, hl, hc⟩ := h.2 h0
    refine ⟨b, off, e, Nat.lt_of_lt_of_le hl hg.size, fun j u hu => ?_⟩
    have hb := hg.block b hl (fun e2 => hne h0 _ e b e2.symm rfl)
    rw [← hc j u hu]
    simp [World.cell?, hb]⟩
theorem below_allocT {w : World} {o : Obj} : Below w.heap.size w (w.alloc o) := (Below.refl _ _).alloc (Nat.le_refl _) _
theorem tkcs_oneT (l : List Tk) : ∀ u ∈ tkcs l, u.oneCell' = true := by
  intro u hu
  obtain ⟨t, _, ht⟩ := List.mem_flatMap.1 hu
  simp only [tkc, List.mem_cons, List.not_mem_nil, or_false] at ht
  rcases ht with rfl | rfl <;> rfl
theorem lt_of_rdE {w : World} {size n : Nat} {A : Option Addr} {xs : List Value} (h : Rd w size A n xs) : 0 < n → ∀ b off, A = some ⟨b, off, none⟩ → b < w.heap.size := by
  intro h0 b off e
  obtain ⟨b', off', e', hb, _⟩ := h.2 h0
  rw [e] at e'
  injection e' with e'
  injection e' with e1 e2
  rw [e1]
  exact hb
set_option maxRecDepth 100000 in
set_option maxHeartbeats 4000000 in
theorem DrawParseProgram_any (A : Option Addr) (n c : Nat) (bs : List (Fin 256)) (w : World) (h : Rd w 1 A n (bs.flatMap bcell)) (hl : bs.length = n) (hn : n ≤ 1048576) : Calls Tryz.prog 30 #[.slice A n c] w (DrewT2 1000000 w) := by
  obtain ⟨i0, hi, hz0, hz1, hz2⟩ := info_parts info_TkE
  have H := Lib.hid h
  have HL := Lib.hid hl
  clear h hl
  go_enter Tryz.func30, Tryz.ntmps30
  go_wp2_with fail
  refine (l1New_any _ _ _ bs w H.out HL.out hn).mono ?_
  rintro e w1 ⟨p, rfl, hp1, hc1, hb1⟩
  have lp := hc1.lt
  have HB1 := Lib.hid hb1
  clear hb1
  go_wp2_with fail
  refine (l17Right_all w1 p hc1).mono ?_
  rintro e w2 ⟨Aq, nq, cq, B, Q, vb, l, rfl, hqo, rfl, _, _, hbo, ⟨q1, q2, q3⟩, ⟨hl6, hlz⟩, hc2, hg2⟩
  obtain ⟨Ab, cb, rfl, _, _⟩ := hbo.slice
  have RA := Lib.hid ((rdQ_of_own hqo).rd.rdl)
  have RB := Lib.hid (TrQ.rdt (lo := 0) (fun b _ => Nat.zero_le b) (hbo.tr rfl))
  have hzl := szT_few hl6 hlz
  have FR2 := Lib.hid ((Fr.start hc1).call hc2 hg2)
  have hzq : szS Q ≤ 1048576 := by have := szS9p Q q3; omega
  clear hqo hbo hc2 hg2 hlz q3
  go_wp2_with fail
  refine (FormatProgram_spec 3 0 0 Aq cq Q l Ab _ cb w2 RA.out RB.out (by omega) hzq (by omega)).mono ?_
  rintro e w3 ⟨rfl, b3, s3⟩
  have FR3 := Lib.hid (FR2.out.below b3)
  have hxs : (ftx (pTks 3 Q l)).size ≤ 600000 := by
    have h1 := ftx_size (pTks 3 Q l)
    have h2 := pTks_len 3 Q l
    omega
  obtain ⟨x, hx⟩ : ∃ x, x = ftx (pTks 3 Q l) := ⟨_, rfl⟩
  rw [← hx] at hxs ⊢
  clear hx b3 s3 RA RB
  go_wp2_with fail
  refine (l1Below_any 4 3 w3 p FR3.out.cur (by omega) (by omega) (by omega)).mono ?_
  rintro e w4 ⟨k, hk0, hk1, rfl, hc4, hg4⟩
  have FR4 := Lib.hid (FR3.out.call hc4 hg4)
  have lp4 := FR4.out.cur.lt
  have HB4 := Lib.hid (HB1.out.trans (below_of_only FR4.out.gr HB1.out.size hp1))
  clear hc4 hg4
  have hk : k = 0 ∨ k = 1 ∨ k = 2 ∨ k = 3 := by omega
  rcases hk with rfl | rfl | rfl | rfl
  · go_wp2_with fail
    obtain ⟨w5, hw5⟩ : ∃ w5, w5 = w4.alloc (.cells #[.string ⟨#[59]⟩, .string ⟨#[123]⟩, .string ⟨#[125]⟩, .string ⟨#[32]⟩, .string ⟨#[32, 97, 32]⟩, .string ⟨#[114, 101, 112, 101, 97, 116]⟩, .string ⟨#[105, 102, 32, 114]⟩, .string ⟨#[104]⟩, .string ⟨#[97, 100, 106, 111, 105, 110, 116, 32, 123, 32, 97, 100, 106, 111, 105, 110, 116, 32, 123, 32, 97, 100, 106, 111, 105, 110, 116, 32, 123, 32, 97, 100, 106, 111, 105, 110, 116, 32, 123]⟩, .string ⟨#[57]⟩, .string ⟨#[65]⟩, .string ⟨#[32, 113, 117, 98, 105, 116, 115, 32]⟩] 9) := ⟨_, rfl⟩
    rw [← hw5]
    have FR5 := Lib.hid (show Fr w1 p w5 by rw [hw5]; exact FR4.out.alloc _)
    have R5 := Lib.hid (show Rd w5 1 (some ⟨w4.heap.size, 0, none⟩) 12 (words12.map Value.string) by rw [hw5]; exact pickedS (w := w4) (L := words12) rfl)
    clear hw5
    refine (l1Turned_b 600000 _ 12 _ x words12 w5 p FR5.out.cur hxs (by omega) rfl (by omega) (by omega) words12_le R5.out (by omega)).mono ?_
    rintro e w6 ⟨y, hy, rfl, hc6, hg6⟩
    have hb6 := HB1.out.trans (below_of_only (FR5.out.gr.trans hg6) HB1.out.size hp1)
    go_wp2_with fail
    go_ret
    exact ⟨y, by omega, rfl, hb6⟩
  · go_wp2_with fail
    refine (Tokenize_specO x w4 (by omega)).mono ?_
    rintro e w5 ⟨A5, c5, T, hTe, rfl, r5, b5, s5, hc5, hm5, hA5⟩
    obtain ⟨hT, hTz⟩ := tks_small hTe
    have FR5 := Lib.hid (FR4.out.below b5)
    have HTZ := Lib.hid hTz
    have R5 := Lib.hid r5
    obtain ⟨n5, hn5⟩ : ∃ n, T.length = n := ⟨_, rfl⟩
    rw [hn5] at hT hc5 R5 hA5 ⊢
    have HN5 := Lib.hid hn5
    have hge : ∀ ad : Addr, A5 = some ad → ad.block ≠ p := by
      intro ad e
      rcases hA5 with ⟨h, _⟩ | ⟨g, h, h1, _⟩
      · rw [h] at e; cases e
      · rw [h] at e
        injection e with e
        rw [← e]
        show g ≠ p
        omega
    have HGE := Lib.hid hge
    clear hTe hTz r5 b5 hn5 hge
    go_wp2_with fail
    refine (l1Below_any _ n5 w5 p FR5.out.cur (by omega) (by omega) (by omega)).mono ?_
    rintro e w6 ⟨k, hk0, hk1, rfl, hc6, hg6⟩
    obtain ⟨j, rfl⟩ : ∃ j : Nat, k = j := ⟨k.toNat, by omega⟩
    have R6 := Lib.hid (grown_rd R5.out hg6 (fun _ ad e => HGE.out ad e))
    have FR6 := Lib.hid (FR5.out.call hc6 hg6)
    clear hc6 hg6
    go_wp2_with fail
    refine (l1Once_any 2 w6 p FR6.out.cur (by omega) (by omega)).mono ?_
    rintro e w7 ⟨ob, rfl, hc7, hg7⟩
    have R7 := Lib.hid (grown_rd R6.out hg7 (fun _ ad e => HGE.out ad e))
    have FR7 := Lib.hid (FR6.out.call hc7 hg7)
    have HB7 := Lib.hid (HB1.out.trans (below_of_only FR7.out.gr HB1.out.size hp1))
    have hj : j ≤ n5 := by omega
    have RT := Lib.hid (rd_tkTake R7.out HN5.out hj)
    have hTj : (T.take j).length = j := by rw [List.length_take, HN5.out]; omega
    have HTJ := Lib.hid hTj
    have hzj : (ftx (T.take j)).size ≤ 1000000 := by have := ftx_size (T.take j); omega
    have HTZJ := Lib.hid (fun t (ht : t ∈ T.take j) => HTZ.out t (List.mem_of_mem_take ht))
    clear hc7 hg7 hTj
    rcases hA5 with ⟨rfl, rfl, rfl⟩ | ⟨g, rfl, _, _⟩
    · obtain rfl : j = 0 := by omega
      cases ob
      · have own0 := own_lowT (own_empty w7 110 2) (show w1.heap.size ≤ w7.heap.size from FR7.out.gr.size)
        have rt7 := RT.out.below (below_allocT (w := w7) (o := .cells #[] 110))
        have hz71 : w1.heap.size ≤ w7.heap.size := FR7.out.gr.size
        go_wp2_with (at_builtin; refine wpList_append_rd _ rfl _ _ 53 rfl w1.heap.size 110 i0 _ 2 24 Tryz.underlying53 hi hz0 hz1 hz2 rfl (by decide) _ _ _ rfl own0 _ 0 _ _ rfl rt7 ?c2 ?c3 ?c4 ?c5 ?_)
        case c2 => exact tkcs_oneT _
        case c3 => simp only [maxLen]; omega
        case c4 => omega
        case c5 => simp; omega
        intro v8 w8 own8 gr8 hat8
        have FR8 := Lib.hid ((FR7.out.alloc (.cells #[] 110)).own lp gr8 (own_ge own0))
        have O8 := Lib.hid own8
        clear own0 rt7 gr8 hat8 own8
        go_wp2_with fail
        refine (l16Token_any w8 p FR8.out.cur).mono ?_
        rintro e w9 ⟨tk, ts, hts, rfl, hc9, hg9⟩
        have own9 := own_drawS O8.out hg9 lp
        have FR9 := Lib.hid (FR8.out.call hc9 hg9)
        have hz91 : w1.heap.size ≤ w9.heap.size := FR9.out.gr.size
        clear hc9 hg9
        go_wp2_with (at_builtin; refine wpList_append_rd _ rfl _ _ 53 rfl w1.heap.size 110 i0 _ 2 24 Tryz.underlying53 hi hz0 hz1 hz2 rfl (by decide) _ _ _ rfl (own9.alloc _) _ 1 1 _ rfl (rd_lit2 ?d0 rfl) ?d2 ?d3 ?d4 ?d5 ?_)
        case d0 => first | rfl | simp
        case d2 => repeat' (first | rfl | apply And.intro)
        case d3 => simp only [maxLen]; omega
        case d4 => omega
        case d5 => simp; omega
        intro v10 w10 own10 gr10 hat10
        have FR10 := Lib.hid ((FR9.out.alloc (.cells #[.int .i64 tk, .string ts] 110)).own lp gr10 (fun k hk => own_ge own9 k hk))
        have O10 := Lib.hid own10
        have hz101 : w1.heap.size ≤ w10.heap.size := FR10.out.gr.size
        have HB10 := Lib.hid (HB1.out.trans (below_of_only FR10.out.gr HB1.out.size hp1))
        clear own9 own10 gr10 hat10
        obtain ⟨M, hM⟩ : ∃ M, M = T.take 0 ++ [(⟨tk, ts⟩ : Tk)] ++ T.drop 0 := ⟨_, rfl⟩
        have HEM : Hid (tkcs M = tkcs (T.take 0) ++ (.int .i64 tk :: .string ts :: tkcs (T.drop 0))) := by show _ = _; rw [hM, tkcs_append, tkcs_append, tkcs_one, List.append_assoc]; rfl
        have HLL : Hid (M.length = 0 + 1) := by show _ = _; rw [hM]; simp only [List.length_append, List.length_take, List.length_drop, List.length_singleton, HN5.out]; omega
        have HSM : Hid (∀ t ∈ M, t.s.size ≤ 1099511627776) := by
          rw [hM]
          intro t ht
          simp only [List.mem_append, List.mem_singleton] at ht
          rcases ht with (ht | rfl) | ht
          · exact HTZ.out t (List.mem_of_mem_take ht)
          · show ts.size ≤ _; omega
          · exact HTZ.out t (List.mem_of_mem_drop ht)
        have HZZ : Hid ((ftx M).size ≤ 1000000) := by show _ ≤ _; have h1 := ftx_size M; have h2 := HLL.out; omega
        have HD0 : Hid (0 ≤ 0 → tkcs (T.drop 0) = []) := fun h => by rw [List.drop_of_length_le (by rw [HN5.out]; exact h)]; rfl
        obtain ⟨A10, c10, rfl, _, _, _⟩ := rd_of_own O10.out
        clear hM
        have hjn : 0 ≤ 0 := Nat.le_refl 0
        go_wp2_with (at_builtin; refine wpList_append_rd _ rfl _ _ 53 rfl w1.heap.size 110 i0 _ 2 24 Tryz.underlying53 hi hz0 hz1 hz2 rfl (by decide) _ _ _ rfl O10.out _ 0 _ [] rfl (show Rd w10 2 _ 0 [] from ⟨rfl, fun h => absurd h (by omega)⟩) ?f2 ?f3 ?f4 ?f5 ?_)
        case f2 => intro u hu; cases hu
        case f3 => simp only [maxLen]; omega
        case f4 => omega
        case f5 => omega
        intro v12 w12 own12 gr12 hat12
        have FR12 := Lib.hid (FR10.out.own lp gr12 (own_ge O10.out))
        have HB12 := Lib.hid (HB1.out.trans (below_of_only FR12.out.gr HB1.out.size hp1))
        have hne : 0 + 1 + 0 = 0 + 1 := by omega
        obtain ⟨A12, c12, rfl, _, _, r12⟩ := rd_of_own own12
        have R12 := Lib.hid (show Rd w12 2 A12 1 (tkcs M) by rw [HEM.out]; rw [HD0.out hjn]; simpa using r12)
        clear own12 gr12 hat12 r12 hne
        go_wp2_with fail
        refine (FormatTokens_spec _ _ _ M w12 R12.out HLL.out (by omega) HSM.out).mono ?_
        rintro e w13 ⟨rfl, b13, s13⟩
        go_wp2_with fail
        go_ret
        exact ⟨_, HZZ.out, rfl, HB12.out.trans (b13.mono HB12.out.size)⟩
      · go_wp2_with fail
        refine (FormatTokens_spec _ _ _ (T.take 0) w7 RT.out HTJ.out (by omega) HTZJ.out).mono ?_
        rintro e w8 ⟨rfl, b8, s8⟩
        go_wp2_with fail
        go_ret
        exact ⟨_, hzj, rfl, HB7.out.trans (b8.mono HB7.out.size)⟩
    · cases ob
      · have own0 := own_lowT (own_empty w7 110 2) (show w1.heap.size ≤ w7.heap.size from FR7.out.gr.size)
        have rt7 := RT.out.below (below_allocT (w := w7) (o := .cells #[] 110))
        have hz71 : w1.heap.size ≤ w7.heap.size := FR7.out.gr.size
        go_wp2_with (at_builtin; refine wpList_append_rd _ rfl _ _ 53 rfl w1.heap.size 110 i0 _ 2 24 Tryz.underlying53 hi hz0 hz1 hz2 rfl (by decide) _ _ _ rfl own0 _ j _ _ rfl rt7 ?c2 ?c3 ?c4 ?c5 ?_)
        case c2 => exact tkcs_oneT _
        case c3 => simp only [maxLen]; omega
        case c4 => omega
        case c5 => simp; omega
        intro v8 w8 own8 gr8 hat8
        have FR8 := Lib.hid ((FR7.out.alloc (.cells #[] 110)).own lp gr8 (own_ge own0))
        have hg7 := lt_of_rdE R7.out
        have R8 := Lib.hid (grown_rd (p := w7.heap.size) (R7.out.below (below_allocT (w := w7) (o := .cells #[] 110))) gr8 (fun h0 ad e => by injection e with e; rw [← e]; have := hg7 h0 g 0 rfl; show g ≠ w7.heap.size; omega))
        have O8 := Lib.hid own8
        have own8ne : ∀ k, v8.ownBlock = some k → w7.heap.size ≤ k := by
          intro k hk
          rcases hat8 with h | h
          · rw [h] at hk
            have hk : some w7.heap.size = some k := hk
            injection hk with hk
            omega
          · rw [h] at hk
            injection hk with hk
            first | omega | (simp at hk; omega)
        have hgw : 0 < n5 → g < w7.heap.size := fun h0 => hg7 h0 g 0 rfl
        clear own0 rt7 gr8 hat8 own8 hg7
        go_wp2_with fail
        refine (l16Token_any w8 p FR8.out.cur).mono ?_
        rintro e w9 ⟨tk, ts, hts, rfl, hc9, hg9⟩
        have own9 := own_drawS O8.out hg9 lp
        have FR9 := Lib.hid (FR8.out.call hc9 hg9)
        have R9 := Lib.hid (grown_rd R8.out hg9 (fun _ ad e => HGE.out ad e))
        have hz91 : w1.heap.size ≤ w9.heap.size := FR9.out.gr.size
        clear hc9 hg9
        go_wp2_with (at_builtin; refine wpList_append_rd _ rfl _ _ 53 rfl w1.heap.size 110 i0 _ 2 24 Tryz.underlying53 hi hz0 hz1 hz2 rfl (by decide) _ _ _ rfl (own9.alloc _) _ 1 1 _ rfl (rd_lit2 ?d0 rfl) ?d2 ?d3 ?d4 ?d5 ?_)
        case d0 => first | rfl | simp
        case d2 => repeat' (first | rfl | apply And.intro)
        case d3 => simp only [maxLen]; omega
        case d4 => omega
        case d5 => simp; omega
        intro v10 w10 own10 gr10 hat10
        have FR10 := Lib.hid ((FR9.out.alloc (.cells #[.int .i64 tk, .string ts] 110)).own lp gr10 (fun k hk => own_ge own9 k hk))
        have hg9 := lt_of_rdE R9.out
        have R10 := Lib.hid (rd_grownT (R9.out.below (below_allocT (w := w9) (o := .cells #[.int .i64 tk, .string ts] 110))) gr10 (fun h0 ad e k hk => by
          injection e with e
          rw [← e]
          show g ≠ k
          intro ek
          have h1 := own8ne k hk
          have := hgw h0
          omega))
        have O10 := Lib.hid own10
        have hz101 : w1.heap.size ≤ w10.heap.size := FR10.out.gr.size
        have HB10 := Lib.hid (HB1.out.trans (below_of_only FR10.out.gr HB1.out.size hp1))
        have RD := Lib.hid (rd_tkDrop R10.out HN5.out hj)
        clear own9 own10 gr10 hat10 hg9 own8ne
        obtain ⟨M, hM⟩ : ∃ M, M = T.take j ++ [(⟨tk, ts⟩ : Tk)] ++ T.drop j := ⟨_, rfl⟩
        have HEM : Hid (tkcs M = tkcs (T.take j) ++ (.int .i64 tk :: .string ts :: tkcs (T.drop j))) := by show _ = _; rw [hM, tkcs_append, tkcs_append, tkcs_one, List.append_assoc]; rfl
        have HLL : Hid (M.length = n5 + 1) := by show _ = _; rw [hM]; simp only [List.length_append, List.length_take, List.length_drop, List.length_singleton, HN5.out]; omega
        have HSM : Hid (∀ t ∈ M, t.s.size ≤ 1099511627776) := by
          rw [hM]
          intro t ht
          simp only [List.mem_append, List.mem_singleton] at ht
          rcases ht with (ht | rfl) | ht
          · exact HTZ.out t (List.mem_of_mem_take ht)
          · show ts.size ≤ _; omega
          · exact HTZ.out t (List.mem_of_mem_drop ht)
        have HZZ : Hid ((ftx M).size ≤ 1000000) := by show _ ≤ _; have h1 := ftx_size M; have h2 := HLL.out; omega
        have HD0 : Hid (n5 ≤ j → tkcs (T.drop j) = []) := fun h => by rw [List.drop_of_length_le (by rw [HN5.out]; exact h)]; rfl
        obtain ⟨A10, c10, rfl, _, _, _⟩ := rd_of_own O10.out
        clear hM
        by_cases hjc : j = c5
        · subst hjc
          have hjn : n5 ≤ j := hc5
          go_wp2_with (at_builtin; refine wpList_append_rd _ rfl _ _ 53 rfl w1.heap.size 110 i0 _ 2 24 Tryz.underlying53 hi hz0 hz1 hz2 rfl (by decide) _ _ _ rfl O10.out _ 0 _ [] rfl (show Rd w10 2 _ 0 [] from ⟨rfl, fun h => absurd h (by omega)⟩) ?f2 ?f3 ?f4 ?f5 ?_)
          case f2 => intro u hu; cases hu
          case f3 => simp only [maxLen]; omega
          case f4 => omega
          case f5 => omega
          intro v12 w12 own12 gr12 hat12
          have FR12 := Lib.hid (FR10.out.own lp gr12 (own_ge O10.out))
          have HB12 := Lib.hid (HB1.out.trans (below_of_only FR12.out.gr HB1.out.size hp1))
          have hne : j + 1 + 0 = n5 + 1 := by omega
          rw [hne] at own12
          obtain ⟨A12, c12, rfl, _, _, r12⟩ := rd_of_own own12
          have R12 := Lib.hid (show Rd w12 2 A12 (n5 + 1) (tkcs M) by rw [HEM.out]; rw [HD0.out hjn]; simpa using r12)
          clear own12 gr12 hat12 r12 hne
          go_wp2_with fail
          refine (FormatTokens_spec _ _ _ M w12 R12.out HLL.out (by omega) HSM.out).mono ?_
          rintro e w13 ⟨rfl, b13, s13⟩
          go_wp2_with fail
          go_ret
          exact ⟨_, HZZ.out, rfl, HB12.out.trans (b13.mono HB12.out.size)⟩
        · go_wp2_with (at_builtin; refine wpList_append_rd _ rfl _ _ 53 rfl w1.heap.size 110 i0 _ 2 24 Tryz.underlying53 hi hz0 hz1 hz2 rfl (by decide) _ _ _ rfl O10.out _ (n5 - j) _ _ rfl RD.out ?f2 ?f3 ?f4 ?f5 ?_)
          case f2 => exact tkc_ones _
          case f3 => simp only [maxLen]; omega
          case f4 => omega
          case f5 => omega
          intro v12 w12 own12 gr12 hat12
          have FR12 := Lib.hid (FR10.out.own lp gr12 (own_ge O10.out))
          have HB12 := Lib.hid (HB1.out.trans (below_of_only FR12.out.gr HB1.out.size hp1))
          have hne : j + 1 + (n5 - j) = n5 + 1 := by omega
          rw [hne] at own12
          obtain ⟨A12, c12, rfl, _, _, r12⟩ := rd_of_own own12
          have R12 := Lib.hid (show Rd w12 2 A12 (n5 + 1) (tkcs M) by rw [HEM.out]; simpa using r12)
          clear own12 gr12 hat12 r12 hne
          go_wp2_with fail
          refine (FormatTokens_spec _ _ _ M w12 R12.out HLL.out (by omega) HSM.out).mono ?_
          rintro e w13 ⟨rfl, b13, s13⟩
          go_wp2_with fail
          go_ret
          exact ⟨_, HZZ.out, rfl, HB12.out.trans (b13.mono HB12.out.size)⟩
      · go_wp2_with fail
        refine (FormatTokens_spec _ _ _ (T.take j) w7 RT.out HTJ.out (by omega) HTZJ.out).mono ?_
        rintro e w8 ⟨rfl, b8, s8⟩
        go_wp2_with fail
        go_ret
        exact ⟨_, hzj, rfl, HB7.out.trans (b8.mono HB7.out.size)⟩
  · go_wp2_with fail
    go_ret
    exact ⟨x, by omega, rfl, HB4.out⟩
  · go_wp2_with fail
    go_ret
    exact ⟨x, by omega, rfl, HB4.out⟩
end Go.Proofs.YthkbckkghnbonaaGreatDoor
namespace Go.Proofs.YthkbckkghnbonaaGreatDoor
open Go.RowKit
set_option linter.unusedVariables false
/-- Where a reader stands: how many tokens it has read, and the first fault. -/
structure Rs where
  i : Nat
  code : Int
def kindT (T : List Tk) (i : Nat) : Int := match T[i]? with
  | some t => t.k
  | none => 0
def textT (T : List Tk) (i : Nat) : ByteArray := match T[i]? with
  | some t => t.s
  | none => ⟨#[]⟩
def failR (s : Rs) (c : Int) : Rs := if s.code = 0 then ⟨s.i, c⟩ else s
def takeR (T : List Tk) (s : Rs) (k c : Int) : Rs × ByteArray := if s.code = 0 ∧ kindT T s.i = k then (⟨s.i + 1, 0⟩, textT T s.i) else (failR s c, ⟨#[]⟩)
def namesR (T : List Tk) : Nat → Rs → Rs × List ByteArray
  | 0, s => (s, [])
  | n + 1, s => ((namesR T n (takeR T s 1 3).1).1, (takeR T s 1 3).2 :: (namesR T n (takeR T s 1 3).1).2)
/-- A number of repetitions, as a word. -/
def numW (s : ByteArray) : Option Int := ([1, 2, 3, 4, 5, 6, 7, 8, 9] : List Int).find? fun x => s.data.toList == (dig x).data.toList
def numR (T : List Tk) (s : Rs) : Rs × Int := if s.code = 0 ∧ kindT T s.i = 1 then
    (match numW (textT T s.i) with
    | some n => (⟨s.i + 1, 0⟩, n)
    | none => (failR s 6, 0))
  else (failR s 6, 0)
def bodyR {d : Nat} (T : List Tk) (inner : Rs → Rs × List (Tr d)) (s : Rs) : Rs × List (Tr d) :=
  let s1 := if d = 0 ∧ s.code = 0 ∧ kindT T s.i = 3 then failR s 9 else s
  let r := inner (takeR T s1 3 7).1
  ((takeR T r.1 4 8).1, r.2)
/-- What a word begins. -/
def kindW (word : ByteArray) : Int :=
  if word.toList = [114, 101, 112, 101, 97, 116] then 2 else if word.toList = [97, 100, 106, 111, 105, 110, 116] then 3 else if word.toList = [99, 111, 110, 116, 114, 111, 108] then 4
  else if word.toList = [97, 110, 99, 105, 108, 108, 97] then 5 else if word.toList = [109, 101, 97, 115, 117, 114, 101] then 6 else if word.toList = [105, 102] then 7 else 1
def begW (word : ByteArray) : Bool := decide (kindW word ≠ 1) || decide (gkind word ≠ 0)
def stmtR {d : Nat} (T : List Tk) (inner : Rs → Rs × List (Tr d)) (s : Rs) : Rs × Tr (d + 1) :=
  let word := textT T s.i
  let s0 : Rs := ⟨s.i + 1, s.code⟩
  let k := kindW word
  if k = 2 then ((bodyR T inner (numR T s0).1).1, mkT ⟨2, ⟨#[]⟩, [], (numR T s0).2⟩ (bodyR T inner (numR T s0).1).2)
  else if k = 3 then ((bodyR T inner s0).1, mkT ⟨3, ⟨#[]⟩, [], 0⟩ (bodyR T inner s0).2)
  else if k = 6 then ((takeR T (namesR T 2 s0).1 2 4).1, mkT ⟨6, ⟨#[]⟩, (namesR T 2 s0).2, 0⟩ [])
  else if k = 1 then ((takeR T (namesR T (ar (gkind word)) s0).1 2 4).1, mkT ⟨1, word, (namesR T (ar (gkind word)) s0).2, 0⟩ [])
  else ((bodyR T inner (namesR T 1 s0).1).1, mkT ⟨k, ⟨#[]⟩, (namesR T 1 s0).2, 0⟩ (bodyR T inner (namesR T 1 s0).1).2)
def loopR {α : Type} (T : List Tk) (top : Bool) (st : Rs → Rs × α) : Nat → Rs → Rs × List α
  | 0, s => (s, [])
  | f + 1, s => if s.code ≠ 0 then (s, []) else if T.length ≤ s.i ∨ (kindT T s.i = 4 ∧ top = false) then (s, [])
    else if kindT T s.i = 1 ∧ begW (textT T s.i) = true then ((loopR T top st f (st s).1).1, (st s).2 :: (loopR T top st f (st s).1).2) else (⟨s.i, 5⟩, [])
def innerR (T : List Tk) : (d : Nat) → Rs → Rs × List (Tr d)
  | 0, s => (s, [])
  | d + 1, s => loopR T false (stmtR T (innerR T d)) (T.length + 1) s
section
variable {T : List Tk}
theorem kindT_lt {i : Nat} (h : kindT T i ≠ 0) : i < T.length := by
  unfold kindT at h
  rcases Nat.lt_or_ge i T.length with h1 | h1
  · exact h1
  · rw [List.getElem?_eq_none h1] at h
    exact absurd rfl h
theorem failR_i (s : Rs) (c : Int) : (failR s c).i = s.i := by unfold failR; split <;> rfl
theorem takeR_i (s : Rs) (k c : Int) : s.i ≤ (takeR T s k c).1.i ∧ (takeR T s k c).1.i ≤ s.i + 1 := by
  unfold takeR
  split
  · exact ⟨Nat.le_succ _, Nat.le_refl _⟩
  · rw [failR_i]; exact ⟨Nat.le_refl _, Nat.le_succ _⟩
theorem takeR_le {s : Rs} {k c : Int} (hk : k ≠ 0) (h : s.i ≤ T.length) : (takeR T s k c).1.i ≤ T.length := by
  unfold takeR
  split
  · rename_i h1
    have := kindT_lt (T := T) (i := s.i) (by rw [h1.2]; exact hk)
    show s.i + 1 ≤ _
    omega
  · rw [failR_i]; exact h
theorem namesR_i (n : Nat) : ∀ s : Rs, s.i ≤ (namesR T n s).1.i := by
  induction n with
  | zero => intro s; exact Nat.le_refl _
  | succ n ih => intro s; exact Nat.le_trans (takeR_i s 1 3).1 (ih _)
theorem namesR_le (n : Nat) : ∀ s : Rs, s.i ≤ T.length → (namesR T n s).1.i ≤ T.length := by
  induction n with
  | zero => intro s h; exact h
  | succ n ih => intro s h; exact ih _ (takeR_le (by decide) h)
theorem namesR_len (n : Nat) : ∀ s : Rs, (namesR T n s).2.length = n := by
  induction n with
  | zero => intro s; rfl
  | succ n ih => intro s; show (namesR T n _).2.length + 1 = _; rw [ih]
theorem numR_i (s : Rs) : s.i ≤ (numR T s).1.i := by
  unfold numR
  split
  · split
    · exact Nat.le_succ _
    · rw [failR_i]; exact Nat.le_refl _
  · rw [failR_i]; exact Nat.le_refl _
theorem numR_le {s : Rs} (h : s.i ≤ T.length) : (numR T s).1.i ≤ T.length := by
  unfold numR
  split
  · rename_i h1
    split
    · have := kindT_lt (T := T) (i := s.i) (by rw [h1.2]; decide)
      show s.i + 1 ≤ _
      omega
    · rw [failR_i]; exact h
  · rw [failR_i]; exact h
/-- A part of the reader that never goes back nor beyond the end. -/
def Goes {α : Type} (T : List Tk) (f : Rs → Rs × α) : Prop := ∀ s : Rs, s.i ≤ T.length → s.i ≤ (f s).1.i ∧ (f s).1.i ≤ T.length
theorem bodyR_goes {d : Nat} {inner : Rs → Rs × List (Tr d)} (h : Goes T inner) : Goes T (bodyR T inner) := by
  intro s hs
  unfold bodyR
  have key : ∀ s1 : Rs, s1.i = s.i → s.i ≤ (takeR T (inner (takeR T s1 3 7).1).1 4 8).1.i ∧ (takeR T (inner (takeR T s1 3 7).1).1 4 8).1.i ≤ T.length := by
    intro s1 h1
    have a := takeR_i (T := T) s1 3 7
    have b := takeR_le (T := T) (s := s1) (k := 3) (c := 7) (by decide) (by omega)
    have c := h _ b
    exact ⟨by have := (takeR_i (T := T) (inner (takeR T s1 3 7).1).1 4 8).1; omega, takeR_le (by decide) c.2⟩
  show _ ≤ (takeR T (inner (takeR T (if _ then _ else _) 3 7).1).1 4 8).1.i ∧ _
  split
  · exact key _ (failR_i _ _)
  · exact key _ rfl
theorem stmtR_goes {d : Nat} {inner : Rs → Rs × List (Tr d)} (h : Goes T inner) {s : Rs} (hs : s.i < T.length) : s.i + 1 ≤ (stmtR T inner s).1.i ∧ (stmtR T inner s).1.i ≤ T.length := by
  have hb := bodyR_goes h
  unfold stmtR
  have h0 : (⟨s.i + 1, s.code⟩ : Rs).i ≤ T.length := hs
  simp only []
  split
  · have a := numR_le (T := T) h0
    have a2 := numR_i (T := T) ⟨s.i + 1, s.code⟩
    have b := hb _ a
    exact ⟨Nat.le_trans a2 b.1, b.2⟩
  · split
    · exact hb _ h0
    · split
      · have a := namesR_le (T := T) 2 _ h0
        have a2 := namesR_i (T := T) 2 ⟨s.i + 1, s.code⟩
        exact ⟨Nat.le_trans a2 (takeR_i _ _ _).1, takeR_le (by decide) a⟩
      · split
        · have a := namesR_le (T := T) (ar (gkind (textT T s.i))) _ h0
          have a2 := namesR_i (T := T) (ar (gkind (textT T s.i))) ⟨s.i + 1, s.code⟩
          exact ⟨Nat.le_trans a2 (takeR_i _ _ _).1, takeR_le (by decide) a⟩
        · have a := namesR_le (T := T) 1 _ h0
          have a2 := namesR_i (T := T) 1 ⟨s.i + 1, s.code⟩
          have b := hb _ a
          exact ⟨Nat.le_trans a2 b.1, b.2⟩
theorem loopR_goes {α : Type} {top : Bool} {st : Rs → Rs × α} (h : ∀ s : Rs, s.i < T.length → s.i + 1 ≤ (st s).1.i ∧ (st s).1.i ≤ T.length) : ∀ f : Nat, Goes T (loopR T top st f) := by
  intro f
  induction f with
  | zero => intro s hs; exact ⟨Nat.le_refl _, hs⟩
  | succ f ih =>
    intro s hs
    unfold loopR
    split
    · exact ⟨Nat.le_refl _, hs⟩
    · split
      · exact ⟨Nat.le_refl _, hs⟩
      · rename_i h1
        split
        · have h2 := h s (by omega)
          have h3 := ih (st s).1 h2.2
          exact ⟨by show s.i ≤ (loopR T top st f (st s).1).1.i; omega, h3.2⟩
        · exact ⟨Nat.le_refl _, hs⟩
theorem innerR_goes : ∀ d : Nat, Goes T (innerR T d) := by
  intro d
  induction d with
  | zero => intro s hs; exact ⟨Nat.le_refl _, hs⟩
  | succ d ih => exact loopR_goes (fun s hs => stmtR_goes ih hs) _
/-- A fault stays. -/
theorem loopR_code {α : Type} {top : Bool} {st : Rs → Rs × α} {f : Nat} {s : Rs} (h : s.code ≠ 0) : loopR T top st f s = (s, []) := by
  cases f with
  | zero => rfl
  | succ f => unfold loopR; rw [if_pos h]
theorem loopR_end {α : Type} {top : Bool} {st : Rs → Rs × α} {f : Nat} {s : Rs} (h : T.length ≤ s.i ∨ (kindT T s.i = 4 ∧ top = false)) : loopR T top st f s = (s, []) := by
  cases f with
  | zero => rfl
  | succ f =>
    rw [loopR]
    by_cases h0 : s.code ≠ 0
    · rw [if_pos h0]
    · rw [if_neg h0, if_pos h]
theorem loopR_step {α : Type} {top : Bool} {st : Rs → Rs × α} {f : Nat} {s : Rs} (h0 : s.code = 0) (h1 : s.i < T.length) (h2 : kindT T s.i = 1) (h3 : begW (textT T s.i) = true) : loopR T top st (f + 1) s = ((loopR T top st f (st s).1).1, (st s).2 :: (loopR T top st f (st s).1).2) := by
  rw [loopR, if_neg (by simp [h0]), if_neg (by
    rintro (h | ⟨h, _⟩)
    · omega
    · rw [h2] at h
      exact absurd h (by decide)), if_pos ⟨h2, h3⟩]
theorem loopR_bad {α : Type} {top : Bool} {st : Rs → Rs × α} {f : Nat} {s : Rs} (h0 : s.code = 0) (h1 : s.i < T.length) (h2 : ¬ (kindT T s.i = 4 ∧ top = false)) (h3 : ¬ (kindT T s.i = 1 ∧ begW (textT T s.i) = true)) : loopR T top st (f + 1) s = (⟨s.i, 5⟩, []) := by
  rw [loopR, if_neg (by simp [h0]), if_neg (by
    rintro (h | h)
    · omega
    · exact h2 h), if_neg h3]
end
end Go.Proofs.YthkbckkghnbonaaGreatDoor
namespace Go.Proofs.YthkbckkghnbonaaGreatDoor
open Go.RowKit
set_option linter.unusedVariables false
def qR (T : List Tk) : Nat → Rs → Rs × List ByteArray
  | 0, s => if s.code = 0 ∧ kindT T s.i = 1 then (⟨s.i, 10⟩, []) else ((takeR T s 2 4).1, [])
  | m + 1, s => if s.code = 0 ∧ kindT T s.i = 1 then ((qR T m ⟨s.i + 1, 0⟩).1, textT T s.i :: (qR T m ⟨s.i + 1, 0⟩).2) else ((takeR T s 2 4).1, [])
/-- The qubits. -/
def headR (T : List Tk) : Rs × List ByteArray :=
  if kindT T 0 = 1 ∧ (textT T 0).toList = [113, 117, 98, 105, 116, 115] then ((qR T 3 (takeR T ⟨1, 0⟩ 1 3).1).1, (takeR T ⟨1, 0⟩ 1 3).2 :: (qR T 3 (takeR T ⟨1, 0⟩ 1 3).1).2) else (⟨0, 2⟩, [])
def bodyT (T : List Tk) (s : Rs) : Rs × List (Tr 5) := loopR T true (stmtR T (innerR T 4)) (T.length + 1) s
/-- What is read: the fault, its place, the qubits, the statements. -/
def parseR (o : Option (List Tk)) : Int × Nat × List ByteArray × List (Tr 5) := match o with
  | none => (1, 0, [], [])
  | some T => if (bodyT T (headR T).1).1.code = 0 then (0, 0, (headR T).2, (bodyT T (headR T).1).2) else ((bodyT T (headR T).1).1.code, (bodyT T (headR T).1).1.i, [], [])
section
variable {T : List Tk}
def Small8 (T : List Tk) : Prop := ∀ t ∈ T, t.s.size ≤ 8
theorem textT_le (h : Small8 T) (i : Nat) : (textT T i).size ≤ 8 := by
  unfold textT
  cases e : T[i]? with
  | none => exact Nat.zero_le _
  | some t => exact h t (List.mem_of_getElem? e)
theorem takeR_sz (h : Small8 T) (s : Rs) (k c : Int) : (takeR T s k c).2.size ≤ 8 := by
  unfold takeR
  split
  · exact textT_le h _
  · exact Nat.zero_le _
theorem namesR_sz (h : Small8 T) (n : Nat) : ∀ s : Rs, szS (namesR T n s).2 ≤ 8 * n := by
  induction n with
  | zero => intro s; exact Nat.le_refl _
  | succ n ih =>
    intro s
    show (takeR T s 1 3).2.size + szS (namesR T n (takeR T s 1 3).1).2 ≤ _
    have := takeR_sz h s 1 3
    have := ih (takeR T s 1 3).1
    omega
/-- What is read weighs at most forty for each token. -/
def Light {d : Nat} (T : List Tk) (f : Rs → Rs × List (Tr d)) : Prop := ∀ s : Rs, s.i ≤ T.length → szT d (f s).2 + 40 * s.i ≤ 40 * (f s).1.i
theorem bodyR_light {d : Nat} {inner : Rs → Rs × List (Tr d)} (hg : Goes T inner) (h : Light T inner) : Light T (bodyR T inner) := by
  intro s hs
  unfold bodyR
  have key : ∀ s1 : Rs, s1.i = s.i → szT d (inner (takeR T s1 3 7).1).2 + 40 * s.i ≤ 40 * (takeR T (inner (takeR T s1 3 7).1).1 4 8).1.i := by
    intro s1 h1
    have a := (takeR_i (T := T) s1 3 7).1
    have b := takeR_le (T := T) (s := s1) (k := 3) (c := 7) (by decide) (by omega)
    have c := h _ b
    have e := (takeR_i (T := T) (inner (takeR T s1 3 7).1).1 4 8).1
    omega
  show szT d (inner (takeR T (if _ then _ else _) 3 7).1).2 + _ ≤ 40 * (takeR T (inner (takeR T (if _ then _ else _) 3 7).1).1 4 8).1.i
  split
  · exact key _ (failR_i _ _)
  · exact key _ rfl
theorem stmtR_light {d : Nat} {inner : Rs → Rs × List (Tr d)} (hz : Small8 T) (hg : Goes T inner) (h : Light T inner) {s : Rs} (hs : s.i < T.length) : 1 + szE (stmtR T inner s).2 + 40 * s.i ≤ 40 * (stmtR T inner s).1.i := by
  have hb := bodyR_light hg h
  have hbg := bodyR_goes hg
  have h0 : (⟨s.i + 1, s.code⟩ : Rs).i ≤ T.length := hs
  unfold stmtR
  simp only []
  split
  · have a := numR_le (T := T) h0
    have a2 : s.i + 1 ≤ (numR T ⟨s.i + 1, s.code⟩).1.i := numR_i (T := T) ⟨s.i + 1, s.code⟩
    have b := hb _ a
    show 1 + szE (mkT _ _) + _ ≤ _
    rw [szE_mk]
    show 1 + (0 + (0 + 0 + szT d (bodyR T inner (numR T ⟨s.i + 1, s.code⟩).1).2)) + 40 * s.i ≤ 40 * (bodyR T inner (numR T ⟨s.i + 1, s.code⟩).1).1.i
    omega
  · split
    · have b : szT d (bodyR T inner ⟨s.i + 1, s.code⟩).2 + 40 * (s.i + 1) ≤ 40 * (bodyR T inner ⟨s.i + 1, s.code⟩).1.i := hb _ h0
      show 1 + szE (mkT _ _) + _ ≤ _
      rw [szE_mk]
      show 1 + (0 + (0 + 0 + szT d (bodyR T inner ⟨s.i + 1, s.code⟩).2)) + 40 * s.i ≤ 40 * (bodyR T inner ⟨s.i + 1, s.code⟩).1.i
      omega
    · split
      · have a2 : s.i + 1 ≤ (namesR T 2 ⟨s.i + 1, s.code⟩).1.i := namesR_i (T := T) 2 ⟨s.i + 1, s.code⟩
        have a3 := namesR_sz hz 2 ⟨s.i + 1, s.code⟩
        have a4 := namesR_len (T := T) 2 ⟨s.i + 1, s.code⟩
        have a5 := (takeR_i (T := T) (namesR T 2 ⟨s.i + 1, s.code⟩).1 2 4).1
        show 1 + szE (mkT _ _) + _ ≤ _
        rw [szE_mk, szT_nil]
        show 1 + (0 + ((namesR T 2 ⟨s.i + 1, s.code⟩).2.length + szS (namesR T 2 ⟨s.i + 1, s.code⟩).2 + 0)) + 40 * s.i ≤ 40 * (takeR T (namesR T 2 ⟨s.i + 1, s.code⟩).1 2 4).1.i
        omega
      · split
        · have hr := ar_le (gkind (textT T s.i))
          obtain ⟨m, hm⟩ : ∃ m, m = ar (gkind (textT T s.i)) := ⟨_, rfl⟩
          rw [← hm] at hr ⊢
          have a2 : s.i + 1 ≤ (namesR T m ⟨s.i + 1, s.code⟩).1.i := namesR_i (T := T) m ⟨s.i + 1, s.code⟩
          have a3 := namesR_sz hz m ⟨s.i + 1, s.code⟩
          have a4 := namesR_len (T := T) m ⟨s.i + 1, s.code⟩
          have a5 := (takeR_i (T := T) (namesR T m ⟨s.i + 1, s.code⟩).1 2 4).1
          have a6 := textT_le hz s.i
          show 1 + szE (mkT _ _) + _ ≤ _
          rw [szE_mk, szT_nil]
          show 1 + ((textT T s.i).size + ((namesR T m ⟨s.i + 1, s.code⟩).2.length + szS (namesR T m ⟨s.i + 1, s.code⟩).2 + 0)) + 40 * s.i ≤ 40 * (takeR T (namesR T m ⟨s.i + 1, s.code⟩).1 2 4).1.i
          omega
        · have a := namesR_le (T := T) 1 _ h0
          have a2 : s.i + 1 ≤ (namesR T 1 ⟨s.i + 1, s.code⟩).1.i := namesR_i (T := T) 1 ⟨s.i + 1, s.code⟩
          have a3 := namesR_sz hz 1 ⟨s.i + 1, s.code⟩
          have a4 := namesR_len (T := T) 1 ⟨s.i + 1, s.code⟩
          have b := hb _ a
          show 1 + szE (mkT _ _) + _ ≤ _
          rw [szE_mk]
          show 1 + (0 + ((namesR T 1 ⟨s.i + 1, s.code⟩).2.length + szS (namesR T 1 ⟨s.i + 1, s.code⟩).2 + szT d (bodyR T inner (namesR T 1 ⟨s.i + 1, s.code⟩).1).2)) + 40 * s.i ≤ 40 * (bodyR T inner (namesR T 1 ⟨s.i + 1, s.code⟩).1).1.i
          omega
theorem loopR_light {d : Nat} {top : Bool} {st : Rs → Rs × Tr (d + 1)} (hg : ∀ s : Rs, s.i < T.length → s.i + 1 ≤ (st s).1.i ∧ (st s).1.i ≤ T.length) (h : ∀ s : Rs, s.i < T.length → 1 + szE (st s).2 + 40 * s.i ≤ 40 * (st s).1.i) : ∀ f : Nat, Light T (loopR T top st f) := by
  intro f
  induction f with
  | zero => intro s hs; show szT (d + 1) [] + _ ≤ _; rw [szT_nil]; show 0 + 40 * s.i ≤ 40 * s.i; omega
  | succ f ih =>
    intro s hs
    have nil : ∀ c : Int, szT (d + 1) (([] : List (Tr (d + 1)))) + 40 * s.i ≤ 40 * (⟨s.i, c⟩ : Rs).i := fun c => by rw [szT_nil]; show 0 + 40 * s.i ≤ 40 * s.i; omega
    unfold loopR
    split
    · exact nil s.code
    · split
      · exact nil s.code
      · rename_i h1
        split
        · have h2 := hg s (by omega)
          have h3 := h s (by omega)
          have h4 := ih (st s).1 h2.2
          have e : szT (d + 1) ((st s).2 :: (loopR T top st f (st s).1).2) = 1 + szE (st s).2 + szT (d + 1) (loopR T top st f (st s).1).2 := by
            rw [show (st s).2 :: (loopR T top st f (st s).1).2 = [(st s).2] ++ (loopR T top st f (st s).1).2 from rfl, szT_append, szT_one]
          show szT (d + 1) ((st s).2 :: (loopR T top st f (st s).1).2) + 40 * s.i ≤ 40 * (loopR T top st f (st s).1).1.i
          rw [e]
          omega
        · exact nil 5
theorem innerR_light (hz : Small8 T) : ∀ d : Nat, Light T (innerR T d) := by
  intro d
  induction d with
  | zero => intro s hs; show szT 0 [] + _ ≤ _; rw [szT_nil]; show 0 + 40 * s.i ≤ 40 * s.i; omega
  | succ d ih => exact loopR_light (fun s hs => stmtR_goes (innerR_goes d) hs) (fun s hs => stmtR_light hz (innerR_goes d) ih hs) _
theorem bodyT_light (hz : Small8 T) (s : Rs) (hs : s.i ≤ T.length) : szT 5 (bodyT T s).2 + 40 * s.i ≤ 40 * (bodyT T s).1.i ∧ (bodyT T s).1.i ≤ T.length :=
  ⟨loopR_light (fun s hs => stmtR_goes (innerR_goes 4) hs) (fun s hs => stmtR_light hz (innerR_goes 4) (innerR_light hz 4) hs) _ s hs, (loopR_goes (fun s hs => stmtR_goes (innerR_goes 4) hs) _ s hs).2⟩
theorem qR_le (m : Nat) : ∀ s : Rs, s.i ≤ T.length → (qR T m s).1.i ≤ T.length ∧ (qR T m s).2.length ≤ m := by
  induction m with
  | zero =>
    intro s hs
    unfold qR
    split
    · exact ⟨hs, Nat.le_refl _⟩
    · exact ⟨takeR_le (by decide) hs, Nat.le_refl _⟩
  | succ m ih =>
    intro s hs
    unfold qR
    split
    · rename_i h
      have h1 := kindT_lt (T := T) (i := s.i) (by rw [h.2]; decide)
      have h2 := ih ⟨s.i + 1, 0⟩ h1
      exact ⟨h2.1, Nat.succ_le_succ h2.2⟩
    · exact ⟨takeR_le (by decide) hs, Nat.zero_le _⟩
theorem qR_sz (hz : Small8 T) (m : Nat) : ∀ s : Rs, ∀ x ∈ (qR T m s).2, x.size ≤ 8 := by
  induction m with
  | zero =>
    intro s x hx
    unfold qR at hx
    split at hx <;> cases hx
  | succ m ih =>
    intro s x hx
    unfold qR at hx
    split at hx
    · rcases List.mem_cons.1 hx with rfl | hx
      · exact textT_le hz _
      · exact ih _ x hx
    · cases hx
theorem headR_ok (hz : Small8 T) (hl : 1 ≤ T.length ∨ T = []) : (headR T).1.i ≤ T.length ∧ (headR T).2.length ≤ 4 ∧ ∀ x ∈ (headR T).2, x.size ≤ 8 := by
  unfold headR
  split
  · rename_i h
    have h1 := kindT_lt (T := T) (i := 0) (by rw [h.1]; decide)
    have h2 := takeR_le (T := T) (s := ⟨1, 0⟩) (k := 1) (c := 3) (by decide) h1
    have h3 := qR_le (T := T) 3 _ h2
    refine ⟨h3.1, Nat.succ_le_succ h3.2, fun x hx => ?_⟩
    rcases List.mem_cons.1 hx with rfl | hx
    · exact takeR_sz hz _ _ _
    · exact qR_sz hz 3 _ x hx
  · exact ⟨Nat.zero_le _, Nat.zero_le _, fun x hx => by cases hx⟩
end
end Go.Proofs.YthkbckkghnbonaaGreatDoor
namespace Go.Proofs.YthkbckkghnbonaaGreatDoor
open Go.RowKit
set_option linter.unusedVariables false
theorem gkindFrom_at (word : List UInt8) : ∀ f k, gkindFrom word f k ≠ 0 → ∃ j, k ≤ j ∧ j < k + f ∧ word = gname j := by
  intro f
  induction f with
  | zero => intro k h; exact absurd rfl h
  | succ f ih =>
    intro k h
    unfold gkindFrom at h
    split at h
    · rename_i h1
      exact ⟨k, Nat.le_refl _, by omega, (show gname k = word by simpa using h1).symm⟩
    · obtain ⟨j, h1, h2, h3⟩ := ih (k + 1) h
      exact ⟨j, by omega, by omega, h3⟩
theorem kindW_gate {word : ByteArray} (h : gkind word ≠ 0) : kindW word = 1 := by
  obtain ⟨j, h1, h2, h3⟩ := gkindFrom_at word.toList 12 1 h
  have hj : j = 1 ∨ j = 2 ∨ j = 3 ∨ j = 4 ∨ j = 5 ∨ j = 6 ∨ j = 7 ∨ j = 8 ∨ j = 9 ∨ j = 10 ∨ j = 11 ∨ j = 12 := by omega
  unfold kindW
  rw [h3]
  rcases hj with rfl | rfl | rfl | rfl | rfl | rfl | rfl | rfl | rfl | rfl | rfl | rfl <;> decide
theorem kindW_head {k : Int} (h : 2 ≤ k ∧ k ≤ 7) (word : ByteArray) : kindW (headW k word) = k := by
  have hk : k = 2 ∨ k = 3 ∨ k = 4 ∨ k = 5 ∨ k = 6 ∨ k = 7 := by omega
  unfold kindW
  rw [Lib.toList_data]
  rcases hk with rfl | rfl | rfl | rfl | rfl | rfl <;> rfl
theorem numW_dig {n : Int} (h : 1 ≤ n ∧ n ≤ 9) : numW (dig n) = some n := by
  have hn : n = 1 ∨ n = 2 ∨ n = 3 ∨ n = 4 ∨ n = 5 ∨ n = 6 ∨ n = 7 ∨ n = 8 ∨ n = 9 := by omega
  rcases hn with rfl | rfl | rfl | rfl | rfl | rfl | rfl | rfl | rfl <;> rfl
section
variable {T pre post : List Tk}
theorem kindT_at {t : Tk} (h : T = pre ++ t :: post) : kindT T pre.length = t.k := by unfold kindT; rw [h]; simp
theorem textT_at {t : Tk} (h : T = pre ++ t :: post) : textT T pre.length = t.s := by unfold textT; rw [h]; simp
theorem takeR_at {t : Tk} {c : Int} (h : T = pre ++ t :: post) : takeR T ⟨pre.length, 0⟩ t.k c = (⟨pre.length + 1, 0⟩, t.s) := by
  unfold takeR
  rw [if_pos ⟨rfl, kindT_at h⟩, textT_at h]
theorem namesR_at : ∀ (args : List ByteArray) (pre : List Tk), T = pre ++ (args.map wTk ++ post) → namesR T args.length ⟨pre.length, 0⟩ = (⟨pre.length + args.length, 0⟩, args) := by
  intro args
  induction args with
  | nil => intro pre h; rfl
  | cons a args ih =>
    intro pre h
    have h1 : T = pre ++ wTk a :: (args.map wTk ++ post) := h
    have h2 : T = (pre ++ [wTk a]) ++ (args.map wTk ++ post) := by rw [h1]; simp
    have h3 := ih (pre ++ [wTk a]) h2
    have h4 : takeR T ⟨pre.length, 0⟩ 1 3 = (⟨pre.length + 1, 0⟩, a) := takeR_at (t := wTk a) h1
    show ((namesR T args.length (takeR T ⟨pre.length, 0⟩ 1 3).1).1, (takeR T ⟨pre.length, 0⟩ 1 3).2 :: (namesR T args.length (takeR T ⟨pre.length, 0⟩ 1 3).1).2) = _
    rw [h4]
    have e : (pre ++ [wTk a]).length = pre.length + 1 := by simp
    rw [e] at h3
    show ((namesR T args.length ⟨pre.length + 1, 0⟩).1, a :: (namesR T args.length ⟨pre.length + 1, 0⟩).2) = _
    rw [h3]
    show ((⟨pre.length + 1 + args.length, 0⟩ : Rs), a :: args) = _
    rw [List.length_cons, show pre.length + 1 + args.length = pre.length + (args.length + 1) by omega]
end
/-- Statements, whatever their depth. -/
inductive TT where
  | mk (h : SH) (b : List TT) : TT
def toTT : (d : Nat) → Tr d → TT
  | 0, e => nomatch (show Empty from e)
  | d + 1, s => TT.mk (hdT s) ((bdT s).map (toTT d))
theorem map_inj_of {α β : Type} {f : α → β} (hf : ∀ a b, f a = f b → a = b) : ∀ {l l' : List α}, l.map f = l'.map f → l = l' := by
  intro l
  induction l with
  | nil =>
    intro l' h
    cases l' with
    | nil => rfl
    | cons => simp at h
  | cons a l ih =>
    intro l' h
    cases l' with
    | nil => simp at h
    | cons b l' =>
      simp only [List.map_cons, List.cons.injEq] at h
      rw [hf a b h.1, ih h.2]
theorem toTT_inj : ∀ (d : Nat) (s s' : Tr d), toTT d s = toTT d s' → s = s' := by
  intro d
  induction d with
  | zero => intro e; exact nomatch (show Empty from e)
  | succ d ih =>
    intro s s' h
    have h1 : TT.mk (hdT s) ((bdT s).map (toTT d)) = TT.mk (hdT s') ((bdT s').map (toTT d)) := h
    injection h1 with h2 h3
    have h4 := map_inj_of (fun a b => ih a b) h3
    rw [← mk_eta s, ← mk_eta s', h2, h4]
/-- The tokens that a reader of depth e is handed read back as the statements. -/
def Back (T : List Tk) (e : Nat) : Prop := ∀ (d : Nat) (l : List (Tr d)) (pre post : List Tk), validT d l = true → nestT d l ≤ e → T = pre ++ (toksT d l ++ pTk 4 :: post) → ∃ l2 : List (Tr (e + 1)), innerR T (e + 1) ⟨pre.length, 0⟩ = (⟨pre.length + (toksT d l).length, 0⟩, l2) ∧ l2.map (toTT (e + 1)) = l.map (toTT d)
theorem bodyR_at {T pre post : List Tk} {e d : Nat} {l : List (Tr d)} (hb : Back T e) (hv : validT d l = true) (hn : nestT d l ≤ e) (h : T = pre ++ (([pTk 3] ++ toksT d l ++ [pTk 4]) ++ post)) :
    ∃ l2 : List (Tr (e + 1)), bodyR T (innerR T (e + 1)) ⟨pre.length, 0⟩ = (⟨pre.length + ((toksT d l).length + 2), 0⟩, l2) ∧ l2.map (toTT (e + 1)) = l.map (toTT d) := by
  have h1 : T = pre ++ pTk 3 :: (toksT d l ++ pTk 4 :: post) := by rw [h]; simp
  have h2 : T = (pre ++ [pTk 3]) ++ (toksT d l ++ pTk 4 :: post) := by rw [h1, List.append_assoc]; rfl
  have h3 : T = (pre ++ [pTk 3] ++ toksT d l) ++ pTk 4 :: post := by rw [h2, ← List.append_assoc]
  obtain ⟨l2, h4, h5⟩ := hb d l (pre ++ [pTk 3]) post hv hn h2
  refine ⟨l2, ?_, h5⟩
  have e1 : takeR T ⟨pre.length, 0⟩ 3 7 = (⟨pre.length + 1, 0⟩, ⟨#[]⟩) := takeR_at (t := pTk 3) h1
  have e2 := takeR_at (t := pTk 4) (c := 8) h3
  have e3 : (pre ++ [pTk 3]).length = pre.length + 1 := by simp
  have e4 : (pre ++ [pTk 3] ++ toksT d l).length = pre.length + 1 + (toksT d l).length := by rw [List.length_append, List.length_append]; rfl
  rw [e3] at h4
  rw [e4] at e2
  unfold bodyR
  simp only []
  rw [if_neg (by omega), e1]
  show ((takeR T (innerR T (e + 1) ⟨pre.length + 1, 0⟩).1 4 8).1, (innerR T (e + 1) ⟨pre.length + 1, 0⟩).2) = _
  rw [h4]
  show ((takeR T ⟨pre.length + 1 + (toksT d l).length, 0⟩ 4 8).1, l2) = _
  have e5 : takeR T ⟨pre.length + 1 + (toksT d l).length, 0⟩ 4 8 = (⟨pre.length + 1 + (toksT d l).length + 1, 0⟩, ⟨#[]⟩) := e2
  rw [e5]
  show ((⟨pre.length + 1 + (toksT d l).length + 1, 0⟩ : Rs), l2) = _
  rw [show pre.length + 1 + (toksT d l).length + 1 = pre.length + ((toksT d l).length + 2) by omega]
theorem bytes_nil {s : ByteArray} (h : s.toList = []) : s = ⟨#[]⟩ := by
  rw [Lib.toList_data] at h
  cases s with
  | mk a =>
    have : a = #[] := by simpa using h
    rw [this]
theorem vOne_all {d : Nat} {h : SH} {bd : List (Tr d)} (hv : vOne d (validT d) h bd = true) : (1 ≤ h.k ∧ h.k ≤ 7) ∧ h.args.length = nargs h.k h.word ∧ (h.k ≠ 1 ∨ nargs h.k h.word ≠ 0) ∧ (h.k = 1 ∨ h.word = ⟨#[]⟩) ∧ (hasB h.k = true ∨ bd = []) ∧ (h.k = 2 → 1 ≤ h.count ∧ h.count ≤ 9) ∧ (h.k ≠ 2 → h.count = 0) ∧ validT d bd = true := by
  unfold vOne headV at hv
  simp only [Bool.and_eq_true, decide_eq_true_eq] at hv
  obtain ⟨⟨h1, h2, h3, h4, h5, h6⟩, _, h7⟩ := hv
  unfold okCount at h6
  refine ⟨inB_iff.1 h1, h2, h3, h4.imp id bytes_nil, h5.imp id List.eq_nil_of_length_eq_zero, fun hk => ?_, fun hk => ?_, h7⟩
  · rw [if_pos hk] at h6
    exact inB_iff.1 h6
  · rw [if_neg hk] at h6
    simpa using h6
theorem begW_kind {word : ByteArray} (h : kindW word ≠ 1) : begW word = true := by unfold begW; simp [h]
theorem begW_gate {word : ByteArray} (h : gkind word ≠ 0) : begW word = true := by unfold begW; simp [h]
theorem stmtR_word {T : List Tk} {e : Nat} {inner : Rs → Rs × List (Tr e)} {i : Nat} {word : ByteArray} (h : textT T i = word) :
    (kindW word = 2 → stmtR T inner ⟨i, 0⟩ = ((bodyR T inner (numR T ⟨i + 1, 0⟩).1).1, mkT ⟨2, ⟨#[]⟩, [], (numR T ⟨i + 1, 0⟩).2⟩ (bodyR T inner (numR T ⟨i + 1, 0⟩).1).2)) ∧
    (kindW word = 3 → stmtR T inner ⟨i, 0⟩ = ((bodyR T inner ⟨i + 1, 0⟩).1, mkT ⟨3, ⟨#[]⟩, [], 0⟩ (bodyR T inner ⟨i + 1, 0⟩).2)) ∧
    (kindW word = 6 → stmtR T inner ⟨i, 0⟩ = ((takeR T (namesR T 2 ⟨i + 1, 0⟩).1 2 4).1, mkT ⟨6, ⟨#[]⟩, (namesR T 2 ⟨i + 1, 0⟩).2, 0⟩ [])) ∧
    (kindW word = 1 → stmtR T inner ⟨i, 0⟩ = ((takeR T (namesR T (ar (gkind word)) ⟨i + 1, 0⟩).1 2 4).1, mkT ⟨1, word, (namesR T (ar (gkind word)) ⟨i + 1, 0⟩).2, 0⟩ [])) ∧
    (∀ k : Int, (k = 4 ∨ k = 5 ∨ k = 7) → kindW word = k → stmtR T inner ⟨i, 0⟩ = ((bodyR T inner (namesR T 1 ⟨i + 1, 0⟩).1).1, mkT ⟨k, ⟨#[]⟩, (namesR T 1 ⟨i + 1, 0⟩).2, 0⟩ (bodyR T inner (namesR T 1 ⟨i + 1, 0⟩).1).2)) := by
  subst h
  refine ⟨fun hk => ?_, fun hk => ?_, fun hk => ?_, fun hk => ?_, fun k hk4 hk => ?_⟩
  · unfold stmtR; simp only []; rw [if_pos hk]
  · unfold stmtR; simp only []; rw [if_neg (by rw [hk]; decide), if_pos hk]
  · unfold stmtR; simp only []; rw [if_neg (by rw [hk]; decide), if_neg (by rw [hk]; decide), if_pos hk]
  · unfold stmtR; simp only []; rw [if_neg (by rw [hk]; decide), if_neg (by rw [hk]; decide), if_neg (by rw [hk]; decide), if_pos hk]
  · unfold stmtR; simp only []; rw [hk, if_neg (by omega), if_neg (by omega), if_neg (by omega), if_neg (by omega)]
theorem stmtR_at {T pre post : List Tk} {e d : Nat} (hB : ∀ e', e = e' + 1 → Back T e') {s : Tr (d + 1)} (hv : vOne d (validT d) (hdT s) (bdT s) = true) (hn : hasB (hdT s).k = true → 1 + nestT d (bdT s) ≤ e) (h : T = pre ++ (toks1 (hdT s) (toksT d (bdT s)) ++ post)) :
    (kindT T pre.length = 1 ∧ begW (textT T pre.length) = true) ∧ ∃ s2 : Tr (e + 1), stmtR T (innerR T e) ⟨pre.length, 0⟩ = (⟨pre.length + (toks1 (hdT s) (toksT d (bdT s))).length, 0⟩, s2) ∧ toTT (e + 1) s2 = toTT (d + 1) s := by
  obtain ⟨hk, ha, hk1, hw, hb, hc2, hc0, hvb⟩ := vOne_all hv
  have hs : toTT (d + 1) s = TT.mk (hdT s) ((bdT s).map (toTT d)) := rfl
  rw [hs]
  obtain ⟨⟨k, word, args, count⟩, bd⟩ : SH × List (Tr d) := s
  have e1 : hdT (d := d) (⟨k, word, args, count⟩, bd) = ⟨k, word, args, count⟩ := rfl
  have e2 : bdT (d := d) (⟨k, word, args, count⟩, bd) = bd := rfl
  rw [e1, e2] at *
  have hk : 1 ≤ k ∧ k ≤ 7 := hk
  have ha : args.length = nargs k word := ha
  have hk1 : k ≠ 1 ∨ nargs k word ≠ 0 := hk1
  have hw : k = 1 ∨ word = ⟨#[]⟩ := hw
  have hb : hasB k = true ∨ bd = [] := hb
  have hc2 : k = 2 → 1 ≤ count ∧ count ≤ 9 := hc2
  have hc0 : k ≠ 2 → count = 0 := hc0
  have hn : hasB k = true → 1 + nestT d bd ≤ e := hn
  have h0 : T = pre ++ wTk (headW k word) :: ((if k = 2 then [wTk (dig count)] else []) ++ args.map wTk ++ (if k = 1 ∨ k = 6 then [pTk 2] else [pTk 3] ++ toksT d bd ++ [pTk 4]) ++ post) := by
    have h9 : T = pre ++ ((([wTk (headW k word)] ++ (if k = 2 then [wTk (dig count)] else []) ++ args.map wTk) ++ (if k = 1 ∨ k = 6 then [pTk 2] else [pTk 3] ++ toksT d bd ++ [pTk 4])) ++ post) := h
    rw [h9]
    simp only [List.append_assoc, List.cons_append, List.nil_append]
  have ht := textT_at h0
  have hkd : kindT T pre.length = 1 := kindT_at h0
  have htl : (toks1 ⟨k, word, args, count⟩ (toksT d bd)).length = 1 + (if k = 2 then 1 else 0) + args.length + (if k = 1 ∨ k = 6 then 1 else (toksT d bd).length + 2) := by
    unfold toks1
    simp only [List.length_append, List.length_map]
    split <;> split <;> simp <;> omega
  have hl1 : (pre ++ [wTk (headW k word)]).length = pre.length + 1 := by simp
  have hinner : hasB k = true → ∃ e', e = e' + 1 ∧ Back T e' ∧ nestT d bd ≤ e' := fun hB1 => by
    have := hn hB1
    exact ⟨e - 1, by omega, hB (e - 1) (by omega), by omega⟩
  have hk7 : k = 1 ∨ k = 2 ∨ k = 3 ∨ k = 6 ∨ (k = 4 ∨ k = 5 ∨ k = 7) := by omega
  rcases hk7 with rfl | rfl | rfl | rfl | hk4
  · have hbd : bd = [] := hb.resolve_left (by decide)
    have hc : count = 0 := hc0 (show (_ : Int) ≠ 2 by decide)
    subst hbd hc
    have hg : gkind word ≠ 0 := fun e => by
      rcases hk1 with h | h
      · exact h rfl
      · apply h
        show ar (gkind word) = 0
        rw [e]
        decide
    have ha : args.length = ar (gkind word) := ha
    have h1 : T = (pre ++ [wTk word]) ++ (args.map wTk ++ (pTk 2 :: post)) := by rw [h0]; simp [headW]
    have h2 : T = ((pre ++ [wTk word]) ++ args.map wTk) ++ pTk 2 :: post := by rw [h1, ← List.append_assoc]
    have n1 := namesR_at args _ h1
    have t1 := takeR_at (t := pTk 2) (c := 4) h2
    have l2 : ((pre ++ [wTk word]) ++ args.map wTk).length = pre.length + 1 + args.length := by simp; omega
    have l1 : (pre ++ [wTk word]).length = pre.length + 1 := by simp
    rw [l1] at n1
    rw [l2] at t1
    have t1 : takeR T ⟨pre.length + 1 + args.length, 0⟩ 2 4 = (⟨pre.length + 1 + args.length + 1, 0⟩, ⟨#[]⟩) := t1
    have ht : textT T pre.length = word := ht
    refine ⟨⟨hkd, by rw [ht]; exact begW_gate hg⟩, mkT ⟨1, word, args, 0⟩ [], ?_, rfl⟩
    rw [(stmtR_word ht).2.2.2.1 (kindW_gate hg), ← ha, n1]
    show ((takeR T ⟨pre.length + 1 + args.length, 0⟩ 2 4).1, mkT (d := e) ⟨1, word, args, 0⟩ []) = _
    rw [t1, htl]
    show ((⟨pre.length + 1 + args.length + 1, 0⟩ : Rs), _) = ((⟨pre.length + (1 + 0 + args.length + 1), 0⟩ : Rs), _)
    rw [show pre.length + 1 + args.length + 1 = pre.length + (1 + 0 + args.length + 1) by omega]
  · have hwe : word = ⟨#[]⟩ := hw.resolve_left (by decide)
    subst hwe
    obtain ⟨e', rfl, hb', hn'⟩ := hinner (by decide)
    have ha0 : args = [] := List.eq_nil_of_length_eq_zero (ha.trans rfl)
    subst ha0
    have hc := hc2 rfl
    have h1 : T = (pre ++ [wTk (headW 2 ⟨#[]⟩)]) ++ wTk (dig count) :: (([pTk 3] ++ toksT d bd ++ [pTk 4]) ++ post) := by rw [h0]; simp
    have h2 : T = ((pre ++ [wTk (headW 2 ⟨#[]⟩)]) ++ [wTk (dig count)]) ++ (([pTk 3] ++ toksT d bd ++ [pTk 4]) ++ post) := by rw [h1]; simp
    obtain ⟨l2, b1, b2⟩ := bodyR_at hb' hvb hn' h2
    have kd : kindT T (pre.length + 1) = 1 := by have := kindT_at h1; rwa [hl1] at this
    have kt : textT T (pre.length + 1) = dig count := by have := textT_at h1; rwa [hl1] at this
    have nr : numR T ⟨pre.length + 1, 0⟩ = (⟨pre.length + 1 + 1, 0⟩, count) := by
      unfold numR
      rw [if_pos ⟨rfl, kd⟩, kt, numW_dig (n := count) hc]
    have l2' : ((pre ++ [wTk (headW 2 ⟨#[]⟩)]) ++ [wTk (dig count)]).length = pre.length + 1 + 1 := by simp
    rw [l2'] at b1
    have kw := kindW_head (k := 2) (by decide) ⟨#[]⟩
    refine ⟨⟨hkd, by rw [ht]; exact begW_kind (by show kindW (headW 2 ⟨#[]⟩) ≠ 1; rw [kw]; decide)⟩, mkT ⟨2, ⟨#[]⟩, [], count⟩ l2, ?_, ?_⟩
    · rw [(stmtR_word ht).1 kw, nr]
      show ((bodyR T (innerR T (e' + 1)) ⟨pre.length + 1 + 1, 0⟩).1, mkT ⟨2, ⟨#[]⟩, [], count⟩ (bodyR T (innerR T (e' + 1)) ⟨pre.length + 1 + 1, 0⟩).2) = _
      rw [b1, htl]
      show ((⟨pre.length + 1 + 1 + ((toksT d bd).length + 2), 0⟩ : Rs), _) = ((⟨pre.length + (1 + 1 + 0 + ((toksT d bd).length + 2)), 0⟩ : Rs), _)
      rw [show pre.length + 1 + 1 + ((toksT d bd).length + 2) = pre.length + (1 + 1 + 0 + ((toksT d bd).length + 2)) by omega]
    · show TT.mk _ (l2.map (toTT (e' + 1))) = _
      rw [b2]
      rfl
  · have hwe : word = ⟨#[]⟩ := hw.resolve_left (by decide)
    subst hwe
    obtain ⟨e', rfl, hb', hn'⟩ := hinner (by decide)
    have ha0 : args = [] := List.eq_nil_of_length_eq_zero (ha.trans rfl)
    subst ha0
    have hc : count = 0 := hc0 (show (3 : Int) ≠ 2 by decide)
    subst hc
    have h2 : T = (pre ++ [wTk (headW 3 ⟨#[]⟩)]) ++ (([pTk 3] ++ toksT d bd ++ [pTk 4]) ++ post) := by rw [h0]; simp
    obtain ⟨l2, b1, b2⟩ := bodyR_at hb' hvb hn' h2
    rw [hl1] at b1
    have kw := kindW_head (k := 3) (by decide) ⟨#[]⟩
    refine ⟨⟨hkd, by rw [ht]; exact begW_kind (by show kindW (headW 3 ⟨#[]⟩) ≠ 1; rw [kw]; decide)⟩, mkT ⟨3, ⟨#[]⟩, [], 0⟩ l2, ?_, ?_⟩
    · rw [(stmtR_word ht).2.1 kw, b1, htl]
      show ((⟨pre.length + 1 + ((toksT d bd).length + 2), 0⟩ : Rs), _) = ((⟨pre.length + (1 + 0 + 0 + ((toksT d bd).length + 2)), 0⟩ : Rs), _)
      rw [show pre.length + 1 + ((toksT d bd).length + 2) = pre.length + (1 + 0 + 0 + ((toksT d bd).length + 2)) by omega]
    · show TT.mk _ (l2.map (toTT (e' + 1))) = _
      rw [b2]
      rfl
  · have hwe : word = ⟨#[]⟩ := hw.resolve_left (by decide)
    have hbd : bd = [] := hb.resolve_left (by decide)
    have hc : count = 0 := hc0 (show (_ : Int) ≠ 2 by decide)
    subst hwe hbd hc
    have ha2 : args.length = 2 := ha
    have h1 : T = (pre ++ [wTk (headW 6 ⟨#[]⟩)]) ++ (args.map wTk ++ (pTk 2 :: post)) := by rw [h0]; simp
    have h2 : T = ((pre ++ [wTk (headW 6 ⟨#[]⟩)]) ++ args.map wTk) ++ pTk 2 :: post := by rw [h1, ← List.append_assoc]
    have n1 := namesR_at args _ h1
    have t1 := takeR_at (t := pTk 2) (c := 4) h2
    have l2 : ((pre ++ [wTk (headW 6 ⟨#[]⟩)]) ++ args.map wTk).length = pre.length + 1 + args.length := by simp; omega
    rw [hl1, ha2] at n1
    rw [l2, ha2] at t1
    have t1 : takeR T ⟨pre.length + 1 + 2, 0⟩ 2 4 = (⟨pre.length + 1 + 2 + 1, 0⟩, ⟨#[]⟩) := t1
    have kw := kindW_head (k := 6) (by decide) ⟨#[]⟩
    refine ⟨⟨hkd, by rw [ht]; exact begW_kind (by show kindW (headW 6 ⟨#[]⟩) ≠ 1; rw [kw]; decide)⟩, mkT ⟨6, ⟨#[]⟩, args, 0⟩ [], ?_, rfl⟩
    rw [(stmtR_word ht).2.2.1 kw, n1]
    show ((takeR T ⟨pre.length + 1 + 2, 0⟩ 2 4).1, mkT (d := e) ⟨6, ⟨#[]⟩, args, 0⟩ []) = _
    rw [t1, htl, ha2]
    rfl
  · have hwe : word = ⟨#[]⟩ := hw.resolve_left (by omega)
    have hc : count = 0 := hc0 (by omega)
    subst hwe hc
    have hbk : hasB k = true := by rcases hk4 with rfl | rfl | rfl <;> decide
    obtain ⟨e', rfl, hb', hn'⟩ := hinner hbk
    have ha1 : args.length = 1 := by
      have h9 : args.length = nargs k ⟨#[]⟩ := ha
      rw [h9]
      rcases hk4 with rfl | rfl | rfl <;> rfl
    have i1 : (if k = 2 then [wTk (dig 0)] else []) = [] := if_neg (by omega)
    have i2 : (if k = 1 ∨ k = 6 then [pTk 2] else [pTk 3] ++ toksT d bd ++ [pTk 4]) = [pTk 3] ++ toksT d bd ++ [pTk 4] := if_neg (by omega)
    rw [i1, i2] at h0
    rw [if_neg (by omega), if_neg (by omega)] at htl
    have h1 : T = (pre ++ [wTk (headW k ⟨#[]⟩)]) ++ (args.map wTk ++ (([pTk 3] ++ toksT d bd ++ [pTk 4]) ++ post)) := by rw [h0]; simp
    have h2 : T = ((pre ++ [wTk (headW k ⟨#[]⟩)]) ++ args.map wTk) ++ (([pTk 3] ++ toksT d bd ++ [pTk 4]) ++ post) := by rw [h1, ← List.append_assoc]
    have n1 := namesR_at args _ h1
    obtain ⟨l2, b1, b2⟩ := bodyR_at hb' hvb hn' h2
    have l2' : ((pre ++ [wTk (headW k ⟨#[]⟩)]) ++ args.map wTk).length = pre.length + 1 + args.length := by simp; omega
    rw [hl1, ha1] at n1
    rw [l2', ha1] at b1
    have kw := kindW_head (k := k) (by omega) ⟨#[]⟩
    refine ⟨⟨hkd, by rw [ht]; exact begW_kind (by show kindW (headW k ⟨#[]⟩) ≠ 1; rw [kw]; omega)⟩, mkT ⟨k, ⟨#[]⟩, args, 0⟩ l2, ?_, ?_⟩
    · rw [(stmtR_word ht).2.2.2.2 k hk4 kw, n1]
      show ((bodyR T (innerR T (e' + 1)) ⟨pre.length + 1 + 1, 0⟩).1, mkT ⟨k, ⟨#[]⟩, args, 0⟩ (bodyR T (innerR T (e' + 1)) ⟨pre.length + 1 + 1, 0⟩).2) = _
      rw [b1, htl, ha1]
      show ((⟨pre.length + 1 + 1 + ((toksT d bd).length + 2), 0⟩ : Rs), _) = ((⟨pre.length + (1 + 0 + 1 + ((toksT d bd).length + 2)), 0⟩ : Rs), _)
      rw [show pre.length + 1 + 1 + ((toksT d bd).length + 2) = pre.length + (1 + 0 + 1 + ((toksT d bd).length + 2)) by omega]
    · show TT.mk _ (l2.map (toTT (e' + 1))) = _
      rw [b2]
      rfl
end Go.Proofs.YthkbckkghnbonaaGreatDoor
namespace Go.Proofs.YthkbckkghnbonaaGreatDoor
open Go.RowKit
set_option linter.unusedVariables false
/-- Whether two lists of statements are equal. -/
def eqTs : (d : Nat) → List (Tr d) → List (Tr d) → Bool
  | 0, _, _ => true
  | d + 1, l, l' => eqBy (fun (s s' : Tr (d + 1)) => (hdT s).k == (hdT s').k && (eqSt (hdT s).word (hdT s').word && (eqBy eqSt (hdT s).args (hdT s').args && ((hdT s).count == (hdT s').count && eqTs d (bdT s) (bdT s'))))) l l'
def eqE {d : Nat} (s s' : Tr (d + 1)) : Bool := (hdT s).k == (hdT s').k && (eqSt (hdT s).word (hdT s').word && (eqBy eqSt (hdT s).args (hdT s').args && ((hdT s).count == (hdT s').count && eqTs d (bdT s) (bdT s'))))
theorem eqTs_succ {d : Nat} (l l' : List (Tr (d + 1))) : eqTs (d + 1) l l' = eqBy eqE l l' := rfl
section
variable {d : Nat} {s s' : Tr (d + 1)}
theorem eqE_k (h : ¬ (hdT s).k = (hdT s').k) : eqE s s' = false := by simp [eqE, h]
theorem eqE_w (h : eqSt (hdT s).word (hdT s').word = false) : eqE s s' = false := by simp [eqE, h]
theorem eqE_a (h : eqBy eqSt (hdT s).args (hdT s').args = false) : eqE s s' = false := by simp [eqE, h]
theorem eqE_c (h : ¬ (hdT s).count = (hdT s').count) : eqE s s' = false := by simp [eqE, h]
theorem eqE_b (h : eqTs d (bdT s) (bdT s') = false) : eqE s s' = false := by simp [eqE, h]
theorem eqE_t (h0 : (hdT s).k = (hdT s').k) (h1 : eqSt (hdT s).word (hdT s').word = true) (h2 : eqBy eqSt (hdT s).args (hdT s').args = true) (h3 : (hdT s).count = (hdT s').count) (h4 : eqTs d (bdT s) (bdT s') = true) : eqE s s' = true := by
  simp [eqE, h0, h1, h2, h3, h4]
end
end Go.Proofs.YthkbckkghnbonaaGreatDoor
namespace Go.Proofs.YthkbckkghnbonaaGreatDoor
open Go.RowKit
set_option linter.unusedVariables false
theorem RdT.nil {w : World} {lo d : Nat} {A : Option Addr} : RdT w lo (d + 1) A 0 [] := ⟨rfl, fun h => absurd h (by omega)⟩
theorem nest_from {d : Nat} (l : List (Tr (d + 1))) : ∀ m : Nat, l.foldl (fun (m : Nat) (s : Tr (d + 1)) => if hasB (hdT s).k then max m (1 + nestT d (bdT s)) else m) m = max m (nestT (d + 1) l) := by
  induction l with
  | nil => intro m; simp [nestT]
  | cons s l ih =>
    intro m
    show l.foldl _ (if hasB (hdT s).k then max m (1 + nestT d (bdT s)) else m) = max m (l.foldl _ (if hasB (hdT s).k then max 0 (1 + nestT d (bdT s)) else 0))
    rw [ih, ih]
    split <;> omega
theorem eqTs_refl : ∀ (d : Nat) (l : List (Tr d)), eqTs d l l = true := by
  intro d
  induction d with
  | zero => intro l; rfl
  | succ d ih =>
    intro l
    rw [eqTs_succ]
    exact eqBy_refl (fun s _ => eqE_t rfl (eqSt_refl _) (eqBy_refl (fun x _ => eqSt_refl x)) rfl (ih _))
end Go.Proofs.YthkbckkghnbonaaGreatDoor
