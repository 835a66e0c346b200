/- The tokens of a text, by the reference. -/
import Derived.Test.YtgmaokpebaebkaaTkI
import Derived.Lib.Strings
namespace Go.Proofs.Ytgmaokpebaebkaa
open Go.RowKit
set_option linter.unusedVariables false
theorem cells2 {w w' : World} {b : Nat} {x0 x1 : Value} {t : TypeId} (lay : Below w'.heap.size w' w) (h : w'.heap[b]? = some (.cells #[x0, x1] t (0, 0))) :
    w.cell? ⟨b, 0, none⟩ = some x0 ∧ w.cell? ⟨b, 1, none⟩ = some x1 := by
  have h' : w.heap[b]? = some (.cells #[x0, x1] t (0, 0)) := (lay.block b (lt_of_block h)).trans h
  exact ⟨by simp [World.cell?, h'], by simp [World.cell?, h']⟩
theorem isEmpty_size {s : ByteArray} (h : 1 ≤ s.size) : s.toList.isEmpty = false := by
  rw [List.isEmpty_eq_false_iff]
  intro e
  rw [Lib.toList_data] at e
  have := bytes_len s
  rw [e] at this
  simp at this
  omega
theorem fmtT_bad {s : ByteArray} (h : wordOk s = false) : fmtT 1 s = ⟨#[]⟩ := by
  by_cases he : s.toList = []
  · exact (fmtT_e (Or.inr h) he).trans (show symT 1 = ⟨#[]⟩ from rfl)
  · exact fmtT_n (Or.inr h) he
theorem fmtT_mark {k : Nat} (h : k = 2 ∨ k = 3 ∨ k = 4) : 1 ≤ (fmtT k ⟨#[]⟩).size := by
  rw [fmtT_e (Or.inl (by omega)) nil_toList]
  rcases h with rfl | rfl | rfl <;> exact Nat.le_refl _
set_option maxRecDepth 100000 in
set_option maxHeartbeats 2000000 in
theorem l16Mark_any (c : UInt8) (w : World) : Calls Try.prog 29 #[.int .u8 c.toNat] w fun e w' => e = .returned (.int .i64 (mrk c)) ∧ w = w' := by
  by_cases h59 : c = 59
  · subst h59
    go_enter Try.func29, Try.ntmps29
    go_wp2
    go_ret
    exact ⟨rfl, rfl⟩
  · have e59 : ((c.toNat : Int) == 59) = false := u8_ne (n := 59) (by decide) h59
    by_cases h123 : c = 123
    · subst h123
      clear e59 h59
      go_enter Try.func29, Try.ntmps29
      go_wp2
      go_ret
      exact ⟨rfl, rfl⟩
    · have e123 : ((c.toNat : Int) == 123) = false := u8_ne (n := 123) (by decide) h123
      by_cases h125 : c = 125
      · subst h125
        clear e59 h59 e123 h123
        go_enter Try.func29, Try.ntmps29
        go_wp2
        go_ret
        exact ⟨rfl, rfl⟩
      · have e125 : ((c.toNat : Int) == 125) = false := u8_ne (n := 125) (by decide) h125
        rw [mrk_eq h59 h123 h125]
        clear h59 h123 h125
        go_enter Try.func29, Try.ntmps29
        go_wp2
        go_ret
        exact ⟨rfl, rfl⟩
set_option maxRecDepth 100000 in
set_option maxHeartbeats 8000000 in
theorem Tokenize_spec (s : ByteArray) (w : World) (hs : s.size ≤ 1099511627776) : Calls Try.prog 8 #[.string s] w (RetTkz (tkS s) w) := by
  obtain ⟨i0, hi, hz0, hz1, hz2⟩ := info_parts info_TkE
  have hE := own_empty w 54 2
  have b0 : Below w.heap.size w (w.alloc (.cells #[] 54)) := (by repeat (first | exact Below.refl _ _ | assumption | (refine Below.trans ?_ (Below.mono (by assumption) (by first | omega | (simp; done) | (simp; omega)))) | (with_reducible refine Below.drew ?_) | (with_reducible refine Below.alloc ?_ (by first | omega | (simp; done) | (simp; omega)) _) | (with_reducible refine Below.setCell ?_ (by first | omega | (simp; done) | (simp; omega)) _)))
  have HE := Lib.hid hE
  have B0 := Lib.hid b0
  clear hE b0
  go_enter Try.func8, Try.ntmps8
  go_wp2_with fail
  go_loopw [4, 5] (fun v i wr => ∃ (k : Nat) (T : List Tk), k ≤ s.size ∧ i = .int .i64 k ∧ T.length ≤ 160 ∧ Hid (wr.ownsRow w.heap.size 54 2 v T.length (tkcs T)) ∧ Hid (tkS s = (tkz (s.data.toList.drop k) T.length).map (T ++ ·)) ∧ Hid (Below w.heap.size w wr)) (fun _ i _ => s.size - (intOf i).toNat)
  case atStart => exact ⟨0, [], Nat.zero_le _, rfl, Nat.zero_le _, HE.out, Lib.hid (by rw [List.drop_zero]; unfold tkS; cases tkz s.data.toList 0 <;> rfl), B0.out⟩
  case round =>
    obtain ⟨k, T, hk, rfl, hT, hown, hd, hb⟩ := hrel
    have hbs := hb.out.size
    obtain ⟨A0, c0, rfl, _, _, r0⟩ := rd_of_own hown.out
    have HR := Lib.hid r0
    clear r0
    by_cases hlt : k < s.size
    · have HD := Lib.hid (bytes_drop hlt)
      by_cases h32 : s[k] = 32
      · have e32 : ((s[k].toNat : Int) == 32) = true := u8_eq (n := 32) (by decide) h32
        have HN := Lib.hid (show tkS s = (tkz (s.data.toList.drop (k + 1)) T.length).map (T ++ ·) by rw [hd.out, HD.out, tkz_blk (by rw [h32]; rfl)])
        clear h32
        go_wp2_with fail
        go_roundw
        case rel => exact ⟨k + 1, T, by omega, by go_num, hT, hown, HN.out, hb⟩
        case measure => simp [intOf]; omega
      have e32 : ((s[k].toNat : Int) == 32) = false := u8_ne (n := 32) (by decide) h32
      by_cases h10 : s[k] = 10
      · have e10 : ((s[k].toNat : Int) == 10) = true := u8_eq (n := 10) (by decide) h10
        have HN := Lib.hid (show tkS s = (tkz (s.data.toList.drop (k + 1)) T.length).map (T ++ ·) by rw [hd.out, HD.out, tkz_blk (by rw [h10]; rfl)])
        clear h10
        go_wp2_with fail
        go_roundw
        case rel => exact ⟨k + 1, T, by omega, by go_num, hT, hown, HN.out, hb⟩
        case measure => simp [intOf]; omega
      have e10 : ((s[k].toNat : Int) == 10) = false := u8_ne (n := 10) (by decide) h10
      have HBK := Lib.hid (blk_eq h32 h10)
      clear h32 h10
      have HF := Lib.hid (show 160 ≤ T.length → tkz (s.data.toList.drop k) T.length = none from fun hn => by rw [HD.out, tkz_full HBK.out hn])
      by_cases hm : mrk s[k] = 0
      · have HMK := Lib.hid hm
        go_wp2_with (go_at_call 29; refine (l16Mark_any _ _).mono ?_; rintro e w' ⟨rfl, rfl⟩; rw [HMK.out])
        go_loop [7] (fun i => ∃ j : Nat, k ≤ j ∧ j ≤ s.size ∧ i = .int .i64 j ∧ Hid (∀ q (hq : q < s.size), k ≤ q → q < j → letU s[q] = true)) (fun i => s.size - (intOf i).toNat)
        case atStart => exact ⟨k, Nat.le_refl _, hk, rfl, fun q _ h1 h2 => absurd h1 (by omega)⟩
        case round =>
          obtain ⟨j, hkj, hj, rfl, hle⟩ := hrel
          by_cases hjl : j < s.size
          · cases hlj : ltrB (s[j].toNat : Int)
            · have HE2 := Lib.hid (tkz_end hkj hj hlt hle.out (fun _ => hlj) HBK.out HMK.out T.length)
              have hxs : (s.extract k j).size ≤ 9223372036854775807 := by simp; omega
              cases hw : wordOk (s.extract k j)
              · have HN := Lib.hid (tks_none hd.out (HE2.out.1 hw))
                have HFW := Lib.hid (fmtT_bad hw)
                go_wp2_with (go_at_call 30; refine (l16Letter_any _ _).mono ?_; rintro e w' ⟨rfl, rfl⟩)
                refine (FormatToken_spec _ _ _ hxs).mono ?_
                rintro e w1 ⟨rfl, b1, s1⟩
                rw [HFW.out]
                have b2 : Below wr.heap.size wr w1 := ((Below.refl _ _).alloc (Nat.le_refl _) _).trans (b1.mono (by simp))
                have hb1 := hb.out.trans (b2.mono hbs)
                have hb1s := hb1.size
                have HB1 := Lib.hid hb1
                clear b1 s1 b2 hb1
                go_wp2_with fail
                go_ret2
                exact ⟨_, _, [], by rw [HN.out]; rfl, by rw [HN.out]; exact rfl, ⟨rfl, fun h => absurd h (by decide)⟩, HB1.out.alloc hb1s _, by simp; omega⟩
              · have HZ := Lib.hid (HE2.out.2 hw)
                have HFW := Lib.hid (fmtT_w hw)
                have hwz := wordOk_size hw
                have hkj1 : k < j := by have e : (s.extract k j).size ≤ j - k := by simp; omega
                                        omega
                obtain ⟨f, hf0⟩ : ∃ f, f = s.extract k j := ⟨_, rfl⟩
                have hfe : f.toList.isEmpty = false := by rw [hf0]; exact isEmpty_size hwz.1
                have HFF := Lib.hid hf0
                clear hwz hf0 hw HE2
                go_wp2_with (go_at_call 30; refine (l16Letter_any _ _).mono ?_; rintro e w' ⟨rfl, rfl⟩)
                refine (FormatToken_spec _ _ _ hxs).mono ?_
                rintro e w1 ⟨rfl, b1, s1⟩
                rw [HFW.out, ← HFF.out]
                obtain ⟨p0, p1⟩ := cells2 (lay := b1) (boxed1_0 _ _)
                have b2 : Below wr.heap.size wr w1 := ((Below.refl _ _).alloc (Nat.le_refl _) _).trans (b1.mono (by simp))
                have zl : wr.heap.size < w1.heap.size := by simp at s1; omega
                clear b1 s1
                have hown1 := ownsRow_below hown.out b2
                have hb1 := hb.out.trans (b2.mono hbs)
                have hb1s := hb1.size
                have HB1 := Lib.hid hb1
                clear hb1
                by_cases hf : T.length = 160
                · have e160 : ((T.length : Int) == 160) = true := by simp [hf]
                  have HN := Lib.hid (tks_none hd.out (HF.out (by omega)))
                  clear hf
                  go_wp2_with fail
                  go_ret2
                  exact ⟨_, _, [], by rw [HN.out]; rfl, by rw [HN.out]; exact rfl, ⟨rfl, fun h => absurd h (by decide)⟩, HB1.out.alloc hb1s _, by simp; omega⟩
                · have e160 : ((T.length : Int) == 160) = false := by simp; omega
                  have HN := Lib.hid (tks_step hd.out (HZ.out (by omega)))
                  go_wp2_with (at_builtin; refine wpList_append_rd _ rfl _ _ 25 rfl w.heap.size 54 i0 _ 2 24 Try.underlying25 hi hz0 hz1 hz2 rfl (by decide) _ _ _ rfl (hown1.alloc _) _ 1 1 _ rfl (rd_lit2 ?c0 rfl) ?c2 ?c3 ?c4 ?c5 ?_)
                  case c0 => first | rfl | simp
                  case c2 => repeat' (first | rfl | apply And.intro)
                  case c3 => simp only [maxLen]; omega
                  case c4 => omega
                  case c5 => first | omega | (simp; omega)
                  intro v6 w6 own6 gr6 _
                  have hb6 := (HB1.out.alloc hb1s _).grown gr6 (by simp; omega) (own_ge hown1)
                  have HB6 := Lib.hid hb6
                  have HO6 := Lib.hid own6
                  clear gr6 hb6 own6
                  go_wp2_with fail
                  go_roundw
                  case rel => exact ⟨j, T ++ [wTk (s.extract k j)], by omega, by go_num, by rw [List.length_append]; show T.length + 1 ≤ 160; omega, by rw [List.length_append, tkcs_append]; exact HO6.out, HN.out, HB6.out⟩
                  case measure => simp [intOf]; omega
            · have HS := Lib.hid (show ∀ q (hq : q < s.size), k ≤ q → q < j + 1 → letU s[q] = true from fun q hq h1 h2 => by
                rcases Nat.lt_or_ge q j with h3 | h3
                · exact hle.out q hq h1 h3
                · obtain rfl : q = j := by omega
                  exact hlj)
              go_wp2_with (go_at_call 30; refine (l16Letter_any _ _).mono ?_; rintro e w' ⟨rfl, rfl⟩)
              go_round
              case rel => exact ⟨j + 1, by omega, by omega, by go_num, HS.out⟩
              case measure => simp [intOf]; omega
          · have HE2 := Lib.hid (tkz_end hkj hj hlt hle.out (fun h => absurd h hjl) HBK.out HMK.out T.length)
            have hxs : (s.extract k j).size ≤ 9223372036854775807 := by simp; omega
            cases hw : wordOk (s.extract k j)
            · have HN := Lib.hid (tks_none hd.out (HE2.out.1 hw))
              have HFW := Lib.hid (fmtT_bad hw)
              go_wp2_with fail
              refine (FormatToken_spec _ _ _ hxs).mono ?_
              rintro e w1 ⟨rfl, b1, s1⟩
              rw [HFW.out]
              have b2 : Below wr.heap.size wr w1 := ((Below.refl _ _).alloc (Nat.le_refl _) _).trans (b1.mono (by simp))
              have hb1 := hb.out.trans (b2.mono hbs)
              have hb1s := hb1.size
              have HB1 := Lib.hid hb1
              clear b1 s1 b2 hb1
              go_wp2_with fail
              go_ret2
              exact ⟨_, _, [], by rw [HN.out]; rfl, by rw [HN.out]; exact rfl, ⟨rfl, fun h => absurd h (by decide)⟩, HB1.out.alloc hb1s _, by simp; omega⟩
            · have HZ := Lib.hid (HE2.out.2 hw)
              have HFW := Lib.hid (fmtT_w hw)
              have hwz := wordOk_size hw
              have hkj1 : k < j := by have e : (s.extract k j).size ≤ j - k := by simp; omega
                                      omega
              obtain ⟨f, hf0⟩ : ∃ f, f = s.extract k j := ⟨_, rfl⟩
              have hfe : f.toList.isEmpty = false := by rw [hf0]; exact isEmpty_size hwz.1
              have HFF := Lib.hid hf0
              clear hwz hf0 hw HE2
              go_wp2_with fail
              refine (FormatToken_spec _ _ _ hxs).mono ?_
              rintro e w1 ⟨rfl, b1, s1⟩
              rw [HFW.out, ← HFF.out]
              obtain ⟨p0, p1⟩ := cells2 (lay := b1) (boxed1_0 _ _)
              have b2 : Below wr.heap.size wr w1 := ((Below.refl _ _).alloc (Nat.le_refl _) _).trans (b1.mono (by simp))
              have zl : wr.heap.size < w1.heap.size := by simp at s1; omega
              clear b1 s1
              have hown1 := ownsRow_below hown.out b2
              have hb1 := hb.out.trans (b2.mono hbs)
              have hb1s := hb1.size
              have HB1 := Lib.hid hb1
              clear hb1
              by_cases hf : T.length = 160
              · have e160 : ((T.length : Int) == 160) = true := by simp [hf]
                have HN := Lib.hid (tks_none hd.out (HF.out (by omega)))
                clear hf
                go_wp2_with fail
                go_ret2
                exact ⟨_, _, [], by rw [HN.out]; rfl, by rw [HN.out]; exact rfl, ⟨rfl, fun h => absurd h (by decide)⟩, HB1.out.alloc hb1s _, by simp; omega⟩
              · have e160 : ((T.length : Int) == 160) = false := by simp; omega
                have HN := Lib.hid (tks_step hd.out (HZ.out (by omega)))
                go_wp2_with (at_builtin; refine wpList_append_rd _ rfl _ _ 25 rfl w.heap.size 54 i0 _ 2 24 Try.underlying25 hi hz0 hz1 hz2 rfl (by decide) _ _ _ rfl (hown1.alloc _) _ 1 1 _ rfl (rd_lit2 ?c0 rfl) ?c2 ?c3 ?c4 ?c5 ?_)
                case c0 => first | rfl | simp
                case c2 => repeat' (first | rfl | apply And.intro)
                case c3 => simp only [maxLen]; omega
                case c4 => omega
                case c5 => first | omega | (simp; omega)
                intro v6 w6 own6 gr6 _
                have hb6 := (HB1.out.alloc hb1s _).grown gr6 (by simp; omega) (own_ge hown1)
                have HB6 := Lib.hid hb6
                have HO6 := Lib.hid own6
                clear gr6 hb6 own6
                go_wp2_with fail
                go_roundw
                case rel => exact ⟨j, T ++ [wTk (s.extract k j)], by omega, by go_num, by rw [List.length_append]; show T.length + 1 ≤ 160; omega, by rw [List.length_append, tkcs_append]; exact HO6.out, HN.out, HB6.out⟩
                case measure => simp [intOf]; omega
      · obtain ⟨m, hm0⟩ : ∃ m, m = mrk s[k] := ⟨_, rfl⟩
        have HM := Lib.hid hm0
        have hm3 := mrk_cases s[k]
        rw [← hm0] at hm hm3
        have hm2 : m = 2 ∨ m = 3 ∨ m = 4 := by omega
        have HZ := Lib.hid (show T.length < 160 → tkz (s.data.toList.drop k) T.length = (tkz (s.data.toList.drop (k + 1)) (T.length + 1)).map (pTk m :: ·) from fun hn => by rw [HD.out, hm0, tkz_mrk HBK.out hn (by rw [← hm0]; exact hm)])
        have em : ((m : Int) == 0) = false := by simp; omega
        obtain ⟨f, hf0⟩ : ∃ f, f = fmtT m ⟨#[]⟩ := ⟨_, rfl⟩
        have hfe : f.toList.isEmpty = false := by rw [hf0]; exact isEmpty_size (fmtT_mark hm2)
        have HFF := Lib.hid hf0
        clear hm hm3 hm2 hm0 hf0
        go_wp2_with (first | (go_at_call 29; refine (l16Mark_any _ _).mono ?_; rintro e w' ⟨rfl, rfl⟩; rw [← HM.out]))
        refine (FormatToken_spec _ _ _ (by decide)).mono ?_
        rintro e w1 ⟨rfl, b1, s1⟩
        rw [← HFF.out]
        obtain ⟨p0, p1⟩ := cells2 (lay := b1) (boxed1_0 _ _)
        have b2 : Below wr.heap.size wr w1 := ((Below.refl _ _).alloc (Nat.le_refl _) _).trans (b1.mono (by simp))
        have zl : wr.heap.size < w1.heap.size := by simp at s1; omega
        clear b1 s1
        have hown1 := ownsRow_below hown.out b2
        have hb1 := hb.out.trans (b2.mono hbs)
        have hb1s := hb1.size
        have HB1 := Lib.hid hb1
        clear hb1
        by_cases hf : T.length = 160
        · have e160 : ((T.length : Int) == 160) = true := by simp [hf]
          have HN := Lib.hid (tks_none hd.out (HF.out (by omega)))
          clear hf
          go_wp2_with fail
          go_ret2
          exact ⟨_, _, [], by rw [HN.out]; rfl, by rw [HN.out]; exact rfl, ⟨rfl, fun h => absurd h (by decide)⟩, HB1.out.alloc hb1s _, by simp; omega⟩
        · have e160 : ((T.length : Int) == 160) = false := by simp; omega
          have HN := Lib.hid (tks_step hd.out (HZ.out (by omega)))
          go_wp2_with (at_builtin; refine wpList_append_rd _ rfl _ _ 25 rfl w.heap.size 54 i0 _ 2 24 Try.underlying25 hi hz0 hz1 hz2 rfl (by decide) _ _ _ rfl (hown1.alloc _) _ 1 1 _ rfl (rd_lit2 ?c0 rfl) ?c2 ?c3 ?c4 ?c5 ?_)
          case c0 => first | rfl | simp
          case c2 => repeat' (first | rfl | apply And.intro)
          case c3 => simp only [maxLen]; omega
          case c4 => omega
          case c5 => first | omega | (simp; omega)
          intro v6 w6 own6 gr6 _
          have hb6 := (HB1.out.alloc hb1s _).grown gr6 (by simp; omega) (own_ge hown1)
          have HB6 := Lib.hid hb6
          have HO6 := Lib.hid own6
          clear gr6 hb6 own6
          go_wp2_with fail
          go_roundw
          case rel => exact ⟨k + 1, T ++ [pTk m], by omega, by go_num, by rw [List.length_append]; show T.length + 1 ≤ 160; omega, by rw [List.length_append, tkcs_append]; exact HO6.out, HN.out, HB6.out⟩
          case measure => simp [intOf]; omega
    · obtain rfl : k = s.size := by omega
      have HF := Lib.hid (show tkS s = some T by
        rw [hd.out, List.drop_of_length_le (by rw [bytes_len]; exact Nat.le_refl _), tkz_nil]
        simp)
      go_wp2_with fail
      go_ret2
      exact ⟨A0, c0, T, by rw [HF.out]; rfl, by rw [HF.out]; exact rfl, HR.out, hb.out, hbs⟩
end Go.Proofs.Ytgmaokpebaebkaa
