/- The tokens of a text, by the program. -/
import Derived.Test.YtgmaokpebaebkaaTkz0
namespace Go.Proofs.Ytgmaokpebaebkaa
open Go.RowKit
set_option linter.unusedVariables false
/-- What Tokenize returns: the tokens, and whether there are some. -/
def RetTkz (r : Option (List Tk)) (w : World) (e : Ending) (w' : World) : Prop :=
  ∃ (A : Option Addr) (c : Nat) (T : List Tk), T = r.getD [] ∧ e = .returned (.tuple #[.slice A T.length c, .bool r.isSome]) ∧ Rd w' 2 A T.length (tkcs T) ∧ Below w.heap.size w w' ∧ w.heap.size ≤ w'.heap.size
theorem bytes_drop {s : ByteArray} {k : Nat} (h : k < s.size) : s.data.toList.drop k = s[k] :: s.data.toList.drop (k + 1) := by
  have hl : k < s.data.toList.length := by simpa using h
  rw [List.drop_eq_getElem_cons hl]
  simp
  rfl
theorem bytes_len (s : ByteArray) : s.data.toList.length = s.size := by simp
theorem u8_ne {a : UInt8} {n : Nat} (hn : n < 256) (h : a ≠ UInt8.ofNat n) : ((a.toNat : Int) == (n : Int)) = false := by
  rw [beq_eq_false_iff_ne]
  intro e
  apply h
  apply UInt8.toNat_inj.1
  rw [UInt8.toNat_ofNat', Nat.mod_eq_of_lt hn]
  omega
/-- Where the letters from k on end. -/
theorem word_run {s : ByteArray} {k j : Nat} (hk : k ≤ j) (hj : j ≤ s.size) (h : ∀ q (hq : q < s.size), k ≤ q → q < j → letU s[q] = true) :
    (s.data.toList.drop k).takeWhile letU = (s.data.toList.drop k).take (j - k) ++ (s.data.toList.drop j).takeWhile letU ∧ (s.data.toList.drop k).dropWhile letU = (s.data.toList.drop j).dropWhile letU := by
  have hs : s.data.toList.drop k = (s.data.toList.drop k).take (j - k) ++ s.data.toList.drop j := by
    have h1 := List.take_append_drop (j - k) (s.data.toList.drop k)
    rw [List.drop_drop, Nat.add_sub_cancel' hk] at h1
    exact h1.symm
  have ha : ((s.data.toList.drop k).take (j - k)).all letU = true := by
    rw [List.all_eq_true]
    intro x hx
    obtain ⟨i, hi⟩ := List.mem_iff_getElem?.1 hx
    have hil := (List.getElem?_eq_some_iff.1 hi).1
    rw [List.length_take, List.length_drop, bytes_len] at hil
    rw [List.getElem?_take_of_lt (by omega), List.getElem?_drop] at hi
    have hq : k + i < s.size := by omega
    have := h (k + i) hq (by omega) (by omega)
    have e : s.data.toList[k + i]? = some s[k + i] := by
      rw [List.getElem?_eq_getElem (by rw [bytes_len]; exact hq)]
      simp
      rfl
    rw [e] at hi
    injection hi with hi
    rw [← hi]
    exact this
  obtain ⟨t1, t2⟩ := takeWhile_all_append letU _ (s.data.toList.drop j) ha
  exact ⟨by rw [← t1, ← hs], by rw [← t2, ← hs]⟩
theorem extract_bytes {s : ByteArray} {k j : Nat} (hk : k ≤ j) (hj : j ≤ s.size) : (s.extract k j).data.toList = (s.data.toList.drop k).take (j - k) := by
  rw [ByteArray.data_extract, Array.toList_extract]
theorem bytes_eq {a b : ByteArray} (h : a.data.toList = b.data.toList) : a = b := by
  cases a
  cases b
  congr 1
  exact Array.toList_inj.1 h
theorem rd_lit2 {w : World} {cs : Array Value} {e n size b : Nat} (h0 : b = w.heap.size) (hs : cs.size = n * size) : Rd (w.alloc (.cells cs e)) size (some ⟨b, 0, none⟩) n cs.toList := by
  subst h0
  refine ⟨by simpa using hs, fun _ => ⟨_, 0, rfl, by simp, fun j u hu => ?_⟩⟩
  have h := heap_alloc_new w (.cells cs e)
  have hc : cs[j]? = some u := by rw [← Array.getElem?_toList]; exact hu
  rw [Nat.zero_add]
  exact cell_at h hc
/-- The word that begins at k and ends at j. -/
theorem tkz_end {s : ByteArray} {k j : Nat} (hk : k ≤ j) (hj : j ≤ s.size) (hks : k < s.size) (h : ∀ q (hq : q < s.size), k ≤ q → q < j → letU s[q] = true) (he : ∀ hq : j < s.size, letU s[j] = false) (hb : blk s[k] = false) (hm : mrk s[k] = 0) (n : Nat) :
    (wordOk (s.extract k j) = false → tkz (s.data.toList.drop k) n = none) ∧ (wordOk (s.extract k j) = true → n < 160 → tkz (s.data.toList.drop k) n = (tkz (s.data.toList.drop j) (n + 1)).map (wTk (s.extract k j) :: ·)) := by
  obtain ⟨t1, t2⟩ := word_run hk hj h
  have hx := extract_bytes hk hj
  have hsz : (s.extract k j).size = j - k := by simp; omega
  have hj2 : (s.data.toList.drop j).takeWhile letU = [] ∧ (s.data.toList.drop j).dropWhile letU = s.data.toList.drop j := by
    rcases Nat.lt_or_ge j s.size with hq | hq
    · rw [bytes_drop hq, List.takeWhile_cons_of_neg (by rw [he hq]; decide), List.dropWhile_cons_of_neg (by rw [he hq]; decide)]
      exact ⟨rfl, rfl⟩
    · rw [List.drop_of_length_le (by rw [bytes_len]; exact hq)]
      exact ⟨rfl, rfl⟩
  rw [hj2.1, List.append_nil, ← hx] at t1
  rw [hj2.2] at t2
  rw [bytes_drop hks] at t1 t2 ⊢
  cases hl : letU s[k]
  · rw [List.takeWhile_cons_of_neg (by rw [hl]; decide)] at t1
    have h0 : (s.extract k j).size = 0 := by rw [← bytes_len, ← t1]; rfl
    refine ⟨fun _ => tkz_bad hb hm (by rw [hl]; rintro ⟨a, _⟩; cases a), fun hw => ?_⟩
    have := wordOk_size hw
    omega
  · rw [List.takeWhile_cons_of_pos hl] at t1
    rw [List.dropWhile_cons_of_pos hl] at t2
    have hlen := congrArg List.length t1
    rw [List.length_cons, bytes_len, hsz] at hlen
    refine ⟨fun hw => tkz_bad hb hm ?_, fun hw hn => ?_⟩
    · rintro ⟨_, h7⟩
      have := wordOk_of (l := s[k] :: (s.data.toList.drop (k + 1)).takeWhile letU) (by rw [List.all_cons, hl, all_takeWhile]; rfl) (by simp) (by rw [List.length_cons]; omega)
      rw [show (⟨(s[k] :: (s.data.toList.drop (k + 1)).takeWhile letU).toArray⟩ : ByteArray) = s.extract k j from bytes_eq (by rw [← t1])] at this
      rw [hw] at this
      cases this
    · have h8 := (wordOk_size hw).2
      rw [tkz_word hb hn hm hl (by omega), t2, show (⟨(s[k] :: (s.data.toList.drop (k + 1)).takeWhile letU).toArray⟩ : ByteArray) = s.extract k j from bytes_eq (by rw [← t1])]
theorem blk_eq {c : UInt8} (h1 : c ≠ 32) (h2 : c ≠ 10) : blk c = false := by simp [blk, h1, h2]
theorem mrk_eq {c : UInt8} (h1 : c ≠ 59) (h2 : c ≠ 123) (h3 : c ≠ 125) : mrk c = 0 := by simp [mrk, h1, h2, h3]
theorem map_snoc {α : Type} (T : List α) (x : α) (o : Option (List α)) : (o.map (x :: ·)).map (T ++ ·) = o.map (T ++ [x] ++ ·) := by cases o <;> simp
theorem tks_step {s : ByteArray} {k j : Nat} {T : List Tk} {x : Tk} (h : tkS s = (tkz (s.data.toList.drop k) T.length).map (T ++ ·)) (hx : tkz (s.data.toList.drop k) T.length = (tkz (s.data.toList.drop j) (T.length + 1)).map (x :: ·)) : tkS s = (tkz (s.data.toList.drop j) (T ++ [x]).length).map (T ++ [x] ++ ·) := by
  rw [h, hx, map_snoc, List.length_append]
  rfl
theorem tks_none {s : ByteArray} {k : Nat} {T : List Tk} (h : tkS s = (tkz (s.data.toList.drop k) T.length).map (T ++ ·)) (hx : tkz (s.data.toList.drop k) T.length = none) : tkS s = none := by rw [h, hx]; rfl
theorem u8_eq {a : UInt8} {n : Nat} (hn : n < 256) (h : a = UInt8.ofNat n) : ((a.toNat : Int) == (n : Int)) = true := by
  subst h
  rw [UInt8.toNat_ofNat', Nat.mod_eq_of_lt hn]
  simp
set_option maxRecDepth 100000 in
set_option maxHeartbeats 8000000 in
theorem Tokenize_impl (s : ByteArray) (w : World) (hs : s.size ≤ 1099511627776) : Calls Try.prog 7 #[.string s] w (RetTkz (tkS s) w) := by
  obtain ⟨i0, hi, hz0, hz1, hz2⟩ := info_parts info_TkE
  have hE := own_empty w 54 2
  have b0 : Below w.heap.size w (w.alloc (.cells #[] 54)) := (by repeat (first | exact Below.refl _ _ | assumption | (refine Below.trans ?_ (Below.mono (by assumption) (by first | omega | (simp; done) | (simp; omega)))) | (with_reducible refine Below.drew ?_) | (with_reducible refine Below.alloc ?_ (by first | omega | (simp; done) | (simp; omega)) _) | (with_reducible refine Below.setCell ?_ (by first | omega | (simp; done) | (simp; omega)) _)))
  have HE := Lib.hid hE
  have B0 := Lib.hid b0
  clear hE b0
  go_enter Try.func7, Try.ntmps7
  go_wp2_with fail
  go_loopw [4, 5] (fun v i wr => ∃ (k : Nat) (T : List Tk), k ≤ s.size ∧ i = .int .i64 k ∧ T.length ≤ 160 ∧ Hid (wr.ownsRow w.heap.size 54 2 v T.length (tkcs T)) ∧ Hid (tkS s = (tkz (s.data.toList.drop k) T.length).map (T ++ ·)) ∧ Hid (Below w.heap.size w wr)) (fun _ i _ => s.size - (intOf i).toNat)
  case atStart => exact ⟨0, [], Nat.zero_le _, rfl, Nat.zero_le _, HE.out, Lib.hid (by rw [List.drop_zero]; unfold tkS; cases tkz s.data.toList 0 <;> rfl), B0.out⟩
  case round =>
    obtain ⟨k, T, hk, rfl, hT, hown, hd, hb⟩ := hrel
    have hbs := hb.out.size
    obtain ⟨A0, c0, rfl, _, _, r0⟩ := rd_of_own hown.out
    have HR := Lib.hid r0
    clear r0
    by_cases hlt : k < s.size
    · have HD := Lib.hid (bytes_drop hlt)
      by_cases h32 : s[k] = 32
      · have e32 : ((s[k].toNat : Int) == 32) = true := u8_eq (n := 32) (by decide) h32
        have HN := Lib.hid (show tkS s = (tkz (s.data.toList.drop (k + 1)) T.length).map (T ++ ·) by rw [hd.out, HD.out, tkz_blk (by rw [h32]; rfl)])
        clear h32
        go_wp2_with fail
        go_roundw
        case rel => exact ⟨k + 1, T, by omega, by go_num, hT, hown, HN.out, hb⟩
        case measure => simp [intOf]; omega
      have e32 : ((s[k].toNat : Int) == 32) = false := u8_ne (n := 32) (by decide) h32
      by_cases h10 : s[k] = 10
      · have e10 : ((s[k].toNat : Int) == 10) = true := u8_eq (n := 10) (by decide) h10
        have HN := Lib.hid (show tkS s = (tkz (s.data.toList.drop (k + 1)) T.length).map (T ++ ·) by rw [hd.out, HD.out, tkz_blk (by rw [h10]; rfl)])
        clear h10
        go_wp2_with fail
        go_roundw
        case rel => exact ⟨k + 1, T, by omega, by go_num, hT, hown, HN.out, hb⟩
        case measure => simp [intOf]; omega
      have e10 : ((s[k].toNat : Int) == 10) = false := u8_ne (n := 10) (by decide) h10
      have HBK := Lib.hid (blk_eq h32 h10)
      clear h32 h10
      by_cases h59 : s[k] = 59
      · have e59 : ((s[k].toNat : Int) == 59) = true := u8_eq (n := 59) (by decide) h59
        have hmm : mrk s[k] = 2 := by rw [h59]; rfl
        have HZ := Lib.hid (show T.length < 160 → tkz (s.data.toList.drop k) T.length = (tkz (s.data.toList.drop (k + 1)) (T.length + 1)).map (pTk 2 :: ·) from fun hn => by rw [HD.out, tkz_mrk HBK.out hn (by rw [hmm]; decide), hmm]; rfl)
        have HF := Lib.hid (show 160 ≤ T.length → tkz (s.data.toList.drop k) T.length = none from fun hn => by rw [HD.out, tkz_full HBK.out hn])
        clear h59 hmm
        go_wp2_with (at_builtin; refine wpList_append_rd _ rfl _ _ 25 rfl w.heap.size 54 i0 _ 2 24 Try.underlying25 hi hz0 hz1 hz2 rfl (by decide) _ _ _ rfl (hown.out.alloc _) _ 1 1 _ rfl (rd_lit2 ?c0 rfl) ?c2 ?c3 ?c4 ?c5 ?_)
        case c0 => first | rfl | simp
        case c2 => repeat' (first | rfl | apply And.intro)
        case c3 => simp only [maxLen]; omega
        case c4 => omega
        case c5 => first | omega | (simp; omega)
        intro v6 w6 own6 gr6 _
        have hb6 := (hb.out.alloc hbs _).grown gr6 (by simp; omega) (own_ge hown.out)
        obtain ⟨A6, c6, rfl, _, _, r6⟩ := rd_of_own own6
        clear r6 gr6
        have HB6 := Lib.hid hb6
        have HO6 := Lib.hid own6
        have hb6s := hb6.size
        clear hb6 own6
        by_cases hf : T.length < 160
        · have HN := Lib.hid (tks_step hd.out (HZ.out hf))
          go_wp2_with fail
          go_roundw
          case rel => exact ⟨k + 1, T ++ [pTk 2], by omega, by go_num, by rw [List.length_append]; exact hf, by rw [List.length_append, tkcs_append]; exact HO6.out, HN.out, HB6.out⟩
          case measure => simp [intOf]; omega
        · have HN := Lib.hid (tks_none hd.out (HF.out (by omega)))
          go_wp2_with fail
          go_ret2
          exact ⟨none, 0, [], by rw [HN.out]; rfl, by rw [HN.out]; exact rfl, ⟨rfl, fun h => absurd h (by decide)⟩, HB6.out, hb6s⟩
      have e59 : ((s[k].toNat : Int) == 59) = false := u8_ne (n := 59) (by decide) h59
      by_cases h123 : s[k] = 123
      · have e123 : ((s[k].toNat : Int) == 123) = true := u8_eq (n := 123) (by decide) h123
        have hmm : mrk s[k] = 3 := by rw [h123]; rfl
        have HZ := Lib.hid (show T.length < 160 → tkz (s.data.toList.drop k) T.length = (tkz (s.data.toList.drop (k + 1)) (T.length + 1)).map (pTk 3 :: ·) from fun hn => by rw [HD.out, tkz_mrk HBK.out hn (by rw [hmm]; decide), hmm]; rfl)
        have HF := Lib.hid (show 160 ≤ T.length → tkz (s.data.toList.drop k) T.length = none from fun hn => by rw [HD.out, tkz_full HBK.out hn])
        clear h123 hmm
        go_wp2_with (at_builtin; refine wpList_append_rd _ rfl _ _ 25 rfl w.heap.size 54 i0 _ 2 24 Try.underlying25 hi hz0 hz1 hz2 rfl (by decide) _ _ _ rfl (hown.out.alloc _) _ 1 1 _ rfl (rd_lit2 ?c0 rfl) ?c2 ?c3 ?c4 ?c5 ?_)
        case c0 => first | rfl | simp
        case c2 => repeat' (first | rfl | apply And.intro)
        case c3 => simp only [maxLen]; omega
        case c4 => omega
        case c5 => first | omega | (simp; omega)
        intro v6 w6 own6 gr6 _
        have hb6 := (hb.out.alloc hbs _).grown gr6 (by simp; omega) (own_ge hown.out)
        obtain ⟨A6, c6, rfl, _, _, r6⟩ := rd_of_own own6
        clear r6 gr6
        have HB6 := Lib.hid hb6
        have HO6 := Lib.hid own6
        have hb6s := hb6.size
        clear hb6 own6
        by_cases hf : T.length < 160
        · have HN := Lib.hid (tks_step hd.out (HZ.out hf))
          go_wp2_with fail
          go_roundw
          case rel => exact ⟨k + 1, T ++ [pTk 3], by omega, by go_num, by rw [List.length_append]; exact hf, by rw [List.length_append, tkcs_append]; exact HO6.out, HN.out, HB6.out⟩
          case measure => simp [intOf]; omega
        · have HN := Lib.hid (tks_none hd.out (HF.out (by omega)))
          go_wp2_with fail
          go_ret2
          exact ⟨none, 0, [], by rw [HN.out]; rfl, by rw [HN.out]; exact rfl, ⟨rfl, fun h => absurd h (by decide)⟩, HB6.out, hb6s⟩
      have e123 : ((s[k].toNat : Int) == 123) = false := u8_ne (n := 123) (by decide) h123
      by_cases h125 : s[k] = 125
      · have e125 : ((s[k].toNat : Int) == 125) = true := u8_eq (n := 125) (by decide) h125
        have hmm : mrk s[k] = 4 := by rw [h125]; rfl
        have HZ := Lib.hid (show T.length < 160 → tkz (s.data.toList.drop k) T.length = (tkz (s.data.toList.drop (k + 1)) (T.length + 1)).map (pTk 4 :: ·) from fun hn => by rw [HD.out, tkz_mrk HBK.out hn (by rw [hmm]; decide), hmm]; rfl)
        have HF := Lib.hid (show 160 ≤ T.length → tkz (s.data.toList.drop k) T.length = none from fun hn => by rw [HD.out, tkz_full HBK.out hn])
        clear h125 hmm
        go_wp2_with (at_builtin; refine wpList_append_rd _ rfl _ _ 25 rfl w.heap.size 54 i0 _ 2 24 Try.underlying25 hi hz0 hz1 hz2 rfl (by decide) _ _ _ rfl (hown.out.alloc _) _ 1 1 _ rfl (rd_lit2 ?c0 rfl) ?c2 ?c3 ?c4 ?c5 ?_)
        case c0 => first | rfl | simp
        case c2 => repeat' (first | rfl | apply And.intro)
        case c3 => simp only [maxLen]; omega
        case c4 => omega
        case c5 => first | omega | (simp; omega)
        intro v6 w6 own6 gr6 _
        have hb6 := (hb.out.alloc hbs _).grown gr6 (by simp; omega) (own_ge hown.out)
        obtain ⟨A6, c6, rfl, _, _, r6⟩ := rd_of_own own6
        clear r6 gr6
        have HB6 := Lib.hid hb6
        have HO6 := Lib.hid own6
        have hb6s := hb6.size
        clear hb6 own6
        by_cases hf : T.length < 160
        · have HN := Lib.hid (tks_step hd.out (HZ.out hf))
          go_wp2_with fail
          go_roundw
          case rel => exact ⟨k + 1, T ++ [pTk 4], by omega, by go_num, by rw [List.length_append]; exact hf, by rw [List.length_append, tkcs_append]; exact HO6.out, HN.out, HB6.out⟩
          case measure => simp [intOf]; omega
        · have HN := Lib.hid (tks_none hd.out (HF.out (by omega)))
          go_wp2_with fail
          go_ret2
          exact ⟨none, 0, [], by rw [HN.out]; rfl, by rw [HN.out]; exact rfl, ⟨rfl, fun h => absurd h (by decide)⟩, HB6.out, hb6s⟩
      have e125 : ((s[k].toNat : Int) == 125) = false := u8_ne (n := 125) (by decide) h125
      have HMK := Lib.hid (mrk_eq h59 h123 h125)
      clear h59 h123 h125
      go_wp2_with fail
      go_loop [5] (fun i => ∃ j : Nat, k ≤ j ∧ j ≤ s.size ∧ i = .int .i64 j ∧ Hid (∀ q (hq : q < s.size), k ≤ q → q < j → letU s[q] = true)) (fun i => s.size - (intOf i).toNat)
      case atStart => exact ⟨k, Nat.le_refl _, hk, rfl, fun q _ h1 h2 => absurd h1 (by omega)⟩
      case round =>
        obtain ⟨j, hkj, hj, rfl, hle⟩ := hrel
        by_cases hjl : j < s.size
        · cases hlj : ltrB (s[j].toNat : Int)
          · have HE2 := Lib.hid (tkz_end hkj hj hlt hle.out (fun _ => hlj) HBK.out HMK.out T.length)
            have hxs : (s.extract k j).size ≤ 9223372036854775807 := by simp; omega
            cases hw : wordOk (s.extract k j)
            · have HN := Lib.hid (tks_none hd.out (HE2.out.1 hw))
              go_wp2_with (first | (go_at_call 27; refine (isLetter_any _ _).mono ?_; rintro e w' ⟨rfl, rfl⟩) | (go_at_call 28; refine (IsValidWord_impl _ _ hxs).mono ?_; rintro e w' ⟨rfl, rfl⟩))
              go_ret2
              exact ⟨none, 0, [], by rw [HN.out]; rfl, by rw [HN.out]; exact rfl, ⟨rfl, fun h => absurd h (by decide)⟩, hb.out, hbs⟩
            · have HZ := Lib.hid (HE2.out.2 hw)
              have HF := Lib.hid (show 160 ≤ T.length → tkz (s.data.toList.drop k) T.length = none from fun hn => by rw [HD.out, tkz_full HBK.out hn])
              have hkj1 : k < j := by have := (wordOk_size hw).1; have e : (s.extract k j).size ≤ j - k := (by simp; omega); omega
              go_wp2_with (first | (go_at_call 27; refine (isLetter_any _ _).mono ?_; rintro e w' ⟨rfl, rfl⟩) | (go_at_call 28; refine (IsValidWord_impl _ _ hxs).mono ?_; rintro e w' ⟨rfl, rfl⟩) | (at_builtin; refine wpList_append_rd _ rfl _ _ 25 rfl w.heap.size 54 i0 _ 2 24 Try.underlying25 hi hz0 hz1 hz2 rfl (by decide) _ _ _ rfl (hown.out.alloc _) _ 1 1 _ rfl (rd_lit2 ?c0 rfl) ?c2 ?c3 ?c4 ?c5 ?_))
              case c0 => first | rfl | simp
              case c2 => repeat' (first | rfl | apply And.intro)
              case c3 => simp only [maxLen]; omega
              case c4 => omega
              case c5 => first | omega | (simp; omega)
              intro v6 w6 own6 gr6 _
              have hb6 := (hb.out.alloc hbs _).grown gr6 (by simp; omega) (own_ge hown.out)
              obtain ⟨A6, c6, rfl, _, _, r6⟩ := rd_of_own own6
              clear r6 gr6
              have HB6 := Lib.hid hb6
              have HO6 := Lib.hid own6
              have hb6s := hb6.size
              clear hb6 own6
              by_cases hf : T.length < 160
              · have HN := Lib.hid (tks_step hd.out (HZ.out hf))
                go_wp2_with fail
                go_roundw
                case rel => exact ⟨j, T ++ [wTk (s.extract k j)], by omega, by go_num, by rw [List.length_append]; exact hf, by rw [List.length_append, tkcs_append]; exact HO6.out, HN.out, HB6.out⟩
                case measure => simp [intOf]; omega
              · have HN := Lib.hid (tks_none hd.out (HF.out (by omega)))
                go_wp2_with fail
                go_ret2
                exact ⟨none, 0, [], by rw [HN.out]; rfl, by rw [HN.out]; exact rfl, ⟨rfl, fun h => absurd h (by decide)⟩, HB6.out, hb6s⟩
          · have HS := Lib.hid (show ∀ q (hq : q < s.size), k ≤ q → q < j + 1 → letU s[q] = true from fun q hq h1 h2 => by
              rcases Nat.lt_or_ge q j with h3 | h3
              · exact hle.out q hq h1 h3
              · obtain rfl : q = j := by omega
                exact hlj)
            go_wp2_with (go_at_call 27; refine (isLetter_any _ _).mono ?_; rintro e w' ⟨rfl, rfl⟩)
            go_round
            case rel => exact ⟨j + 1, by omega, by omega, by go_num, HS.out⟩
            case measure => simp [intOf]; omega
        · have HE2 := Lib.hid (tkz_end hkj hj hlt hle.out (fun h => absurd h hjl) HBK.out HMK.out T.length)
          have hxs : (s.extract k j).size ≤ 9223372036854775807 := by simp; omega
          cases hw : wordOk (s.extract k j)
          · have HN := Lib.hid (tks_none hd.out (HE2.out.1 hw))
            go_wp2_with (go_at_call 28; refine (IsValidWord_impl _ _ hxs).mono ?_; rintro e w' ⟨rfl, rfl⟩)
            go_ret2
            exact ⟨none, 0, [], by rw [HN.out]; rfl, by rw [HN.out]; exact rfl, ⟨rfl, fun h => absurd h (by decide)⟩, hb.out, hbs⟩
          · have HZ := Lib.hid (HE2.out.2 hw)
            have HF := Lib.hid (show 160 ≤ T.length → tkz (s.data.toList.drop k) T.length = none from fun hn => by rw [HD.out, tkz_full HBK.out hn])
            have hkj1 : k < j := by have := (wordOk_size hw).1; have e : (s.extract k j).size ≤ j - k := (by simp; omega); omega
            go_wp2_with (first | (go_at_call 28; refine (IsValidWord_impl _ _ hxs).mono ?_; rintro e w' ⟨rfl, rfl⟩) | (at_builtin; refine wpList_append_rd _ rfl _ _ 25 rfl w.heap.size 54 i0 _ 2 24 Try.underlying25 hi hz0 hz1 hz2 rfl (by decide) _ _ _ rfl (hown.out.alloc _) _ 1 1 _ rfl (rd_lit2 ?c0 rfl) ?c2 ?c3 ?c4 ?c5 ?_))
            case c0 => first | rfl | simp
            case c2 => repeat' (first | rfl | apply And.intro)
            case c3 => simp only [maxLen]; omega
            case c4 => omega
            case c5 => first | omega | (simp; omega)
            intro v6 w6 own6 gr6 _
            have hb6 := (hb.out.alloc hbs _).grown gr6 (by simp; omega) (own_ge hown.out)
            obtain ⟨A6, c6, rfl, _, _, r6⟩ := rd_of_own own6
            clear r6 gr6
            have HB6 := Lib.hid hb6
            have HO6 := Lib.hid own6
            have hb6s := hb6.size
            clear hb6 own6
            by_cases hf : T.length < 160
            · have HN := Lib.hid (tks_step hd.out (HZ.out hf))
              go_wp2_with fail
              go_roundw
              case rel => exact ⟨j, T ++ [wTk (s.extract k j)], by omega, by go_num, by rw [List.length_append]; exact hf, by rw [List.length_append, tkcs_append]; exact HO6.out, HN.out, HB6.out⟩
              case measure => simp [intOf]; omega
            · have HN := Lib.hid (tks_none hd.out (HF.out (by omega)))
              go_wp2_with fail
              go_ret2
              exact ⟨none, 0, [], by rw [HN.out]; rfl, by rw [HN.out]; exact rfl, ⟨rfl, fun h => absurd h (by decide)⟩, HB6.out, hb6s⟩
    · obtain rfl : k = s.size := by omega
      have HF := Lib.hid (show tkS s = some T by
        rw [hd.out, List.drop_of_length_le (by rw [bytes_len]; exact Nat.le_refl _), tkz_nil]
        simp)
      go_wp2_with fail
      go_ret2
      exact ⟨A0, c0, T, by rw [HF.out]; rfl, by rw [HF.out]; exact rfl, HR.out, hb.out, hbs⟩
end Go.Proofs.Ytgmaokpebaebkaa
