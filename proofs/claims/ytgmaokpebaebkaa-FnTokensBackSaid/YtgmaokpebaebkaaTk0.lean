/- Tokens as text, both sides. -/
import Derived.Test.YtgmaokpebaebkaaWord
import Derived.Test.YtgmaokpebaebkaaAppend
namespace Go.Proofs.Ytgmaokpebaebkaa
open Go.RowKit
set_option linter.unusedVariables false
/-- A token as plain data. -/
structure Tk where
  k : Int
  s : ByteArray
def tkc (t : Tk) : List Value := [.int .i64 t.k, .string t.s]
def tkcs (l : List Tk) : List Value := l.flatMap tkc
theorem tkc_len (t : Tk) : (tkc t).length = 2 := rfl
theorem tkcs_len (l : List Tk) : (tkcs l).length = l.length * 2 := by
  induction l with
  | nil => rfl
  | cons x l ih => rw [tkcs, List.flatMap_cons, List.length_append, tkc_len, ← tkcs, ih, List.length_cons]; omega
theorem tkcs_append (l l' : List Tk) : tkcs (l ++ l') = tkcs l ++ tkcs l' := List.flatMap_append
theorem tkcs_one (t : Tk) : tkcs [t] = [.int .i64 t.k, .string t.s] := rfl
theorem tkc_ones (l : List Tk) : ∀ u ∈ tkcs l, u.oneCell' = true := by
  intro u hu
  obtain ⟨t, _, ht⟩ := List.mem_flatMap.1 hu
  simp only [tkc, List.mem_cons, List.not_mem_nil, or_false] at ht
  rcases ht with rfl | rfl <;> rfl
def wTk (s : ByteArray) : Tk := ⟨1, s⟩
def pTk (k : Int) : Tk := ⟨k, ⟨#[]⟩⟩
theorem info_TkE : (Try.prog.info? 54).map (fun i => (i.zero, i.size, i.bytes)) = some (some (.agg #[.int .i64 0, .string ⟨#[]⟩]), 2, 24) := by kernel_rfl
theorem tkcs_at {l : List Tk} {t : Nat} {x : Tk} (h : l[t]? = some x) : (tkcs l)[t * 2]? = some (.int .i64 x.k) ∧ (tkcs l)[t * 2 + 1]? = some (.string x.s) :=
  ⟨flat_at tkc_len l t x 0 h (by decide), flat_at tkc_len l t x 1 h (by decide)⟩
theorem rd_tk {w : World} {A : Option Addr} {n t : Nat} {l : List Tk} {x : Tk} (h : Rd w 2 A n (tkcs l)) (hl : l.length = n) (hx : l[t]? = some x) : ∃ b off, A = some ⟨b, off, none⟩ ∧ b < w.heap.size ∧ w.cell? ⟨b, off + t * 2, none⟩ = some (.int .i64 x.k) ∧ w.cell? ⟨b, off + t * 2 + 1, none⟩ = some (.string x.s) := by
  have hlt := (List.getElem?_eq_some_iff.1 hx).1
  obtain ⟨b, off, e, hb, hc⟩ := h.2 (by omega)
  exact ⟨b, off, e, hb, hc _ _ (tkcs_at hx).1, hc _ _ (tkcs_at hx).2⟩
theorem below_undrew3 {w w' : World} (h : Below w.drew.heap.size w.drew w') : Below w.heap.size w w' := ⟨h.os, h.tape, h.output, h.size, h.block⟩

def symT (k : Int) : ByteArray := if k = 2 then ⟨#[59]⟩ else if k = 3 then ⟨#[123]⟩ else if k = 4 then ⟨#[125]⟩ else ⟨#[]⟩
/-- The text of a token. -/
def fmtT (k : Int) (s : ByteArray) : ByteArray := if k = 1 ∧ wordOk s = true then s else if s.toList = [] then symT k else ⟨#[]⟩
theorem wordOk_size {s : ByteArray} (h : wordOk s = true) : 1 ≤ s.size ∧ s.size ≤ 8 := by
  unfold wordOk at h
  simp only [Bool.and_eq_true] at h
  have := inB_iff.1 h.2
  omega
theorem symT_size (k : Int) : (symT k).size ≤ 1 := by
  unfold symT
  split
  · exact Nat.le_refl _
  · split
    · exact Nat.le_refl _
    · split
      · exact Nat.le_refl _
      · exact Nat.zero_le _
theorem fmtT_size (k : Int) (s : ByteArray) : (fmtT k s).size ≤ 8 := by
  unfold fmtT
  split
  · rename_i h; exact (wordOk_size h.2).2
  · split
    · have := symT_size k; omega
    · exact Nat.zero_le _
theorem fmtT_w {s : ByteArray} (h : wordOk s = true) : fmtT 1 s = s := if_pos ⟨rfl, h⟩
theorem fmtT_e {k : Int} {s : ByteArray} (h : k ≠ 1 ∨ wordOk s = false) (hs : s.toList = []) : fmtT k s = symT k := by
  rw [fmtT, if_neg (by rcases h with h | h <;> simp [h]), if_pos hs]
theorem fmtT_n {k : Int} {s : ByteArray} (h : k ≠ 1 ∨ wordOk s = false) (hs : s.toList ≠ []) : fmtT k s = ⟨#[]⟩ := by
  rw [fmtT, if_neg (by rcases h with h | h <;> simp [h]), if_neg hs]
set_option maxRecDepth 100000 in
set_option maxHeartbeats 2000000 in
theorem FormatToken_impl (k : Int) (s : ByteArray) (w : World) (hs : s.size ≤ 9223372036854775807) : Calls Try.prog 32 #[.agg #[.int .i64 k, .string s]] w fun e w' => e = .returned (.string (fmtT k s)) ∧ Below w.heap.size w w' ∧ w.heap.size ≤ w'.heap.size := by
  by_cases h1 : k = 1
  · subst h1
    cases hw : wordOk s
    · by_cases he : s.toList = []
      · have HF := Lib.hid ((fmtT_e (k := 1) (Or.inr hw) he).trans (show symT 1 = ⟨#[]⟩ from rfl))
        have e2 : s.toList.isEmpty = true := by simp [he]
        clear he
        go_enter Try.func32, Try.ntmps32
        go_wp2_with (go_at_call 28; refine (IsValidWord_impl _ _ hs).mono ?_; rintro e w' ⟨rfl, rfl⟩)
        go_ret
        exact ⟨by rw [HF.out]; rfl, (by repeat (first | exact Below.refl _ _ | assumption | (refine Below.trans ?_ (Below.mono (by assumption) (by first | omega | (simp; done) | (simp; omega)))) | (with_reducible refine Below.drew ?_) | (with_reducible refine Below.alloc ?_ (by first | omega | (simp; done) | (simp; omega)) _) | (with_reducible refine Below.setCell ?_ (by first | omega | (simp; done) | (simp; omega)) _))), (by first | omega | (simp; done) | (simp; omega))⟩
      · have HF := Lib.hid (fmtT_n (k := 1) (Or.inr hw) he)
        have e2 : s.toList.isEmpty = false := by rw [List.isEmpty_eq_false_iff]; exact he
        clear he
        go_enter Try.func32, Try.ntmps32
        go_wp2_with (go_at_call 28; refine (IsValidWord_impl _ _ hs).mono ?_; rintro e w' ⟨rfl, rfl⟩)
        go_ret
        exact ⟨by rw [HF.out]; rfl, (by repeat (first | exact Below.refl _ _ | assumption | (refine Below.trans ?_ (Below.mono (by assumption) (by first | omega | (simp; done) | (simp; omega)))) | (with_reducible refine Below.drew ?_) | (with_reducible refine Below.alloc ?_ (by first | omega | (simp; done) | (simp; omega)) _) | (with_reducible refine Below.setCell ?_ (by first | omega | (simp; done) | (simp; omega)) _))), (by first | omega | (simp; done) | (simp; omega))⟩
    · have HF := Lib.hid (fmtT_w hw)
      go_enter Try.func32, Try.ntmps32
      go_wp2_with (go_at_call 28; refine (IsValidWord_impl _ _ hs).mono ?_; rintro e w' ⟨rfl, rfl⟩)
      go_ret
      exact ⟨by rw [HF.out]; rfl, (by repeat (first | exact Below.refl _ _ | assumption | (refine Below.trans ?_ (Below.mono (by assumption) (by first | omega | (simp; done) | (simp; omega)))) | (with_reducible refine Below.drew ?_) | (with_reducible refine Below.alloc ?_ (by first | omega | (simp; done) | (simp; omega)) _) | (with_reducible refine Below.setCell ?_ (by first | omega | (simp; done) | (simp; omega)) _))), (by first | omega | (simp; done) | (simp; omega))⟩
  · have e1 : (k == 1) = false := beq_eq_false_iff_ne.2 h1
    by_cases he : s.toList = []
    · have e2 : s.toList.isEmpty = true := by simp [he]
      have HF := Lib.hid (fmtT_e (k := k) (Or.inl h1) he)
      clear he
      by_cases h2 : k = 2
      · subst h2
        clear h1 e1
        go_enter Try.func32, Try.ntmps32
        go_wp2_with fail
        go_ret
        exact ⟨by rw [HF.out]; rfl, (by repeat (first | exact Below.refl _ _ | assumption | (refine Below.trans ?_ (Below.mono (by assumption) (by first | omega | (simp; done) | (simp; omega)))) | (with_reducible refine Below.drew ?_) | (with_reducible refine Below.alloc ?_ (by first | omega | (simp; done) | (simp; omega)) _) | (with_reducible refine Below.setCell ?_ (by first | omega | (simp; done) | (simp; omega)) _))), (by first | omega | (simp; done) | (simp; omega))⟩
      · by_cases h3 : k = 3
        · subst h3
          clear h1 h2 e1
          go_enter Try.func32, Try.ntmps32
          go_wp2_with fail
          go_ret
          exact ⟨by rw [HF.out]; rfl, (by repeat (first | exact Below.refl _ _ | assumption | (refine Below.trans ?_ (Below.mono (by assumption) (by first | omega | (simp; done) | (simp; omega)))) | (with_reducible refine Below.drew ?_) | (with_reducible refine Below.alloc ?_ (by first | omega | (simp; done) | (simp; omega)) _) | (with_reducible refine Below.setCell ?_ (by first | omega | (simp; done) | (simp; omega)) _))), (by first | omega | (simp; done) | (simp; omega))⟩
        · by_cases h4 : k = 4
          · subst h4
            clear h1 h2 h3 e1
            go_enter Try.func32, Try.ntmps32
            go_wp2_with fail
            go_ret
            exact ⟨by rw [HF.out]; rfl, (by repeat (first | exact Below.refl _ _ | assumption | (refine Below.trans ?_ (Below.mono (by assumption) (by first | omega | (simp; done) | (simp; omega)))) | (with_reducible refine Below.drew ?_) | (with_reducible refine Below.alloc ?_ (by first | omega | (simp; done) | (simp; omega)) _) | (with_reducible refine Below.setCell ?_ (by first | omega | (simp; done) | (simp; omega)) _))), (by first | omega | (simp; done) | (simp; omega))⟩
          · have HS := Lib.hid (HF.out.trans (show symT k = ⟨#[]⟩ by rw [symT, if_neg h2, if_neg h3, if_neg h4]))
            have e3 : (k == 2) = false := beq_eq_false_iff_ne.2 h2
            have e4 : (k == 3) = false := beq_eq_false_iff_ne.2 h3
            have e5 : (k == 4) = false := beq_eq_false_iff_ne.2 h4
            clear h1 h2 h3 h4
            go_enter Try.func32, Try.ntmps32
            go_wp2_with fail
            go_ret
            exact ⟨by rw [HS.out]; rfl, (by repeat (first | exact Below.refl _ _ | assumption | (refine Below.trans ?_ (Below.mono (by assumption) (by first | omega | (simp; done) | (simp; omega)))) | (with_reducible refine Below.drew ?_) | (with_reducible refine Below.alloc ?_ (by first | omega | (simp; done) | (simp; omega)) _) | (with_reducible refine Below.setCell ?_ (by first | omega | (simp; done) | (simp; omega)) _))), (by first | omega | (simp; done) | (simp; omega))⟩
    · have HF := Lib.hid (fmtT_n (k := k) (Or.inl h1) he)
      have e2 : s.toList.isEmpty = false := by rw [List.isEmpty_eq_false_iff]; exact he
      clear he h1
      go_enter Try.func32, Try.ntmps32
      go_wp2_with fail
      go_ret
      exact ⟨by rw [HF.out]; rfl, (by repeat (first | exact Below.refl _ _ | assumption | (refine Below.trans ?_ (Below.mono (by assumption) (by first | omega | (simp; done) | (simp; omega)))) | (with_reducible refine Below.drew ?_) | (with_reducible refine Below.alloc ?_ (by first | omega | (simp; done) | (simp; omega)) _) | (with_reducible refine Below.setCell ?_ (by first | omega | (simp; done) | (simp; omega)) _))), (by first | omega | (simp; done) | (simp; omega))⟩
set_option maxRecDepth 100000 in
set_option maxHeartbeats 2000000 in
theorem FormatToken_spec (k : Int) (s : ByteArray) (w : World) (hs : s.size ≤ 9223372036854775807) : Calls Try.prog 31 #[.agg #[.int .i64 k, .string s]] w fun e w' => e = .returned (.string (fmtT k s)) ∧ Below w.heap.size w w' ∧ w.heap.size ≤ w'.heap.size := by
  by_cases h1 : k = 1
  · subst h1
    cases hw : wordOk s
    · by_cases he : s.toList = []
      · have HF := Lib.hid ((fmtT_e (k := 1) (Or.inr hw) he).trans (show symT 1 = ⟨#[]⟩ from rfl))
        have e2 : s.toList.isEmpty = true := by simp [he]
        have hIN : inB 1 2 4 = false := rfl
        clear he
        go_enter Try.func31, Try.ntmps31
        go_wp2_with (first | (go_at_call 48; refine (IsValidWord_spec _ _ hs).mono ?_; rintro e w' ⟨rfl, rfl⟩) | (go_at_call 49; refine (l1In_any _ _ _ _).mono ?_; rintro e w' ⟨rfl, rfl⟩))
        go_ret
        exact ⟨by rw [HF.out]; rfl, (by repeat (first | exact Below.refl _ _ | assumption | (refine Below.trans ?_ (Below.mono (by assumption) (by first | omega | (simp; done) | (simp; omega)))) | (with_reducible refine Below.drew ?_) | (with_reducible refine Below.alloc ?_ (by first | omega | (simp; done) | (simp; omega)) _) | (with_reducible refine Below.setCell ?_ (by first | omega | (simp; done) | (simp; omega)) _))), (by first | omega | (simp; done) | (simp; omega))⟩
      · have HF := Lib.hid (fmtT_n (k := 1) (Or.inr hw) he)
        have e2 : s.toList.isEmpty = false := by rw [List.isEmpty_eq_false_iff]; exact he
        clear he
        go_enter Try.func31, Try.ntmps31
        go_wp2_with (go_at_call 48; refine (IsValidWord_spec _ _ hs).mono ?_; rintro e w' ⟨rfl, rfl⟩)
        go_ret
        exact ⟨by rw [HF.out]; rfl, (by repeat (first | exact Below.refl _ _ | assumption | (refine Below.trans ?_ (Below.mono (by assumption) (by first | omega | (simp; done) | (simp; omega)))) | (with_reducible refine Below.drew ?_) | (with_reducible refine Below.alloc ?_ (by first | omega | (simp; done) | (simp; omega)) _) | (with_reducible refine Below.setCell ?_ (by first | omega | (simp; done) | (simp; omega)) _))), (by first | omega | (simp; done) | (simp; omega))⟩
    · have HF := Lib.hid (fmtT_w hw)
      go_enter Try.func31, Try.ntmps31
      go_wp2_with (go_at_call 48; refine (IsValidWord_spec _ _ hs).mono ?_; rintro e w' ⟨rfl, rfl⟩)
      go_ret
      exact ⟨by rw [HF.out]; rfl, (by repeat (first | exact Below.refl _ _ | assumption | (refine Below.trans ?_ (Below.mono (by assumption) (by first | omega | (simp; done) | (simp; omega)))) | (with_reducible refine Below.drew ?_) | (with_reducible refine Below.alloc ?_ (by first | omega | (simp; done) | (simp; omega)) _) | (with_reducible refine Below.setCell ?_ (by first | omega | (simp; done) | (simp; omega)) _))), (by first | omega | (simp; done) | (simp; omega))⟩
  · have e1 : (k == 1) = false := beq_eq_false_iff_ne.2 h1
    by_cases he : s.toList = []
    · have e2 : s.toList.isEmpty = true := by simp [he]
      have HF := Lib.hid (fmtT_e (k := k) (Or.inl h1) he)
      clear he
      by_cases h2 : k = 2
      · subst h2
        have hIN : inB 2 2 4 = true := rfl
        clear h1 e1
        go_enter Try.func31, Try.ntmps31
        go_wp2_with (go_at_call 49; refine (l1In_any _ _ _ _).mono ?_; rintro e w' ⟨rfl, rfl⟩)
        go_ret
        exact ⟨by rw [HF.out]; rfl, (by repeat (first | exact Below.refl _ _ | assumption | (refine Below.trans ?_ (Below.mono (by assumption) (by first | omega | (simp; done) | (simp; omega)))) | (with_reducible refine Below.drew ?_) | (with_reducible refine Below.alloc ?_ (by first | omega | (simp; done) | (simp; omega)) _) | (with_reducible refine Below.setCell ?_ (by first | omega | (simp; done) | (simp; omega)) _))), (by first | omega | (simp; done) | (simp; omega))⟩
      · by_cases h3 : k = 3
        · subst h3
          have hIN : inB 3 2 4 = true := rfl
          clear h1 h2 e1
          go_enter Try.func31, Try.ntmps31
          go_wp2_with (go_at_call 49; refine (l1In_any _ _ _ _).mono ?_; rintro e w' ⟨rfl, rfl⟩)
          go_ret
          exact ⟨by rw [HF.out]; rfl, (by repeat (first | exact Below.refl _ _ | assumption | (refine Below.trans ?_ (Below.mono (by assumption) (by first | omega | (simp; done) | (simp; omega)))) | (with_reducible refine Below.drew ?_) | (with_reducible refine Below.alloc ?_ (by first | omega | (simp; done) | (simp; omega)) _) | (with_reducible refine Below.setCell ?_ (by first | omega | (simp; done) | (simp; omega)) _))), (by first | omega | (simp; done) | (simp; omega))⟩
        · by_cases h4 : k = 4
          · subst h4
            have hIN : inB 4 2 4 = true := rfl
            clear h1 h2 h3 e1
            go_enter Try.func31, Try.ntmps31
            go_wp2_with (go_at_call 49; refine (l1In_any _ _ _ _).mono ?_; rintro e w' ⟨rfl, rfl⟩)
            go_ret
            exact ⟨by rw [HF.out]; rfl, (by repeat (first | exact Below.refl _ _ | assumption | (refine Below.trans ?_ (Below.mono (by assumption) (by first | omega | (simp; done) | (simp; omega)))) | (with_reducible refine Below.drew ?_) | (with_reducible refine Below.alloc ?_ (by first | omega | (simp; done) | (simp; omega)) _) | (with_reducible refine Below.setCell ?_ (by first | omega | (simp; done) | (simp; omega)) _))), (by first | omega | (simp; done) | (simp; omega))⟩
          · have HS := Lib.hid (HF.out.trans (show symT k = ⟨#[]⟩ by rw [symT, if_neg h2, if_neg h3, if_neg h4]))
            have hIN : inB k 2 4 = false := inB_f (by omega)
            clear h1 h2 h3 h4
            go_enter Try.func31, Try.ntmps31
            go_wp2_with (go_at_call 49; refine (l1In_any _ _ _ _).mono ?_; rintro e w' ⟨rfl, rfl⟩)
            go_ret
            exact ⟨by rw [HS.out]; rfl, (by repeat (first | exact Below.refl _ _ | assumption | (refine Below.trans ?_ (Below.mono (by assumption) (by first | omega | (simp; done) | (simp; omega)))) | (with_reducible refine Below.drew ?_) | (with_reducible refine Below.alloc ?_ (by first | omega | (simp; done) | (simp; omega)) _) | (with_reducible refine Below.setCell ?_ (by first | omega | (simp; done) | (simp; omega)) _))), (by first | omega | (simp; done) | (simp; omega))⟩
    · have HF := Lib.hid (fmtT_n (k := k) (Or.inl h1) he)
      have e2 : s.toList.isEmpty = false := by rw [List.isEmpty_eq_false_iff]; exact he
      clear he h1
      go_enter Try.func31, Try.ntmps31
      go_wp2_with fail
      go_ret
      exact ⟨by rw [HF.out]; rfl, (by repeat (first | exact Below.refl _ _ | assumption | (refine Below.trans ?_ (Below.mono (by assumption) (by first | omega | (simp; done) | (simp; omega)))) | (with_reducible refine Below.drew ?_) | (with_reducible refine Below.alloc ?_ (by first | omega | (simp; done) | (simp; omega)) _) | (with_reducible refine Below.setCell ?_ (by first | omega | (simp; done) | (simp; omega)) _))), (by first | omega | (simp; done) | (simp; omega))⟩
/-- The text of a list of tokens. -/
def ftxR : List Tk → ByteArray
  | [] => ⟨#[]⟩
  | t :: r => (if r ≠ [] ∧ t.k ≠ 2 then ftxR r ++ ⟨#[32]⟩ else ftxR r) ++ fmtT t.k t.s
def ftx (l : List Tk) : ByteArray := ftxR l.reverse
theorem ftx_snoc0 (t : Tk) : ftx ([] ++ [t]) = ftx [] ++ fmtT t.k t.s := by simp [ftx, ftxR]
theorem ftx_snoc1 {l : List Tk} {t : Tk} (h : t.k = 2) : ftx (l ++ [t]) = ftx l ++ fmtT t.k t.s := by simp [ftx, ftxR, h]
theorem ftx_snoc2 {l : List Tk} {t : Tk} (h : 0 < l.length) (h2 : t.k ≠ 2) : ftx (l ++ [t]) = ftx l ++ ⟨#[32]⟩ ++ fmtT t.k t.s := by
  have : l ≠ [] := by intro e; subst e; simp at h
  simp [ftx, ftxR, h2, this]
theorem ftxR_size : ∀ (l : List Tk), (ftxR l).size ≤ 9 * l.length := by
  intro l
  induction l with
  | nil => exact Nat.zero_le _
  | cons t r ih =>
    have := fmtT_size t.k t.s
    rw [ftxR, List.length_cons]
    split
    · rw [ByteArray.size_append, ByteArray.size_append]
      have h1 : (⟨#[32]⟩ : ByteArray).size = 1 := rfl
      omega
    · rw [ByteArray.size_append]
      omega
theorem ftx_size (l : List Tk) : (ftx l).size ≤ 9 * l.length := by have := ftxR_size l.reverse; rwa [List.length_reverse] at this

theorem take_snoc' {α : Type} {l : List α} {t : Nat} {x : α} (h : l[t]? = some x) : l.take (t + 1) = l.take t ++ [x] := by rw [List.take_add_one, h]; rfl
set_option maxRecDepth 100000 in
set_option maxHeartbeats 2000000 in
theorem FormatTokens_impl (A : Option Addr) (n c : Nat) (l : List Tk) (w : World) (h : Rd w 2 A n (tkcs l)) (hl : l.length = n) (hn : n ≤ 1099511627776) (hz : ∀ t ∈ l, t.s.size ≤ 1099511627776) :
    Calls Try.prog 9 #[.slice A n c] w fun e w' => e = .returned (.string (ftx l)) ∧ Below w.heap.size w w' ∧ w.heap.size ≤ w'.heap.size := by
  have H := Lib.hid h
  have HL := Lib.hid hl
  have HZ := Lib.hid hz
  clear h hl hz
  go_enter Try.func9, Try.ntmps9
  go_wp2
  go_loopw [3, 8] (fun v i wr => ∃ t : Nat, t ≤ n ∧ i = .int .i64 t ∧ v = .string (ftx (l.take t)) ∧ Below w.heap.size w wr) (fun _ i _ => n - (intOf i).toNat)
  case atStart => exact ⟨0, Nat.zero_le _, rfl, rfl, Below.refl _ _⟩
  case round =>
    obtain ⟨t, ht, rfl, rfl, hb⟩ := hrel
    have hbs := hb.size
    by_cases hlt : t < n
    · obtain ⟨x, hx⟩ : ∃ x, l[t]? = some x := ⟨_, List.getElem?_eq_getElem (by rw [HL.out]; exact hlt)⟩
      obtain ⟨b, off, rfl, hbl, q0, q1⟩ := rd_tk (H.out.below hb) HL.out hx
      have hxz : x.s.size ≤ 9223372036854775807 := by have := HZ.out x (List.mem_of_getElem? hx); omega
      have hfz := fmtT_size x.k x.s
      have htk := take_snoc' hx
      have hal : (l.take t).length = t := by rw [List.length_take, HL.out]; omega
      have haz := ftx_size (l.take t)
      rw [hal] at haz
      have HTK := Lib.hid htk
      have HAL := Lib.hid hal
      obtain ⟨lt, hlt'⟩ : ∃ lt, lt = l.take t := ⟨_, rfl⟩
      rw [← hlt'] at HTK HAL haz ⊢
      obtain ⟨acc, hacc⟩ : ∃ acc, acc = ftx lt := ⟨_, rfl⟩
      have HACC := Lib.hid hacc
      rw [← hacc] at haz ⊢
      obtain ⟨f, hf⟩ : ∃ f, f = fmtT x.k x.s := ⟨_, rfl⟩
      have HF := Lib.hid hf
      rw [← hf] at hfz
      clear hx htk hal hlt' hacc hf
      by_cases h0 : t = 0
      · have hlt0 : lt = [] := List.eq_nil_of_length_eq_zero (by rw [HAL.out]; exact h0)
        have HL0 := Lib.hid hlt0
        have d0 : decide (0 < (t : Int)) = false := by simp; omega
        have d1 : decide (0 < t) = false := by simp; omega
        have e2 : ∀ w : World, (Op.stringOp .add acc f).run Try.prog w = .ok (.string (acc ++ f)) w := fun w => run_string_add_sum w _ _ (by omega)
        clear hlt0 h0
        go_wp2_with fail
        refine (FormatToken_impl _ _ _ hxz).mono ?_
        rintro e w1 ⟨rfl, b1, s1⟩
        rw [← HF.out]
        have hbN : Below w.heap.size w w1 := (hb.alloc hbs _).trans (b1.mono (by simp; omega))
        go_wp2_with fail
        go_roundw
        case rel => exact ⟨t + 1, by omega, by go_num, by rw [HTK.out, HL0.out, ftx_snoc0, ← HL0.out, ← HACC.out, ← HF.out], hbN⟩
        case measure => simp [intOf]; omega
      · have d0 : decide (0 < (t : Int)) = true := by simp; omega
        have d1 : decide (0 < t) = true := by simp; omega
        by_cases hk : x.k = 2
        · have ek : (x.k != 2) = false := by simp [hk]
          have e2 : ∀ w : World, (Op.stringOp .add acc f).run Try.prog w = .ok (.string (acc ++ f)) w := fun w => run_string_add_sum w _ _ (by omega)
          have HK := Lib.hid hk
          clear hk
          go_wp2_with fail
          refine (FormatToken_impl _ _ _ hxz).mono ?_
          rintro e w1 ⟨rfl, b1, s1⟩
          rw [← HF.out]
          have hbN : Below w.heap.size w w1 := (hb.alloc hbs _).trans (b1.mono (by simp; omega))
          go_wp2_with fail
          go_roundw
          case rel => exact ⟨t + 1, by omega, by go_num, by rw [HTK.out, ftx_snoc1 HK.out, ← HACC.out, ← HF.out], hbN⟩
          case measure => simp [intOf]; omega
        · have ek : (x.k != 2) = true := by simp [hk]
          have e1 : ∀ w : World, (Op.stringOp .add acc ⟨#[32]⟩).run Try.prog w = .ok (.string (acc ++ ⟨#[32]⟩)) w := fun w => run_string_add_sum w _ _ (by show acc.size + 1 ≤ _; omega)
          have e2 : ∀ w : World, (Op.stringOp .add (acc ++ ⟨#[32]⟩) f).run Try.prog w = .ok (.string (acc ++ ⟨#[32]⟩ ++ f)) w := fun w => run_string_add_sum w _ _ (by rw [ByteArray.size_append]; show acc.size + 1 + f.size ≤ _; omega)
          have HK := Lib.hid hk
          clear hk
          go_wp2_with fail
          refine (FormatToken_impl _ _ _ hxz).mono ?_
          rintro e w1 ⟨rfl, b1, s1⟩
          rw [← HF.out]
          have hbN : Below w.heap.size w w1 := (hb.alloc hbs _).trans (b1.mono (by simp; omega))
          go_wp2_with fail
          go_roundw
          case rel => exact ⟨t + 1, by omega, by go_num, by rw [HTK.out, ftx_snoc2 (by rw [HAL.out]; omega) HK.out, ← HACC.out, ← HF.out], hbN⟩
          case measure => simp [intOf]; omega
    · obtain rfl : t = n := by omega
      have HF : Hid (ftx (l.take t) = ftx l) := by rw [List.take_of_length_le (by rw [HL.out]; exact Nat.le_refl _)]; exact rfl
      go_wp2_with fail
      go_ret
      exact ⟨by rw [← HF.out]; rfl, hb, hb.size⟩
set_option maxRecDepth 100000 in
set_option maxHeartbeats 2000000 in
theorem FormatTokens_spec (A : Option Addr) (n c : Nat) (l : List Tk) (w : World) (h : Rd w 2 A n (tkcs l)) (hl : l.length = n) (hn : n ≤ 1099511627776) (hz : ∀ t ∈ l, t.s.size ≤ 1099511627776) :
    Calls Try.prog 25 #[.slice A n c] w fun e w' => e = .returned (.string (ftx l)) ∧ Below w.heap.size w w' ∧ w.heap.size ≤ w'.heap.size := by
  have H := Lib.hid h
  have HL := Lib.hid hl
  have HZ := Lib.hid hz
  clear h hl hz
  go_enter Try.func25, Try.ntmps25
  go_wp2
  go_loopw [3, 4] (fun v i wr => ∃ t : Nat, t ≤ n ∧ i = .int .i64 t ∧ v = .string (ftx (l.take t)) ∧ Below w.heap.size w wr) (fun _ i _ => n - (intOf i).toNat)
  case atStart => exact ⟨0, Nat.zero_le _, rfl, rfl, Below.refl _ _⟩
  case round =>
    obtain ⟨t, ht, rfl, rfl, hb⟩ := hrel
    have hbs := hb.size
    by_cases hlt : t < n
    · obtain ⟨x, hx⟩ : ∃ x, l[t]? = some x := ⟨_, List.getElem?_eq_getElem (by rw [HL.out]; exact hlt)⟩
      obtain ⟨b, off, rfl, hbl, q0, q1⟩ := rd_tk (H.out.below hb) HL.out hx
      have hxz : x.s.size ≤ 9223372036854775807 := by have := HZ.out x (List.mem_of_getElem? hx); omega
      have hfz := fmtT_size x.k x.s
      have htk := take_snoc' hx
      have hal : (l.take t).length = t := by rw [List.length_take, HL.out]; omega
      have haz := ftx_size (l.take t)
      rw [hal] at haz
      have HTK := Lib.hid htk
      have HAL := Lib.hid hal
      obtain ⟨lt, hlt'⟩ : ∃ lt, lt = l.take t := ⟨_, rfl⟩
      rw [← hlt'] at HTK HAL haz ⊢
      obtain ⟨acc, hacc⟩ : ∃ acc, acc = ftx lt := ⟨_, rfl⟩
      have HACC := Lib.hid hacc
      rw [← hacc] at haz ⊢
      obtain ⟨f, hf⟩ : ∃ f, f = fmtT x.k x.s := ⟨_, rfl⟩
      have HF := Lib.hid hf
      rw [← hf] at hfz
      clear hx htk hal hlt' hacc hf
      by_cases h0 : t = 0
      · have hlt0 : lt = [] := List.eq_nil_of_length_eq_zero (by rw [HAL.out]; exact h0)
        have HL0 := Lib.hid hlt0
        have d0 : decide (0 < (t : Int)) = false := by simp; omega
        have d1 : decide (0 < t) = false := by simp; omega
        have e2 : ∀ w : World, (Op.stringOp .add acc f).run Try.prog w = .ok (.string (acc ++ f)) w := fun w => run_string_add_sum w _ _ (by omega)
        clear hlt0 h0
        go_wp2_with fail
        refine (FormatToken_spec _ _ _ hxz).mono ?_
        rintro e w1 ⟨rfl, b1, s1⟩
        rw [← HF.out]
        have hbN : Below w.heap.size w w1 := hb.trans (b1.mono hbs)
        go_wp2_with fail
        go_roundw
        case rel => exact ⟨t + 1, by omega, by go_num, by rw [HTK.out, HL0.out, ftx_snoc0, ← HL0.out, ← HACC.out, ← HF.out], hbN⟩
        case measure => simp [intOf]; omega
      · have d0 : decide (0 < (t : Int)) = true := by simp; omega
        have d1 : decide (0 < t) = true := by simp; omega
        by_cases hk : x.k = 2
        · have ek : (x.k != 2) = false := by simp [hk]
          have e2 : ∀ w : World, (Op.stringOp .add acc f).run Try.prog w = .ok (.string (acc ++ f)) w := fun w => run_string_add_sum w _ _ (by omega)
          have HK := Lib.hid hk
          clear hk
          go_wp2_with fail
          refine (FormatToken_spec _ _ _ hxz).mono ?_
          rintro e w1 ⟨rfl, b1, s1⟩
          rw [← HF.out]
          have hbN : Below w.heap.size w w1 := hb.trans (b1.mono hbs)
          go_wp2_with fail
          go_roundw
          case rel => exact ⟨t + 1, by omega, by go_num, by rw [HTK.out, ftx_snoc1 HK.out, ← HACC.out, ← HF.out], hbN⟩
          case measure => simp [intOf]; omega
        · have ek : (x.k != 2) = true := by simp [hk]
          have e1 : ∀ w : World, (Op.stringOp .add acc ⟨#[32]⟩).run Try.prog w = .ok (.string (acc ++ ⟨#[32]⟩)) w := fun w => run_string_add_sum w _ _ (by show acc.size + 1 ≤ _; omega)
          have e2 : ∀ w : World, (Op.stringOp .add (acc ++ ⟨#[32]⟩) f).run Try.prog w = .ok (.string (acc ++ ⟨#[32]⟩ ++ f)) w := fun w => run_string_add_sum w _ _ (by rw [ByteArray.size_append]; show acc.size + 1 + f.size ≤ _; omega)
          have HK := Lib.hid hk
          clear hk
          go_wp2_with fail
          refine (FormatToken_spec _ _ _ hxz).mono ?_
          rintro e w1 ⟨rfl, b1, s1⟩
          rw [← HF.out]
          have hbN : Below w.heap.size w w1 := hb.trans (b1.mono hbs)
          go_wp2_with fail
          go_roundw
          case rel => exact ⟨t + 1, by omega, by go_num, by rw [HTK.out, ftx_snoc2 (by rw [HAL.out]; omega) HK.out, ← HACC.out, ← HF.out], hbN⟩
          case measure => simp [intOf]; omega
    · obtain rfl : t = n := by omega
      have HF : Hid (ftx (l.take t) = ftx l) := by rw [List.take_of_length_le (by rw [HL.out]; exact Nat.le_refl _)]; exact rfl
      go_wp2_with fail
      go_ret
      exact ⟨by rw [← HF.out]; rfl, hb, hb.size⟩
end Go.Proofs.Ytgmaokpebaebkaa
