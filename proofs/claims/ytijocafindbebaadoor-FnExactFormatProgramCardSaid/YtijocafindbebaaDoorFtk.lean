/- Tokens as text, both sides. -/
import Derived.Test.YtijocafindbebaaDoorTknL
namespace Go.Proofs.YtijocafindbebaaDoor
open Go.RowKit
set_option linter.unusedVariables false
def symT (k : Int) : ByteArray := if k = 2 then ⟨#[59]⟩ else if k = 3 then ⟨#[123]⟩ else if k = 4 then ⟨#[125]⟩ else ⟨#[]⟩
/-- The text of a token. -/
def fmtT (k : Int) (s : ByteArray) : ByteArray := if k = 1 ∧ wordOk s = true then s else if s.toList = [] then symT k else ⟨#[]⟩
theorem wordOk_size {s : ByteArray} (h : wordOk s = true) : 1 ≤ s.size ∧ s.size ≤ 8 := by
  unfold wordOk at h
  simp only [Bool.and_eq_true] at h
  have := inB_iff.1 h.2
  omega
theorem symT_size (k : Int) : (symT k).size ≤ 1 := by
  unfold symT
  split
  · exact Nat.le_refl _
  · split
    · exact Nat.le_refl _
    · split
      · exact Nat.le_refl _
      · exact Nat.zero_le _
theorem fmtT_size (k : Int) (s : ByteArray) : (fmtT k s).size ≤ 8 := by
  unfold fmtT
  split
  · rename_i h; exact (wordOk_size h.2).2
  · split
    · have := symT_size k; omega
    · exact Nat.zero_le _
theorem fmtT_w {s : ByteArray} (h : wordOk s = true) : fmtT 1 s = s := if_pos ⟨rfl, h⟩
theorem fmtT_e {k : Int} {s : ByteArray} (h : k ≠ 1 ∨ wordOk s = false) (hs : s.toList = []) : fmtT k s = symT k := by
  rw [fmtT, if_neg (by rcases h with h | h <;> simp [h]), if_pos hs]
theorem fmtT_n {k : Int} {s : ByteArray} (h : k ≠ 1 ∨ wordOk s = false) (hs : s.toList ≠ []) : fmtT k s = ⟨#[]⟩ := by
  rw [fmtT, if_neg (by rcases h with h | h <;> simp [h]), if_neg hs]
set_option maxRecDepth 100000 in
set_option maxHeartbeats 2000000 in
theorem FormatToken_impl (k : Int) (s : ByteArray) (w : World) (hs : s.size ≤ 9223372036854775807) : Calls Tryd.prog 96 #[.agg #[.int .i64 k, .string s]] w fun e w' => e = .returned (.string (fmtT k s)) ∧ Below w.heap.size w w' ∧ w.heap.size ≤ w'.heap.size := by
  by_cases h1 : k = 1
  · subst h1
    cases hw : wordOk s
    · by_cases he : s.toList = []
      · have HF := Lib.hid ((fmtT_e (k := 1) (Or.inr hw) he).trans (show symT 1 = ⟨#[]⟩ from rfl))
        have e2 : s.toList.isEmpty = true := by simp [he]
        clear he
        go_enter Tryd.func96, Tryd.ntmps96
        go_wp2_with (go_at_call 57; refine (IsValidWord_impl _ _ hs).mono ?_; rintro e w' ⟨rfl, rfl⟩)
        go_ret
        exact ⟨by rw [HF.out]; rfl, (by repeat (first | exact Below.refl _ _ | assumption | (refine Below.trans ?_ (Below.mono (by assumption) (by first | omega | (simp; done) | (simp; omega)))) | (with_reducible refine Below.drew ?_) | (with_reducible refine Below.alloc ?_ (by first | omega | (simp; done) | (simp; omega)) _) | (with_reducible refine Below.setCell ?_ (by first | omega | (simp; done) | (simp; omega)) _))), (by first | omega | (simp; done) | (simp; omega))⟩
      · have HF := Lib.hid (fmtT_n (k := 1) (Or.inr hw) he)
        have e2 : s.toList.isEmpty = false := by rw [List.isEmpty_eq_false_iff]; exact he
        clear he
        go_enter Tryd.func96, Tryd.ntmps96
        go_wp2_with (go_at_call 57; refine (IsValidWord_impl _ _ hs).mono ?_; rintro e w' ⟨rfl, rfl⟩)
        go_ret
        exact ⟨by rw [HF.out]; rfl, (by repeat (first | exact Below.refl _ _ | assumption | (refine Below.trans ?_ (Below.mono (by assumption) (by first | omega | (simp; done) | (simp; omega)))) | (with_reducible refine Below.drew ?_) | (with_reducible refine Below.alloc ?_ (by first | omega | (simp; done) | (simp; omega)) _) | (with_reducible refine Below.setCell ?_ (by first | omega | (simp; done) | (simp; omega)) _))), (by first | omega | (simp; done) | (simp; omega))⟩
    · have HF := Lib.hid (fmtT_w hw)
      go_enter Tryd.func96, Tryd.ntmps96
      go_wp2_with (go_at_call 57; refine (IsValidWord_impl _ _ hs).mono ?_; rintro e w' ⟨rfl, rfl⟩)
      go_ret
      exact ⟨by rw [HF.out]; rfl, (by repeat (first | exact Below.refl _ _ | assumption | (refine Below.trans ?_ (Below.mono (by assumption) (by first | omega | (simp; done) | (simp; omega)))) | (with_reducible refine Below.drew ?_) | (with_reducible refine Below.alloc ?_ (by first | omega | (simp; done) | (simp; omega)) _) | (with_reducible refine Below.setCell ?_ (by first | omega | (simp; done) | (simp; omega)) _))), (by first | omega | (simp; done) | (simp; omega))⟩
  · have e1 : (k == 1) = false := beq_eq_false_iff_ne.2 h1
    by_cases he : s.toList = []
    · have e2 : s.toList.isEmpty = true := by simp [he]
      have HF := Lib.hid (fmtT_e (k := k) (Or.inl h1) he)
      clear he
      by_cases h2 : k = 2
      · subst h2
        clear h1 e1
        go_enter Tryd.func96, Tryd.ntmps96
        go_wp2_with fail
        go_ret
        exact ⟨by rw [HF.out]; rfl, (by repeat (first | exact Below.refl _ _ | assumption | (refine Below.trans ?_ (Below.mono (by assumption) (by first | omega | (simp; done) | (simp; omega)))) | (with_reducible refine Below.drew ?_) | (with_reducible refine Below.alloc ?_ (by first | omega | (simp; done) | (simp; omega)) _) | (with_reducible refine Below.setCell ?_ (by first | omega | (simp; done) | (simp; omega)) _))), (by first | omega | (simp; done) | (simp; omega))⟩
      · by_cases h3 : k = 3
        · subst h3
          clear h1 h2 e1
          go_enter Tryd.func96, Tryd.ntmps96
          go_wp2_with fail
          go_ret
          exact ⟨by rw [HF.out]; rfl, (by repeat (first | exact Below.refl _ _ | assumption | (refine Below.trans ?_ (Below.mono (by assumption) (by first | omega | (simp; done) | (simp; omega)))) | (with_reducible refine Below.drew ?_) | (with_reducible refine Below.alloc ?_ (by first | omega | (simp; done) | (simp; omega)) _) | (with_reducible refine Below.setCell ?_ (by first | omega | (simp; done) | (simp; omega)) _))), (by first | omega | (simp; done) | (simp; omega))⟩
        · by_cases h4 : k = 4
          · subst h4
            clear h1 h2 h3 e1
            go_enter Tryd.func96, Tryd.ntmps96
            go_wp2_with fail
            go_ret
            exact ⟨by rw [HF.out]; rfl, (by repeat (first | exact Below.refl _ _ | assumption | (refine Below.trans ?_ (Below.mono (by assumption) (by first | omega | (simp; done) | (simp; omega)))) | (with_reducible refine Below.drew ?_) | (with_reducible refine Below.alloc ?_ (by first | omega | (simp; done) | (simp; omega)) _) | (with_reducible refine Below.setCell ?_ (by first | omega | (simp; done) | (simp; omega)) _))), (by first | omega | (simp; done) | (simp; omega))⟩
          · have HS := Lib.hid (HF.out.trans (show symT k = ⟨#[]⟩ by rw [symT, if_neg h2, if_neg h3, if_neg h4]))
            have e3 : (k == 2) = false := beq_eq_false_iff_ne.2 h2
            have e4 : (k == 3) = false := beq_eq_false_iff_ne.2 h3
            have e5 : (k == 4) = false := beq_eq_false_iff_ne.2 h4
            clear h1 h2 h3 h4
            go_enter Tryd.func96, Tryd.ntmps96
            go_wp2_with fail
            go_ret
            exact ⟨by rw [HS.out]; rfl, (by repeat (first | exact Below.refl _ _ | assumption | (refine Below.trans ?_ (Below.mono (by assumption) (by first | omega | (simp; done) | (simp; omega)))) | (with_reducible refine Below.drew ?_) | (with_reducible refine Below.alloc ?_ (by first | omega | (simp; done) | (simp; omega)) _) | (with_reducible refine Below.setCell ?_ (by first | omega | (simp; done) | (simp; omega)) _))), (by first | omega | (simp; done) | (simp; omega))⟩
    · have HF := Lib.hid (fmtT_n (k := k) (Or.inl h1) he)
      have e2 : s.toList.isEmpty = false := by rw [List.isEmpty_eq_false_iff]; exact he
      clear he h1
      go_enter Tryd.func96, Tryd.ntmps96
      go_wp2_with fail
      go_ret
      exact ⟨by rw [HF.out]; rfl, (by repeat (first | exact Below.refl _ _ | assumption | (refine Below.trans ?_ (Below.mono (by assumption) (by first | omega | (simp; done) | (simp; omega)))) | (with_reducible refine Below.drew ?_) | (with_reducible refine Below.alloc ?_ (by first | omega | (simp; done) | (simp; omega)) _) | (with_reducible refine Below.setCell ?_ (by first | omega | (simp; done) | (simp; omega)) _))), (by first | omega | (simp; done) | (simp; omega))⟩
set_option maxRecDepth 100000 in
set_option maxHeartbeats 2000000 in
theorem FormatToken_spec (k : Int) (s : ByteArray) (w : World) (hs : s.size ≤ 9223372036854775807) : Calls Tryd.prog 95 #[.agg #[.int .i64 k, .string s]] w fun e w' => e = .returned (.string (fmtT k s)) ∧ Below w.heap.size w w' ∧ w.heap.size ≤ w'.heap.size := by
  by_cases h1 : k = 1
  · subst h1
    cases hw : wordOk s
    · by_cases he : s.toList = []
      · have HF := Lib.hid ((fmtT_e (k := 1) (Or.inr hw) he).trans (show symT 1 = ⟨#[]⟩ from rfl))
        have e2 : s.toList.isEmpty = true := by simp [he]
        have hIN : inB 1 2 4 = false := rfl
        clear he
        go_enter Tryd.func95, Tryd.ntmps95
        go_wp2_with (first | (go_at_call 91; refine (IsValidWord_spec _ _ hs).mono ?_; rintro e w' ⟨rfl, rfl⟩) | (go_at_call 48; refine (l1In_any _ _ _ _).mono ?_; rintro e w' ⟨rfl, rfl⟩))
        go_ret
        exact ⟨by rw [HF.out]; rfl, (by repeat (first | exact Below.refl _ _ | assumption | (refine Below.trans ?_ (Below.mono (by assumption) (by first | omega | (simp; done) | (simp; omega)))) | (with_reducible refine Below.drew ?_) | (with_reducible refine Below.alloc ?_ (by first | omega | (simp; done) | (simp; omega)) _) | (with_reducible refine Below.setCell ?_ (by first | omega | (simp; done) | (simp; omega)) _))), (by first | omega | (simp; done) | (simp; omega))⟩
      · have HF := Lib.hid (fmtT_n (k := 1) (Or.inr hw) he)
        have e2 : s.toList.isEmpty = false := by rw [List.isEmpty_eq_false_iff]; exact he
        clear he
        go_enter Tryd.func95, Tryd.ntmps95
        go_wp2_with (go_at_call 91; refine (IsValidWord_spec _ _ hs).mono ?_; rintro e w' ⟨rfl, rfl⟩)
        go_ret
        exact ⟨by rw [HF.out]; rfl, (by repeat (first | exact Below.refl _ _ | assumption | (refine Below.trans ?_ (Below.mono (by assumption) (by first | omega | (simp; done) | (simp; omega)))) | (with_reducible refine Below.drew ?_) | (with_reducible refine Below.alloc ?_ (by first | omega | (simp; done) | (simp; omega)) _) | (with_reducible refine Below.setCell ?_ (by first | omega | (simp; done) | (simp; omega)) _))), (by first | omega | (simp; done) | (simp; omega))⟩
    · have HF := Lib.hid (fmtT_w hw)
      go_enter Tryd.func95, Tryd.ntmps95
      go_wp2_with (go_at_call 91; refine (IsValidWord_spec _ _ hs).mono ?_; rintro e w' ⟨rfl, rfl⟩)
      go_ret
      exact ⟨by rw [HF.out]; rfl, (by repeat (first | exact Below.refl _ _ | assumption | (refine Below.trans ?_ (Below.mono (by assumption) (by first | omega | (simp; done) | (simp; omega)))) | (with_reducible refine Below.drew ?_) | (with_reducible refine Below.alloc ?_ (by first | omega | (simp; done) | (simp; omega)) _) | (with_reducible refine Below.setCell ?_ (by first | omega | (simp; done) | (simp; omega)) _))), (by first | omega | (simp; done) | (simp; omega))⟩
  · have e1 : (k == 1) = false := beq_eq_false_iff_ne.2 h1
    by_cases he : s.toList = []
    · have e2 : s.toList.isEmpty = true := by simp [he]
      have HF := Lib.hid (fmtT_e (k := k) (Or.inl h1) he)
      clear he
      by_cases h2 : k = 2
      · subst h2
        have hIN : inB 2 2 4 = true := rfl
        clear h1 e1
        go_enter Tryd.func95, Tryd.ntmps95
        go_wp2_with (go_at_call 48; refine (l1In_any _ _ _ _).mono ?_; rintro e w' ⟨rfl, rfl⟩)
        go_ret
        exact ⟨by rw [HF.out]; rfl, (by repeat (first | exact Below.refl _ _ | assumption | (refine Below.trans ?_ (Below.mono (by assumption) (by first | omega | (simp; done) | (simp; omega)))) | (with_reducible refine Below.drew ?_) | (with_reducible refine Below.alloc ?_ (by first | omega | (simp; done) | (simp; omega)) _) | (with_reducible refine Below.setCell ?_ (by first | omega | (simp; done) | (simp; omega)) _))), (by first | omega | (simp; done) | (simp; omega))⟩
      · by_cases h3 : k = 3
        · subst h3
          have hIN : inB 3 2 4 = true := rfl
          clear h1 h2 e1
          go_enter Tryd.func95, Tryd.ntmps95
          go_wp2_with (go_at_call 48; refine (l1In_any _ _ _ _).mono ?_; rintro e w' ⟨rfl, rfl⟩)
          go_ret
          exact ⟨by rw [HF.out]; rfl, (by repeat (first | exact Below.refl _ _ | assumption | (refine Below.trans ?_ (Below.mono (by assumption) (by first | omega | (simp; done) | (simp; omega)))) | (with_reducible refine Below.drew ?_) | (with_reducible refine Below.alloc ?_ (by first | omega | (simp; done) | (simp; omega)) _) | (with_reducible refine Below.setCell ?_ (by first | omega | (simp; done) | (simp; omega)) _))), (by first | omega | (simp; done) | (simp; omega))⟩
        · by_cases h4 : k = 4
          · subst h4
            have hIN : inB 4 2 4 = true := rfl
            clear h1 h2 h3 e1
            go_enter Tryd.func95, Tryd.ntmps95
            go_wp2_with (go_at_call 48; refine (l1In_any _ _ _ _).mono ?_; rintro e w' ⟨rfl, rfl⟩)
            go_ret
            exact ⟨by rw [HF.out]; rfl, (by repeat (first | exact Below.refl _ _ | assumption | (refine Below.trans ?_ (Below.mono (by assumption) (by first | omega | (simp; done) | (simp; omega)))) | (with_reducible refine Below.drew ?_) | (with_reducible refine Below.alloc ?_ (by first | omega | (simp; done) | (simp; omega)) _) | (with_reducible refine Below.setCell ?_ (by first | omega | (simp; done) | (simp; omega)) _))), (by first | omega | (simp; done) | (simp; omega))⟩
          · have HS := Lib.hid (HF.out.trans (show symT k = ⟨#[]⟩ by rw [symT, if_neg h2, if_neg h3, if_neg h4]))
            have hIN : inB k 2 4 = false := inB_f (by omega)
            clear h1 h2 h3 h4
            go_enter Tryd.func95, Tryd.ntmps95
            go_wp2_with (go_at_call 48; refine (l1In_any _ _ _ _).mono ?_; rintro e w' ⟨rfl, rfl⟩)
            go_ret
            exact ⟨by rw [HS.out]; rfl, (by repeat (first | exact Below.refl _ _ | assumption | (refine Below.trans ?_ (Below.mono (by assumption) (by first | omega | (simp; done) | (simp; omega)))) | (with_reducible refine Below.drew ?_) | (with_reducible refine Below.alloc ?_ (by first | omega | (simp; done) | (simp; omega)) _) | (with_reducible refine Below.setCell ?_ (by first | omega | (simp; done) | (simp; omega)) _))), (by first | omega | (simp; done) | (simp; omega))⟩
    · have HF := Lib.hid (fmtT_n (k := k) (Or.inl h1) he)
      have e2 : s.toList.isEmpty = false := by rw [List.isEmpty_eq_false_iff]; exact he
      clear he h1
      go_enter Tryd.func95, Tryd.ntmps95
      go_wp2_with fail
      go_ret
      exact ⟨by rw [HF.out]; rfl, (by repeat (first | exact Below.refl _ _ | assumption | (refine Below.trans ?_ (Below.mono (by assumption) (by first | omega | (simp; done) | (simp; omega)))) | (with_reducible refine Below.drew ?_) | (with_reducible refine Below.alloc ?_ (by first | omega | (simp; done) | (simp; omega)) _) | (with_reducible refine Below.setCell ?_ (by first | omega | (simp; done) | (simp; omega)) _))), (by first | omega | (simp; done) | (simp; omega))⟩
/-- The text of a list of tokens. -/
def ftxR : List Tk → ByteArray
  | [] => ⟨#[]⟩
  | t :: r => (if r ≠ [] ∧ t.k ≠ 2 then ftxR r ++ ⟨#[32]⟩ else ftxR r) ++ fmtT t.k t.s
def ftx (l : List Tk) : ByteArray := ftxR l.reverse
theorem ftx_snoc0 (t : Tk) : ftx ([] ++ [t]) = ftx [] ++ fmtT t.k t.s := by simp [ftx, ftxR]
theorem ftx_snoc1 {l : List Tk} {t : Tk} (h : t.k = 2) : ftx (l ++ [t]) = ftx l ++ fmtT t.k t.s := by simp [ftx, ftxR, h]
theorem ftx_snoc2 {l : List Tk} {t : Tk} (h : 0 < l.length) (h2 : t.k ≠ 2) : ftx (l ++ [t]) = ftx l ++ ⟨#[32]⟩ ++ fmtT t.k t.s := by
  have : l ≠ [] := by intro e; subst e; simp at h
  simp [ftx, ftxR, h2, this]
theorem ftxR_size : ∀ (l : List Tk), (ftxR l).size ≤ 9 * l.length := by
  intro l
  induction l with
  | nil => exact Nat.zero_le _
  | cons t r ih =>
    have := fmtT_size t.k t.s
    rw [ftxR, List.length_cons]
    split
    · rw [ByteArray.size_append, ByteArray.size_append]
      have h1 : (⟨#[32]⟩ : ByteArray).size = 1 := rfl
      omega
    · rw [ByteArray.size_append]
      omega
theorem ftx_size (l : List Tk) : (ftx l).size ≤ 9 * l.length := by have := ftxR_size l.reverse; rwa [List.length_reverse] at this
end Go.Proofs.YtijocafindbebaaDoor
