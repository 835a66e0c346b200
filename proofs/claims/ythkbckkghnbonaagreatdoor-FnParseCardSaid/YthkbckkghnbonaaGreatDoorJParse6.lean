/- What the calls that this law reaches answer, part 6 of 16. -/
import Derived.Test.YthkbckkghnbonaaGreatDoorJParse5
import Derived.Lib.Strings
import Derived.Test.YthkbckkghnbonaaGreatDoorJParse2
import Derived.Test.YthkbckkghnbonaaGreatDoorJParse1
namespace Go.Proofs.YthkbckkghnbonaaGreatDoor
open Go.RowKit
set_option linter.unusedVariables false
def symT (k : Int) : ByteArray := if k = 2 then ⟨#[59]⟩ else if k = 3 then ⟨#[123]⟩ else if k = 4 then ⟨#[125]⟩ else ⟨#[]⟩
/-- The text of a token. -/
def fmtT (k : Int) (s : ByteArray) : ByteArray := if k = 1 ∧ wordOk s = true then s else if s.toList = [] then symT k else ⟨#[]⟩
theorem wordOk_size {s : ByteArray} (h : wordOk s = true) : 1 ≤ s.size ∧ s.size ≤ 8 := by
  unfold wordOk at h
  simp only [Bool.and_eq_true] at h
  have := inB_iff.1 h.2
  omega
theorem symT_size (k : Int) : (symT k).size ≤ 1 := by
  unfold symT
  split
  · exact Nat.le_refl _
  · split
    · exact Nat.le_refl _
    · split
      · exact Nat.le_refl _
      · exact Nat.zero_le _
theorem fmtT_size (k : Int) (s : ByteArray) : (fmtT k s).size ≤ 8 := by
  unfold fmtT
  split
  · rename_i h; exact (wordOk_size h.2).2
  · split
    · have := symT_size k; omega
    · exact Nat.zero_le _
theorem fmtT_w {s : ByteArray} (h : wordOk s = true) : fmtT 1 s = s := if_pos ⟨rfl, h⟩
theorem fmtT_e {k : Int} {s : ByteArray} (h : k ≠ 1 ∨ wordOk s = false) (hs : s.toList = []) : fmtT k s = symT k := by
  rw [fmtT, if_neg (by rcases h with h | h <;> simp [h]), if_pos hs]
theorem fmtT_n {k : Int} {s : ByteArray} (h : k ≠ 1 ∨ wordOk s = false) (hs : s.toList ≠ []) : fmtT k s = ⟨#[]⟩ := by
  rw [fmtT, if_neg (by rcases h with h | h <;> simp [h]), if_neg hs]
set_option maxRecDepth 100000 in
set_option maxHeartbeats 2000000 in
theorem FormatToken_impl (k : Int) (s : ByteArray) (w : World) (hs : s.size ≤ 9223372036854775807) : Calls Tryz.prog 94 #[.agg #[.int .i64 k, .string s]] w fun e w' => e = .returned (.string (fmtT k s)) ∧ Below w.heap.size w w' ∧ w.heap.size ≤ w'.heap.size := by
  by_cases h1 : k = 1
  · subst h1
    cases hw : wordOk s
    · by_cases he : s.toList = []
      · have HF := Lib.hid ((fmtT_e (k := 1) (Or.inr hw) he).trans (show symT 1 = ⟨#[]⟩ from rfl))
        have e2 : s.toList.isEmpty = true := by simp [he]
        clear he
        go_enter Tryz.func94, Tryz.ntmps94
        go_wp2_with (go_at_call 42; refine (IsValidWord_impl _ _ hs).mono ?_; rintro e w' ⟨rfl, rfl⟩)
        go_ret
        exact ⟨by rw [HF.out]; rfl, (by repeat (first | exact Below.refl _ _ | assumption | (refine Below.trans ?_ (Below.mono (by assumption) (by first | omega | (simp; done) | (simp; omega)))) | (with_reducible refine Below.drew ?_) | (with_reducible refine Below.alloc ?_ (by first | omega | (simp; done) | (simp; omega)) _) | (with_reducible refine Below.setCell ?_ (by first | omega | (simp; done) | (simp; omega)) _))), (by first | omega | (simp; done) | (simp; omega))⟩
      · have HF := Lib.hid (fmtT_n (k := 1) (Or.inr hw) he)
        have e2 : s.toList.isEmpty = false := by rw [List.isEmpty_eq_false_iff]; exact he
        clear he
        go_enter Tryz.func94, Tryz.ntmps94
        go_wp2_with (go_at_call 42; refine (IsValidWord_impl _ _ hs).mono ?_; rintro e w' ⟨rfl, rfl⟩)
        go_ret
        exact ⟨by rw [HF.out]; rfl, (by repeat (first | exact Below.refl _ _ | assumption | (refine Below.trans ?_ (Below.mono (by assumption) (by first | omega | (simp; done) | (simp; omega)))) | (with_reducible refine Below.drew ?_) | (with_reducible refine Below.alloc ?_ (by first | omega | (simp; done) | (simp; omega)) _) | (with_reducible refine Below.setCell ?_ (by first | omega | (simp; done) | (simp; omega)) _))), (by first | omega | (simp; done) | (simp; omega))⟩
    · have HF := Lib.hid (fmtT_w hw)
      go_enter Tryz.func94, Tryz.ntmps94
      go_wp2_with (go_at_call 42; refine (IsValidWord_impl _ _ hs).mono ?_; rintro e w' ⟨rfl, rfl⟩)
      go_ret
      exact ⟨by rw [HF.out]; rfl, (by repeat (first | exact Below.refl _ _ | assumption | (refine Below.trans ?_ (Below.mono (by assumption) (by first | omega | (simp; done) | (simp; omega)))) | (with_reducible refine Below.drew ?_) | (with_reducible refine Below.alloc ?_ (by first | omega | (simp; done) | (simp; omega)) _) | (with_reducible refine Below.setCell ?_ (by first | omega | (simp; done) | (simp; omega)) _))), (by first | omega | (simp; done) | (simp; omega))⟩
  · have e1 : (k == 1) = false := beq_eq_false_iff_ne.2 h1
    by_cases he : s.toList = []
    · have e2 : s.toList.isEmpty = true := by simp [he]
      have HF := Lib.hid (fmtT_e (k := k) (Or.inl h1) he)
      clear he
      by_cases h2 : k = 2
      · subst h2
        clear h1 e1
        go_enter Tryz.func94, Tryz.ntmps94
        go_wp2_with fail
        go_ret
        exact ⟨by rw [HF.out]; rfl, (by repeat (first | exact Below.refl _ _ | assumption | (refine Below.trans ?_ (Below.mono (by assumption) (by first | omega | (simp; done) | (simp; omega)))) | (with_reducible refine Below.drew ?_) | (with_reducible refine Below.alloc ?_ (by first | omega | (simp; done) | (simp; omega)) _) | (with_reducible refine Below.setCell ?_ (by first | omega | (simp; done) | (simp; omega)) _))), (by first | omega | (simp; done) | (simp; omega))⟩
      · by_cases h3 : k = 3
        · subst h3
          clear h1 h2 e1
          go_enter Tryz.func94, Tryz.ntmps94
          go_wp2_with fail
          go_ret
          exact ⟨by rw [HF.out]; rfl, (by repeat (first | exact Below.refl _ _ | assumption | (refine Below.trans ?_ (Below.mono (by assumption) (by first | omega | (simp; done) | (simp; omega)))) | (with_reducible refine Below.drew ?_) | (with_reducible refine Below.alloc ?_ (by first | omega | (simp; done) | (simp; omega)) _) | (with_reducible refine Below.setCell ?_ (by first | omega | (simp; done) | (simp; omega)) _))), (by first | omega | (simp; done) | (simp; omega))⟩
        · by_cases h4 : k = 4
          · subst h4
            clear h1 h2 h3 e1
            go_enter Tryz.func94, Tryz.ntmps94
            go_wp2_with fail
            go_ret
            exact ⟨by rw [HF.out]; rfl, (by repeat (first | exact Below.refl _ _ | assumption | (refine Below.trans ?_ (Below.mono (by assumption) (by first | omega | (simp; done) | (simp; omega)))) | (with_reducible refine Below.drew ?_) | (with_reducible refine Below.alloc ?_ (by first | omega | (simp; done) | (simp; omega)) _) | (with_reducible refine Below.setCell ?_ (by first | omega | (simp; done) | (simp; omega)) _))), (by first | omega | (simp; done) | (simp; omega))⟩
          · have HS := Lib.hid (HF.out.trans (show symT k = ⟨#[]⟩ by rw [symT, if_neg h2, if_neg h3, if_neg h4]))
            have e3 : (k == 2) = false := beq_eq_false_iff_ne.2 h2
            have e4 : (k == 3) = false := beq_eq_false_iff_ne.2 h3
            have e5 : (k == 4) = false := beq_eq_false_iff_ne.2 h4
            clear h1 h2 h3 h4
            go_enter Tryz.func94, Tryz.ntmps94
            go_wp2_with fail
            go_ret
            exact ⟨by rw [HS.out]; rfl, (by repeat (first | exact Below.refl _ _ | assumption | (refine Below.trans ?_ (Below.mono (by assumption) (by first | omega | (simp; done) | (simp; omega)))) | (with_reducible refine Below.drew ?_) | (with_reducible refine Below.alloc ?_ (by first | omega | (simp; done) | (simp; omega)) _) | (with_reducible refine Below.setCell ?_ (by first | omega | (simp; done) | (simp; omega)) _))), (by first | omega | (simp; done) | (simp; omega))⟩
    · have HF := Lib.hid (fmtT_n (k := k) (Or.inl h1) he)
      have e2 : s.toList.isEmpty = false := by rw [List.isEmpty_eq_false_iff]; exact he
      clear he h1
      go_enter Tryz.func94, Tryz.ntmps94
      go_wp2_with fail
      go_ret
      exact ⟨by rw [HF.out]; rfl, (by repeat (first | exact Below.refl _ _ | assumption | (refine Below.trans ?_ (Below.mono (by assumption) (by first | omega | (simp; done) | (simp; omega)))) | (with_reducible refine Below.drew ?_) | (with_reducible refine Below.alloc ?_ (by first | omega | (simp; done) | (simp; omega)) _) | (with_reducible refine Below.setCell ?_ (by first | omega | (simp; done) | (simp; omega)) _))), (by first | omega | (simp; done) | (simp; omega))⟩
set_option maxRecDepth 100000 in
set_option maxHeartbeats 2000000 in
theorem FormatToken_spec (k : Int) (s : ByteArray) (w : World) (hs : s.size ≤ 9223372036854775807) : Calls Tryz.prog 90 #[.agg #[.int .i64 k, .string s]] w fun e w' => e = .returned (.string (fmtT k s)) ∧ Below w.heap.size w w' ∧ w.heap.size ≤ w'.heap.size := by
  by_cases h1 : k = 1
  · subst h1
    cases hw : wordOk s
    · by_cases he : s.toList = []
      · have HF := Lib.hid ((fmtT_e (k := 1) (Or.inr hw) he).trans (show symT 1 = ⟨#[]⟩ from rfl))
        have e2 : s.toList.isEmpty = true := by simp [he]
        have hIN : inB 1 2 4 = false := rfl
        clear he
        go_enter Tryz.func90, Tryz.ntmps90
        go_wp2_with (first | (go_at_call 104; refine (IsValidWord_spec _ _ hs).mono ?_; rintro e w' ⟨rfl, rfl⟩) | (go_at_call 47; refine (l1In_any _ _ _ _).mono ?_; rintro e w' ⟨rfl, rfl⟩))
        go_ret
        exact ⟨by rw [HF.out]; rfl, (by repeat (first | exact Below.refl _ _ | assumption | (refine Below.trans ?_ (Below.mono (by assumption) (by first | omega | (simp; done) | (simp; omega)))) | (with_reducible refine Below.drew ?_) | (with_reducible refine Below.alloc ?_ (by first | omega | (simp; done) | (simp; omega)) _) | (with_reducible refine Below.setCell ?_ (by first | omega | (simp; done) | (simp; omega)) _))), (by first | omega | (simp; done) | (simp; omega))⟩
      · have HF := Lib.hid (fmtT_n (k := 1) (Or.inr hw) he)
        have e2 : s.toList.isEmpty = false := by rw [List.isEmpty_eq_false_iff]; exact he
        clear he
        go_enter Tryz.func90, Tryz.ntmps90
        go_wp2_with (go_at_call 104; refine (IsValidWord_spec _ _ hs).mono ?_; rintro e w' ⟨rfl, rfl⟩)
        go_ret
        exact ⟨by rw [HF.out]; rfl, (by repeat (first | exact Below.refl _ _ | assumption | (refine Below.trans ?_ (Below.mono (by assumption) (by first | omega | (simp; done) | (simp; omega)))) | (with_reducible refine Below.drew ?_) | (with_reducible refine Below.alloc ?_ (by first | omega | (simp; done) | (simp; omega)) _) | (with_reducible refine Below.setCell ?_ (by first | omega | (simp; done) | (simp; omega)) _))), (by first | omega | (simp; done) | (simp; omega))⟩
    · have HF := Lib.hid (fmtT_w hw)
      go_enter Tryz.func90, Tryz.ntmps90
      go_wp2_with (go_at_call 104; refine (IsValidWord_spec _ _ hs).mono ?_; rintro e w' ⟨rfl, rfl⟩)
      go_ret
      exact ⟨by rw [HF.out]; rfl, (by repeat (first | exact Below.refl _ _ | assumption | (refine Below.trans ?_ (Below.mono (by assumption) (by first | omega | (simp; done) | (simp; omega)))) | (with_reducible refine Below.drew ?_) | (with_reducible refine Below.alloc ?_ (by first | omega | (simp; done) | (simp; omega)) _) | (with_reducible refine Below.setCell ?_ (by first | omega | (simp; done) | (simp; omega)) _))), (by first | omega | (simp; done) | (simp; omega))⟩
  · have e1 : (k == 1) = false := beq_eq_false_iff_ne.2 h1
    by_cases he : s.toList = []
    · have e2 : s.toList.isEmpty = true := by simp [he]
      have HF := Lib.hid (fmtT_e (k := k) (Or.inl h1) he)
      clear he
      by_cases h2 : k = 2
      · subst h2
        have hIN : inB 2 2 4 = true := rfl
        clear h1 e1
        go_enter Tryz.func90, Tryz.ntmps90
        go_wp2_with (go_at_call 47; refine (l1In_any _ _ _ _).mono ?_; rintro e w' ⟨rfl, rfl⟩)
        go_ret
        exact ⟨by rw [HF.out]; rfl, (by repeat (first | exact Below.refl _ _ | assumption | (refine Below.trans ?_ (Below.mono (by assumption) (by first | omega | (simp; done) | (simp; omega)))) | (with_reducible refine Below.drew ?_) | (with_reducible refine Below.alloc ?_ (by first | omega | (simp; done) | (simp; omega)) _) | (with_reducible refine Below.setCell ?_ (by first | omega | (simp; done) | (simp; omega)) _))), (by first | omega | (simp; done) | (simp; omega))⟩
      · by_cases h3 : k = 3
        · subst h3
          have hIN : inB 3 2 4 = true := rfl
          clear h1 h2 e1
          go_enter Tryz.func90, Tryz.ntmps90
          go_wp2_with (go_at_call 47; refine (l1In_any _ _ _ _).mono ?_; rintro e w' ⟨rfl, rfl⟩)
          go_ret
          exact ⟨by rw [HF.out]; rfl, (by repeat (first | exact Below.refl _ _ | assumption | (refine Below.trans ?_ (Below.mono (by assumption) (by first | omega | (simp; done) | (simp; omega)))) | (with_reducible refine Below.drew ?_) | (with_reducible refine Below.alloc ?_ (by first | omega | (simp; done) | (simp; omega)) _) | (with_reducible refine Below.setCell ?_ (by first | omega | (simp; done) | (simp; omega)) _))), (by first | omega | (simp; done) | (simp; omega))⟩
        · by_cases h4 : k = 4
          · subst h4
            have hIN : inB 4 2 4 = true := rfl
            clear h1 h2 h3 e1
            go_enter Tryz.func90, Tryz.ntmps90
            go_wp2_with (go_at_call 47; refine (l1In_any _ _ _ _).mono ?_; rintro e w' ⟨rfl, rfl⟩)
            go_ret
            exact ⟨by rw [HF.out]; rfl, (by repeat (first | exact Below.refl _ _ | assumption | (refine Below.trans ?_ (Below.mono (by assumption) (by first | omega | (simp; done) | (simp; omega)))) | (with_reducible refine Below.drew ?_) | (with_reducible refine Below.alloc ?_ (by first | omega | (simp; done) | (simp; omega)) _) | (with_reducible refine Below.setCell ?_ (by first | omega | (simp; done) | (simp; omega)) _))), (by first | omega | (simp; done) | (simp; omega))⟩
          · have HS := Lib.hid (HF.out.trans (show symT k = ⟨#[]⟩ by rw [symT, if_neg h2, if_neg h3, if_neg h4]))
            have hIN : inB k 2 4 = false := inB_f (by omega)
            clear h1 h2 h3 h4
            go_enter Tryz.func90, Tryz.ntmps90
            go_wp2_with (go_at_call 47; refine (l1In_any _ _ _ _).mono ?_; rintro e w' ⟨rfl, rfl⟩)
            go_ret
            exact ⟨by rw [HS.out]; rfl, (by repeat (first | exact Below.refl _ _ | assumption | (refine Below.trans ?_ (Below.mono (by assumption) (by first | omega | (simp; done) | (simp; omega)))) | (with_reducible refine Below.drew ?_) | (with_reducible refine Below.alloc ?_ (by first | omega | (simp; done) | (simp; omega)) _) | (with_reducible refine Below.setCell ?_ (by first | omega | (simp; done) | (simp; omega)) _))), (by first | omega | (simp; done) | (simp; omega))⟩
    · have HF := Lib.hid (fmtT_n (k := k) (Or.inl h1) he)
      have e2 : s.toList.isEmpty = false := by rw [List.isEmpty_eq_false_iff]; exact he
      clear he h1
      go_enter Tryz.func90, Tryz.ntmps90
      go_wp2_with fail
      go_ret
      exact ⟨by rw [HF.out]; rfl, (by repeat (first | exact Below.refl _ _ | assumption | (refine Below.trans ?_ (Below.mono (by assumption) (by first | omega | (simp; done) | (simp; omega)))) | (with_reducible refine Below.drew ?_) | (with_reducible refine Below.alloc ?_ (by first | omega | (simp; done) | (simp; omega)) _) | (with_reducible refine Below.setCell ?_ (by first | omega | (simp; done) | (simp; omega)) _))), (by first | omega | (simp; done) | (simp; omega))⟩
/-- The text of a list of tokens. -/
def ftxR : List Tk → ByteArray
  | [] => ⟨#[]⟩
  | t :: r => (if r ≠ [] ∧ t.k ≠ 2 then ftxR r ++ ⟨#[32]⟩ else ftxR r) ++ fmtT t.k t.s
def ftx (l : List Tk) : ByteArray := ftxR l.reverse
theorem ftx_snoc0 (t : Tk) : ftx ([] ++ [t]) = ftx [] ++ fmtT t.k t.s := by simp [ftx, ftxR]
theorem ftx_snoc1 {l : List Tk} {t : Tk} (h : t.k = 2) : ftx (l ++ [t]) = ftx l ++ fmtT t.k t.s := by simp [ftx, ftxR, h]
theorem ftx_snoc2 {l : List Tk} {t : Tk} (h : 0 < l.length) (h2 : t.k ≠ 2) : ftx (l ++ [t]) = ftx l ++ ⟨#[32]⟩ ++ fmtT t.k t.s := by
  have : l ≠ [] := by intro e; subst e; simp at h
  simp [ftx, ftxR, h2, this]
theorem ftxR_size : ∀ (l : List Tk), (ftxR l).size ≤ 9 * l.length := by
  intro l
  induction l with
  | nil => exact Nat.zero_le _
  | cons t r ih =>
    have := fmtT_size t.k t.s
    rw [ftxR, List.length_cons]
    split
    · rw [ByteArray.size_append, ByteArray.size_append]
      have h1 : (⟨#[32]⟩ : ByteArray).size = 1 := rfl
      omega
    · rw [ByteArray.size_append]
      omega
theorem ftx_size (l : List Tk) : (ftx l).size ≤ 9 * l.length := by have := ftxR_size l.reverse; rwa [List.length_reverse] at this

theorem take_snoc' {α : Type} {l : List α} {t : Nat} {x : α} (h : l[t]? = some x) : l.take (t + 1) = l.take t ++ [x] := by rw [List.take_add_one, h]; rfl
set_option maxRecDepth 100000 in
set_option maxHeartbeats 2000000 in
theorem FormatTokens_impl (A : Option Addr) (n c : Nat) (l : List Tk) (w : World) (h : Rd w 2 A n (tkcs l)) (hl : l.length = n) (hn : n ≤ 1099511627776) (hz : ∀ t ∈ l, t.s.size ≤ 1099511627776) :
    Calls Tryz.prog 38 #[.slice A n c] w fun e w' => e = .returned (.string (ftx l)) ∧ Below w.heap.size w w' ∧ w.heap.size ≤ w'.heap.size := by
  have H := Lib.hid h
  have HL := Lib.hid hl
  have HZ := Lib.hid hz
  clear h hl hz
  go_enter Tryz.func38, Tryz.ntmps38
  go_wp2
  go_loopw [3, 8] (fun v i wr => ∃ t : Nat, t ≤ n ∧ i = .int .i64 t ∧ v = .string (ftx (l.take t)) ∧ Below w.heap.size w wr) (fun _ i _ => n - (intOf i).toNat)
  case atStart => exact ⟨0, Nat.zero_le _, rfl, rfl, Below.refl _ _⟩
  case round =>
    obtain ⟨t, ht, rfl, rfl, hb⟩ := hrel
    have hbs := hb.size
    by_cases hlt : t < n
    · obtain ⟨x, hx⟩ : ∃ x, l[t]? = some x := ⟨_, List.getElem?_eq_getElem (by rw [HL.out]; exact hlt)⟩
      obtain ⟨b, off, rfl, hbl, q0, q1⟩ := rd_tk (H.out.below hb) HL.out hx
      have hxz : x.s.size ≤ 9223372036854775807 := by have := HZ.out x (List.mem_of_getElem? hx); omega
      have hfz := fmtT_size x.k x.s
      have htk := take_snoc' hx
      have hal : (l.take t).length = t := by rw [List.length_take, HL.out]; omega
      have haz := ftx_size (l.take t)
      rw [hal] at haz
      have HTK := Lib.hid htk
      have HAL := Lib.hid hal
      obtain ⟨lt, hlt'⟩ : ∃ lt, lt = l.take t := ⟨_, rfl⟩
      rw [← hlt'] at HTK HAL haz ⊢
      obtain ⟨acc, hacc⟩ : ∃ acc, acc = ftx lt := ⟨_, rfl⟩
      have HACC := Lib.hid hacc
      rw [← hacc] at haz ⊢
      obtain ⟨f, hf⟩ : ∃ f, f = fmtT x.k x.s := ⟨_, rfl⟩
      have HF := Lib.hid hf
      rw [← hf] at hfz
      clear hx htk hal hlt' hacc hf
      by_cases h0 : t = 0
      · have hlt0 : lt = [] := List.eq_nil_of_length_eq_zero (by rw [HAL.out]; exact h0)
        have HL0 := Lib.hid hlt0
        have d0 : decide (0 < (t : Int)) = false := by simp; omega
        have d1 : decide (0 < t) = false := by simp; omega
        have e2 : ∀ w : World, (Op.stringOp .add acc f).run Tryz.prog w = .ok (.string (acc ++ f)) w := fun w => run_string_add_sum w _ _ (by omega)
        clear hlt0 h0
        go_wp2_with fail
        refine (FormatToken_impl _ _ _ hxz).mono ?_
        rintro e w1 ⟨rfl, b1, s1⟩
        rw [← HF.out]
        have hbN : Below w.heap.size w w1 := (hb.alloc hbs _).trans (b1.mono (by simp; omega))
        go_wp2_with fail
        go_roundw
        case rel => exact ⟨t + 1, by omega, by go_num, by rw [HTK.out, HL0.out, ftx_snoc0, ← HL0.out, ← HACC.out, ← HF.out], hbN⟩
        case measure => simp [intOf]; omega
      · have d0 : decide (0 < (t : Int)) = true := by simp; omega
        have d1 : decide (0 < t) = true := by simp; omega
        by_cases hk : x.k = 2
        · have ek : (x.k != 2) = false := by simp [hk]
          have e2 : ∀ w : World, (Op.stringOp .add acc f).run Tryz.prog w = .ok (.string (acc ++ f)) w := fun w => run_string_add_sum w _ _ (by omega)
          have HK := Lib.hid hk
          clear hk
          go_wp2_with fail
          refine (FormatToken_impl _ _ _ hxz).mono ?_
          rintro e w1 ⟨rfl, b1, s1⟩
          rw [← HF.out]
          have hbN : Below w.heap.size w w1 := (hb.alloc hbs _).trans (b1.mono (by simp; omega))
          go_wp2_with fail
          go_roundw
          case rel => exact ⟨t + 1, by omega, by go_num, by rw [HTK.out, ftx_snoc1 HK.out, ← HACC.out, ← HF.out], hbN⟩
          case measure => simp [intOf]; omega
        · have ek : (x.k != 2) = true := by simp [hk]
          have e1 : ∀ w : World, (Op.stringOp .add acc ⟨#[32]⟩).run Tryz.prog w = .ok (.string (acc ++ ⟨#[32]⟩)) w := fun w => run_string_add_sum w _ _ (by show acc.size + 1 ≤ _; omega)
          have e2 : ∀ w : World, (Op.stringOp .add (acc ++ ⟨#[32]⟩) f).run Tryz.prog w = .ok (.string (acc ++ ⟨#[32]⟩ ++ f)) w := fun w => run_string_add_sum w _ _ (by rw [ByteArray.size_append]; show acc.size + 1 + f.size ≤ _; omega)
          have HK := Lib.hid hk
          clear hk
          go_wp2_with fail
          refine (FormatToken_impl _ _ _ hxz).mono ?_
          rintro e w1 ⟨rfl, b1, s1⟩
          rw [← HF.out]
          have hbN : Below w.heap.size w w1 := (hb.alloc hbs _).trans (b1.mono (by simp; omega))
          go_wp2_with fail
          go_roundw
          case rel => exact ⟨t + 1, by omega, by go_num, by rw [HTK.out, ftx_snoc2 (by rw [HAL.out]; omega) HK.out, ← HACC.out, ← HF.out], hbN⟩
          case measure => simp [intOf]; omega
    · obtain rfl : t = n := by omega
      have HF : Hid (ftx (l.take t) = ftx l) := by rw [List.take_of_length_le (by rw [HL.out]; exact Nat.le_refl _)]; exact rfl
      go_wp2_with fail
      go_ret
      exact ⟨by rw [← HF.out]; rfl, hb, hb.size⟩
set_option maxRecDepth 100000 in
set_option maxHeartbeats 2000000 in
theorem FormatTokens_spec (A : Option Addr) (n c : Nat) (l : List Tk) (w : World) (h : Rd w 2 A n (tkcs l)) (hl : l.length = n) (hn : n ≤ 1099511627776) (hz : ∀ t ∈ l, t.s.size ≤ 1099511627776) :
    Calls Tryz.prog 40 #[.slice A n c] w fun e w' => e = .returned (.string (ftx l)) ∧ Below w.heap.size w w' ∧ w.heap.size ≤ w'.heap.size := by
  have H := Lib.hid h
  have HL := Lib.hid hl
  have HZ := Lib.hid hz
  clear h hl hz
  go_enter Tryz.func40, Tryz.ntmps40
  go_wp2
  go_loopw [3, 4] (fun v i wr => ∃ t : Nat, t ≤ n ∧ i = .int .i64 t ∧ v = .string (ftx (l.take t)) ∧ Below w.heap.size w wr) (fun _ i _ => n - (intOf i).toNat)
  case atStart => exact ⟨0, Nat.zero_le _, rfl, rfl, Below.refl _ _⟩
  case round =>
    obtain ⟨t, ht, rfl, rfl, hb⟩ := hrel
    have hbs := hb.size
    by_cases hlt : t < n
    · obtain ⟨x, hx⟩ : ∃ x, l[t]? = some x := ⟨_, List.getElem?_eq_getElem (by rw [HL.out]; exact hlt)⟩
      obtain ⟨b, off, rfl, hbl, q0, q1⟩ := rd_tk (H.out.below hb) HL.out hx
      have hxz : x.s.size ≤ 9223372036854775807 := by have := HZ.out x (List.mem_of_getElem? hx); omega
      have hfz := fmtT_size x.k x.s
      have htk := take_snoc' hx
      have hal : (l.take t).length = t := by rw [List.length_take, HL.out]; omega
      have haz := ftx_size (l.take t)
      rw [hal] at haz
      have HTK := Lib.hid htk
      have HAL := Lib.hid hal
      obtain ⟨lt, hlt'⟩ : ∃ lt, lt = l.take t := ⟨_, rfl⟩
      rw [← hlt'] at HTK HAL haz ⊢
      obtain ⟨acc, hacc⟩ : ∃ acc, acc = ftx lt := ⟨_, rfl⟩
      have HACC := Lib.hid hacc
      rw [← hacc] at haz ⊢
      obtain ⟨f, hf⟩ : ∃ f, f = fmtT x.k x.s := ⟨_, rfl⟩
      have HF := Lib.hid hf
      rw [← hf] at hfz
      clear hx htk hal hlt' hacc hf
      by_cases h0 : t = 0
      · have hlt0 : lt = [] := List.eq_nil_of_length_eq_zero (by rw [HAL.out]; exact h0)
        have HL0 := Lib.hid hlt0
        have d0 : decide (0 < (t : Int)) = false := by simp; omega
        have d1 : decide (0 < t) = false := by simp; omega
        have e2 : ∀ w : World, (Op.stringOp .add acc f).run Tryz.prog w = .ok (.string (acc ++ f)) w := fun w => run_string_add_sum w _ _ (by omega)
        clear hlt0 h0
        go_wp2_with fail
        refine (FormatToken_spec _ _ _ hxz).mono ?_
        rintro e w1 ⟨rfl, b1, s1⟩
        rw [← HF.out]
        have hbN : Below w.heap.size w w1 := hb.trans (b1.mono hbs)
        go_wp2_with fail
        go_roundw
        case rel => exact ⟨t + 1, by omega, by go_num, by rw [HTK.out, HL0.out, ftx_snoc0, ← HL0.out, ← HACC.out, ← HF.out], hbN⟩
        case measure => simp [intOf]; omega
      · have d0 : decide (0 < (t : Int)) = true := by simp; omega
        have d1 : decide (0 < t) = true := by simp; omega
        by_cases hk : x.k = 2
        · have ek : (x.k != 2) = false := by simp [hk]
          have e2 : ∀ w : World, (Op.stringOp .add acc f).run Tryz.prog w = .ok (.string (acc ++ f)) w := fun w => run_string_add_sum w _ _ (by omega)
          have HK := Lib.hid hk
          clear hk
          go_wp2_with fail
          refine (FormatToken_spec _ _ _ hxz).mono ?_
          rintro e w1 ⟨rfl, b1, s1⟩
          rw [← HF.out]
          have hbN : Below w.heap.size w w1 := hb.trans (b1.mono hbs)
          go_wp2_with fail
          go_roundw
          case rel => exact ⟨t + 1, by omega, by go_num, by rw [HTK.out, ftx_snoc1 HK.out, ← HACC.out, ← HF.out], hbN⟩
          case measure => simp [intOf]; omega
        · have ek : (x.k != 2) = true := by simp [hk]
          have e1 : ∀ w : World, (Op.stringOp .add acc ⟨#[32]⟩).run Tryz.prog w = .ok (.string (acc ++ ⟨#[32]⟩)) w := fun w => run_string_add_sum w _ _ (by show acc.size + 1 ≤ _; omega)
          have e2 : ∀ w : World, (Op.stringOp .add (acc ++ ⟨#[32]⟩) f).run Tryz.prog w = .ok (.string (acc ++ ⟨#[32]⟩ ++ f)) w := fun w => run_string_add_sum w _ _ (by rw [ByteArray.size_append]; show acc.size + 1 + f.size ≤ _; omega)
          have HK := Lib.hid hk
          clear hk
          go_wp2_with fail
          refine (FormatToken_spec _ _ _ hxz).mono ?_
          rintro e w1 ⟨rfl, b1, s1⟩
          rw [← HF.out]
          have hbN : Below w.heap.size w w1 := hb.trans (b1.mono hbs)
          go_wp2_with fail
          go_roundw
          case rel => exact ⟨t + 1, by omega, by go_num, by rw [HTK.out, ftx_snoc2 (by rw [HAL.out]; omega) HK.out, ← HACC.out, ← HF.out], hbN⟩
          case measure => simp [intOf]; omega
    · obtain rfl : t = n := by omega
      have HF : Hid (ftx (l.take t) = ftx l) := by rw [List.take_of_length_le (by rw [HL.out]; exact Nat.le_refl _)]; exact rfl
      go_wp2_with fail
      go_ret
      exact ⟨by rw [← HF.out]; rfl, hb, hb.size⟩
end Go.Proofs.YthkbckkghnbonaaGreatDoor
namespace Go.Proofs.YthkbckkghnbonaaGreatDoor
open Go.RowKit
set_option linter.unusedVariables false
def letU (c : UInt8) : Bool := ltrB (c.toNat : Int)
def mrk (c : UInt8) : Nat := if c = 59 then 2 else if c = 123 then 3 else if c = 125 then 4 else 0
def blk (c : UInt8) : Bool := c == 32 || c == 10
theorem dropWhile_len (p : UInt8 → Bool) : ∀ l : List UInt8, (l.dropWhile p).length ≤ l.length := by
  intro l
  induction l with
  | nil => exact Nat.le_refl _
  | cons x l ih =>
    rw [List.dropWhile_cons]
    split
    · rw [List.length_cons]; omega
    · exact Nat.le_refl _
/-- The tokens of the bytes that are left, where n tokens stand already. -/
def tkz : List UInt8 → Nat → Option (List Tk)
  | [], _ => some []
  | c :: r, n =>
    if blk c = true then tkz r n
    else if 160 ≤ n then none
    else if mrk c ≠ 0 then (tkz r (n + 1)).map (pTk (mrk c) :: ·)
    else if letU c = true ∧ (r.takeWhile letU).length ≤ 7 then (tkz (r.dropWhile letU) (n + 1)).map (wTk ⟨(c :: r.takeWhile letU).toArray⟩ :: ·)
    else none
termination_by s => s.length
decreasing_by
  · simp
  · simp
  · have := dropWhile_len letU r
    simp
    omega
theorem tkz_nil (n : Nat) : tkz [] n = some [] := by rw [tkz]
theorem tkz_blk {c : UInt8} {r : List UInt8} {n : Nat} (h : blk c = true) : tkz (c :: r) n = tkz r n := by rw [tkz, if_pos h]
theorem tkz_full {c : UInt8} {r : List UInt8} {n : Nat} (h : blk c = false) (hn : 160 ≤ n) : tkz (c :: r) n = none := by rw [tkz, if_neg (by rw [h]; decide), if_pos hn]
theorem tkz_mrk {c : UInt8} {r : List UInt8} {n : Nat} (h : blk c = false) (hn : n < 160) (hm : mrk c ≠ 0) : tkz (c :: r) n = (tkz r (n + 1)).map (pTk (mrk c) :: ·) := by rw [tkz, if_neg (by rw [h]; decide), if_neg (by omega), if_pos hm]
theorem tkz_word {c : UInt8} {r : List UInt8} {n : Nat} (h : blk c = false) (hn : n < 160) (hm : mrk c = 0) (hl : letU c = true) (h8 : (r.takeWhile letU).length ≤ 7) : tkz (c :: r) n = (tkz (r.dropWhile letU) (n + 1)).map (wTk ⟨(c :: r.takeWhile letU).toArray⟩ :: ·) := by
  rw [tkz, if_neg (by rw [h]; decide), if_neg (by omega), if_neg (by simp [hm]), if_pos ⟨hl, h8⟩]
theorem tkz_bad {c : UInt8} {r : List UInt8} {n : Nat} (h : blk c = false) (hm : mrk c = 0) (hl : ¬ (letU c = true ∧ (r.takeWhile letU).length ≤ 7)) : tkz (c :: r) n = none := by
  rw [tkz, if_neg (by rw [h]; decide)]
  by_cases hn : 160 ≤ n
  · rw [if_pos hn]
  · rw [if_neg hn, if_neg (by simp [hm]), if_neg hl]
def wellTk (t : Tk) : Prop := (t.k = 1 ∧ wordOk t.s = true) ∨ ((t.k = 2 ∨ t.k = 3 ∨ t.k = 4) ∧ t.s = ⟨#[]⟩)
theorem mrk_cases (c : UInt8) : mrk c = 0 ∨ mrk c = 2 ∨ mrk c = 3 ∨ mrk c = 4 := by
  unfold mrk
  split
  · simp
  · split
    · simp
    · split <;> simp
theorem all_takeWhile {α : Type} (p : α → Bool) : ∀ l : List α, (l.takeWhile p).all p = true := by
  intro l
  induction l with
  | nil => rfl
  | cons x l ih =>
    rw [List.takeWhile_cons]
    cases h : p x
    · rfl
    · simp only [if_true, List.all_cons, h, ih]; rfl
theorem wordOk_of {l : List UInt8} (h : l.all letU = true) (h1 : 1 ≤ l.length) (h8 : l.length ≤ 8) : wordOk ⟨l.toArray⟩ = true := by
  have hs : (ByteArray.mk l.toArray).size = l.length := by show l.toArray.size = _; simp
  unfold wordOk letsUpto
  rw [hs, Bool.and_eq_true]
  refine ⟨?_, inB_iff.2 (by omega)⟩
  show (List.take l.length l).all _ = true
  rw [List.take_length]
  exact h
theorem tkz_well : ∀ (m : Nat) (s : List UInt8) (n : Nat) (T : List Tk), s.length ≤ m → tkz s n = some T → n ≤ 160 → (∀ t ∈ T, wellTk t) ∧ n + T.length ≤ 160 := by
  intro m
  induction m with
  | zero =>
    intro s n T hs h hn
    obtain rfl : s = [] := List.eq_nil_of_length_eq_zero (by omega)
    rw [tkz_nil] at h
    injection h with h
    subst h
    exact ⟨by simp, by simpa using hn⟩
  | succ m ih =>
    intro s n T hs h hn
    cases s with
    | nil =>
      rw [tkz_nil] at h
      injection h with h
      subst h
      exact ⟨by simp, by simpa using hn⟩
    | cons c r =>
      rw [List.length_cons] at hs
      cases hb : blk c
      · rcases Nat.lt_or_ge n 160 with h1 | h1
        · by_cases hm : mrk c = 0
          · by_cases hl : letU c = true ∧ (r.takeWhile letU).length ≤ 7
            · rw [tkz_word hb h1 hm hl.1 hl.2, Option.map_eq_some_iff] at h
              obtain ⟨T', h', rfl⟩ := h
              have hd := dropWhile_len letU r
              obtain ⟨a1, a2⟩ := ih _ _ _ (by omega) h' (by omega)
              refine ⟨?_, by rw [List.length_cons]; omega⟩
              intro t ht
              rcases List.mem_cons.1 ht with rfl | ht
              · exact .inl ⟨rfl, wordOk_of (by rw [List.all_cons, hl.1, all_takeWhile]; rfl) (by simp) (by rw [List.length_cons]; omega)⟩
              · exact a1 t ht
            · rw [tkz_bad hb hm hl] at h
              cases h
          · rw [tkz_mrk hb h1 hm, Option.map_eq_some_iff] at h
            obtain ⟨T', h', rfl⟩ := h
            obtain ⟨a1, a2⟩ := ih _ _ _ (by omega) h' (by omega)
            refine ⟨?_, by rw [List.length_cons]; omega⟩
            intro t ht
            rcases List.mem_cons.1 ht with rfl | ht
            · refine .inr ⟨?_, rfl⟩
              show (mrk c : Int) = 2 ∨ (mrk c : Int) = 3 ∨ (mrk c : Int) = 4
              have := mrk_cases c
              omega
            · exact a1 t ht
        · rw [tkz_full hb h1] at h
          cases h
      · rw [tkz_blk hb] at h
        exact ih _ _ _ (by omega) h hn
/-- The bytes of a token. -/
def tkb (t : Tk) : List UInt8 := (fmtT t.k t.s).data.toList
def tailB : List Tk → List UInt8
  | [] => []
  | t :: r => (if t.k = 2 then [] else [32]) ++ (tkb t ++ tailB r)
theorem tailB_snoc (t : Tk) : ∀ l : List Tk, tailB (l ++ [t]) = tailB l ++ ((if t.k = 2 then [] else [32]) ++ tkb t) := by
  intro l
  induction l with
  | nil => simp [tailB]
  | cons x l ih => rw [List.cons_append, tailB, ih, tailB]; simp only [List.append_assoc]
theorem bytes_append (a b : ByteArray) : (a ++ b).data.toList = a.data.toList ++ b.data.toList := by
  rw [ByteArray.data_append]
  simp
theorem ftxR_tail (t : Tk) : ∀ l : List Tk, (ftxR (l ++ [t])).data.toList = tkb t ++ tailB l.reverse := by
  intro l
  induction l with
  | nil =>
    rw [List.nil_append, ftxR, if_neg (by simp), bytes_append]
    simp [ftxR, tailB, tkb]
  | cons x l ih =>
    have hne : l ++ [t] ≠ [] := by simp
    rw [List.cons_append, ftxR, bytes_append, List.reverse_cons, tailB_snoc, ← List.append_assoc, ← ih]
    by_cases hk : x.k = 2
    · rw [if_neg (by simp [hk]), if_pos hk]
      rfl
    · rw [if_pos ⟨hne, hk⟩, if_neg hk, bytes_append]
      simp [tkb]
theorem ftx_tail (t : Tk) (r : List Tk) : (ftx (t :: r)).data.toList = tkb t ++ tailB r := by
  unfold ftx
  rw [List.reverse_cons, ftxR_tail, List.reverse_reverse]
theorem nil_toList : (⟨#[]⟩ : ByteArray).toList = [] := by
  unfold ByteArray.toList
  rw [ByteArray.toList.loop]
  rfl
theorem fmt_mark {k : Int} (h : k ≠ 1) : (fmtT k ⟨#[]⟩).data.toList = (symT k).data.toList := by rw [fmtT_e (Or.inl h) nil_toList]
/-- What follows a token begins with no letter. -/
theorem tailB_head {l : List Tk} (h : ∀ t ∈ l, wellTk t) : (tailB l).takeWhile letU = [] ∧ (tailB l).dropWhile letU = tailB l := by
  cases l with
  | nil => exact ⟨rfl, rfl⟩
  | cons t r =>
    by_cases hk : t.k = 2
    · have hs : t.s = ⟨#[]⟩ := by
        rcases h t (by simp) with ⟨h1, _⟩ | ⟨_, h1⟩
        · omega
        · exact h1
      have hb : tkb t = [59] := by unfold tkb; rw [hk, hs, fmt_mark (by decide)]; rfl
      have : tailB (t :: r) = 59 :: tailB r := by rw [tailB, if_pos hk, hb]; rfl
      rw [this, List.takeWhile_cons_of_neg (by decide), List.dropWhile_cons_of_neg (by decide)]
      exact ⟨rfl, rfl⟩
    · have : tailB (t :: r) = 32 :: (tkb t ++ tailB r) := by rw [tailB, if_neg hk]; rfl
      rw [this, List.takeWhile_cons_of_neg (by decide), List.dropWhile_cons_of_neg (by decide)]
      exact ⟨rfl, rfl⟩
theorem let_noblk {c : UInt8} (h : letU c = true) : blk c = false ∧ mrk c = 0 := by
  have h1 : c ≠ 32 := by rintro rfl; revert h; decide
  have h2 : c ≠ 10 := by rintro rfl; revert h; decide
  have h3 : c ≠ 59 := by rintro rfl; revert h; decide
  have h4 : c ≠ 123 := by rintro rfl; revert h; decide
  have h5 : c ≠ 125 := by rintro rfl; revert h; decide
  exact ⟨by simp [blk, h1, h2], by simp [mrk, h3, h4, h5]⟩
theorem takeWhile_all_append {α : Type} (p : α → Bool) : ∀ (l q : List α), l.all p = true → (l ++ q).takeWhile p = l ++ q.takeWhile p ∧ (l ++ q).dropWhile p = q.dropWhile p := by
  intro l q
  induction l with
  | nil => intro _; exact ⟨rfl, rfl⟩
  | cons x l ih =>
    intro h
    rw [List.all_cons, Bool.and_eq_true] at h
    obtain ⟨h1, h2⟩ := ih h.2
    rw [List.cons_append, List.takeWhile_cons_of_pos h.1, List.dropWhile_cons_of_pos h.1, h1, h2]
    exact ⟨rfl, rfl⟩
theorem word_bytes {s : ByteArray} (h : wordOk s = true) : ∃ c cs, s.data.toList = c :: cs ∧ letU c = true ∧ cs.all letU = true ∧ cs.length ≤ 7 := by
  have hz := wordOk_size h
  have hl : s.data.toList.length = s.size := by simp
  unfold wordOk letsUpto at h
  rw [Bool.and_eq_true, List.take_of_length_le (by rw [hl]; exact Nat.le_refl _)] at h
  cases hd : s.data.toList with
  | nil => rw [hd] at hl; simp at hl; omega
  | cons c cs =>
    rw [hd, List.all_cons, Bool.and_eq_true] at h
    rw [hd, List.length_cons] at hl
    exact ⟨c, cs, rfl, h.1.1, h.1.2, by omega⟩
theorem tkz_tok {t : Tk} {q : List UInt8} {n : Nat} (h : wellTk t) (hn : n < 160) (h1 : q.takeWhile letU = []) (h2 : q.dropWhile letU = q) : tkz (tkb t ++ q) n = (tkz q (n + 1)).map (t :: ·) := by
  obtain ⟨k, s⟩ := t
  rcases h with ⟨hk, hw⟩ | ⟨hk, hs⟩
  · simp only at hk hw
    subst hk
    obtain ⟨c, cs, hd, hc, hcs, h7⟩ := word_bytes hw
    have hb : tkb ⟨1, s⟩ = c :: cs := by unfold tkb; rw [fmtT_w hw, hd]
    obtain ⟨n1, n2⟩ := let_noblk hc
    obtain ⟨t1, t2⟩ := takeWhile_all_append letU cs q hcs
    rw [h1, List.append_nil] at t1
    rw [h2] at t2
    rw [hb, List.cons_append, tkz_word n1 hn n2 hc (by rw [t1]; exact h7), t1, t2]
    have e : (⟨(c :: cs).toArray⟩ : ByteArray) = s := by rw [← hd]
    rw [e]
    rfl
  · simp only at hk hs
    subst hs
    rcases hk with rfl | rfl | rfl
    · have hb : tkb ⟨2, ⟨#[]⟩⟩ = [59] := by unfold tkb; rw [fmt_mark (by decide)]; rfl
      rw [hb]
      exact tkz_mrk (by decide) hn (by decide)
    · have hb : tkb ⟨3, ⟨#[]⟩⟩ = [123] := by unfold tkb; rw [fmt_mark (by decide)]; rfl
      rw [hb]
      exact tkz_mrk (by decide) hn (by decide)
    · have hb : tkb ⟨4, ⟨#[]⟩⟩ = [125] := by unfold tkb; rw [fmt_mark (by decide)]; rfl
      rw [hb]
      exact tkz_mrk (by decide) hn (by decide)
theorem tkz_tail : ∀ (l : List Tk) (n : Nat), (∀ t ∈ l, wellTk t) → n + l.length ≤ 160 → tkz (tailB l) n = some l := by
  intro l
  induction l with
  | nil => intro n _ _; exact tkz_nil n
  | cons t r ih =>
    intro n h hn
    rw [List.length_cons] at hn
    have hr : ∀ t ∈ r, wellTk t := fun x hx => h x (by simp [hx])
    obtain ⟨h1, h2⟩ := tailB_head hr
    have hq := tkz_tok (h t (by simp)) (q := tailB r) (n := n) (by omega) h1 h2
    rw [ih (n + 1) hr (by omega)] at hq
    by_cases hk : t.k = 2
    · rw [tailB, if_pos hk, List.nil_append, hq]; rfl
    · rw [tailB, if_neg hk]
      show tkz (32 :: (tkb t ++ tailB r)) n = _
      rw [tkz_blk (by decide), hq]; rfl
/-- The tokens of a text, or none. -/
def tkS (s : ByteArray) : Option (List Tk) := tkz s.data.toList 0
end Go.Proofs.YthkbckkghnbonaaGreatDoor
namespace Go.Proofs.YthkbckkghnbonaaGreatDoor
open Go.RowKit
set_option linter.unusedVariables false
/-- What Tokenize returns: the tokens, and whether there are some. -/
def RetTkz (r : Option (List Tk)) (w : World) (e : Ending) (w' : World) : Prop :=
  ∃ (A : Option Addr) (c : Nat) (T : List Tk), T = r.getD [] ∧ e = .returned (.tuple #[.slice A T.length c, .bool r.isSome]) ∧ Rd w' 2 A T.length (tkcs T) ∧ Below w.heap.size w w' ∧ w.heap.size ≤ w'.heap.size
theorem bytes_drop {s : ByteArray} {k : Nat} (h : k < s.size) : s.data.toList.drop k = s[k] :: s.data.toList.drop (k + 1) := by
  have hl : k < s.data.toList.length := by simpa using h
  rw [List.drop_eq_getElem_cons hl]
  simp
  rfl
theorem bytes_len (s : ByteArray) : s.data.toList.length = s.size := by simp
theorem u8_ne {a : UInt8} {n : Nat} (hn : n < 256) (h : a ≠ UInt8.ofNat n) : ((a.toNat : Int) == (n : Int)) = false := by
  rw [beq_eq_false_iff_ne]
  intro e
  apply h
  apply UInt8.toNat_inj.1
  rw [UInt8.toNat_ofNat', Nat.mod_eq_of_lt hn]
  omega
/-- Where the letters from k on end. -/
theorem word_run {s : ByteArray} {k j : Nat} (hk : k ≤ j) (hj : j ≤ s.size) (h : ∀ q (hq : q < s.size), k ≤ q → q < j → letU s[q] = true) :
    (s.data.toList.drop k).takeWhile letU = (s.data.toList.drop k).take (j - k) ++ (s.data.toList.drop j).takeWhile letU ∧ (s.data.toList.drop k).dropWhile letU = (s.data.toList.drop j).dropWhile letU := by
  have hs : s.data.toList.drop k = (s.data.toList.drop k).take (j - k) ++ s.data.toList.drop j := by
    have h1 := List.take_append_drop (j - k) (s.data.toList.drop k)
    rw [List.drop_drop, Nat.add_sub_cancel' hk] at h1
    exact h1.symm
  have ha : ((s.data.toList.drop k).take (j - k)).all letU = true := by
    rw [List.all_eq_true]
    intro x hx
    obtain ⟨i, hi⟩ := List.mem_iff_getElem?.1 hx
    have hil := (List.getElem?_eq_some_iff.1 hi).1
    rw [List.length_take, List.length_drop, bytes_len] at hil
    rw [List.getElem?_take_of_lt (by omega), List.getElem?_drop] at hi
    have hq : k + i < s.size := by omega
    have := h (k + i) hq (by omega) (by omega)
    have e : s.data.toList[k + i]? = some s[k + i] := by
      rw [List.getElem?_eq_getElem (by rw [bytes_len]; exact hq)]
      simp
      rfl
    rw [e] at hi
    injection hi with hi
    rw [← hi]
    exact this
  obtain ⟨t1, t2⟩ := takeWhile_all_append letU _ (s.data.toList.drop j) ha
  exact ⟨by rw [← t1, ← hs], by rw [← t2, ← hs]⟩
theorem extract_bytes {s : ByteArray} {k j : Nat} (hk : k ≤ j) (hj : j ≤ s.size) : (s.extract k j).data.toList = (s.data.toList.drop k).take (j - k) := by
  rw [ByteArray.data_extract, Array.toList_extract]
theorem bytes_eq {a b : ByteArray} (h : a.data.toList = b.data.toList) : a = b := by
  cases a
  cases b
  congr 1
  exact Array.toList_inj.1 h
/-- The word that begins at k and ends at j. -/
theorem tkz_end {s : ByteArray} {k j : Nat} (hk : k ≤ j) (hj : j ≤ s.size) (hks : k < s.size) (h : ∀ q (hq : q < s.size), k ≤ q → q < j → letU s[q] = true) (he : ∀ hq : j < s.size, letU s[j] = false) (hb : blk s[k] = false) (hm : mrk s[k] = 0) (n : Nat) :
    (wordOk (s.extract k j) = false → tkz (s.data.toList.drop k) n = none) ∧ (wordOk (s.extract k j) = true → n < 160 → tkz (s.data.toList.drop k) n = (tkz (s.data.toList.drop j) (n + 1)).map (wTk (s.extract k j) :: ·)) := by
  obtain ⟨t1, t2⟩ := word_run hk hj h
  have hx := extract_bytes hk hj
  have hsz : (s.extract k j).size = j - k := by simp; omega
  have hj2 : (s.data.toList.drop j).takeWhile letU = [] ∧ (s.data.toList.drop j).dropWhile letU = s.data.toList.drop j := by
    rcases Nat.lt_or_ge j s.size with hq | hq
    · rw [bytes_drop hq, List.takeWhile_cons_of_neg (by rw [he hq]; decide), List.dropWhile_cons_of_neg (by rw [he hq]; decide)]
      exact ⟨rfl, rfl⟩
    · rw [List.drop_of_length_le (by rw [bytes_len]; exact hq)]
      exact ⟨rfl, rfl⟩
  rw [hj2.1, List.append_nil, ← hx] at t1
  rw [hj2.2] at t2
  rw [bytes_drop hks] at t1 t2 ⊢
  cases hl : letU s[k]
  · rw [List.takeWhile_cons_of_neg (by rw [hl]; decide)] at t1
    have h0 : (s.extract k j).size = 0 := by rw [← bytes_len, ← t1]; rfl
    refine ⟨fun _ => tkz_bad hb hm (by rw [hl]; rintro ⟨a, _⟩; cases a), fun hw => ?_⟩
    have := wordOk_size hw
    omega
  · rw [List.takeWhile_cons_of_pos hl] at t1
    rw [List.dropWhile_cons_of_pos hl] at t2
    have hlen := congrArg List.length t1
    rw [List.length_cons, bytes_len, hsz] at hlen
    refine ⟨fun hw => tkz_bad hb hm ?_, fun hw hn => ?_⟩
    · rintro ⟨_, h7⟩
      have := wordOk_of (l := s[k] :: (s.data.toList.drop (k + 1)).takeWhile letU) (by rw [List.all_cons, hl, all_takeWhile]; rfl) (by simp) (by rw [List.length_cons]; omega)
      rw [show (⟨(s[k] :: (s.data.toList.drop (k + 1)).takeWhile letU).toArray⟩ : ByteArray) = s.extract k j from bytes_eq (by rw [← t1])] at this
      rw [hw] at this
      cases this
    · have h8 := (wordOk_size hw).2
      rw [tkz_word hb hn hm hl (by omega), t2, show (⟨(s[k] :: (s.data.toList.drop (k + 1)).takeWhile letU).toArray⟩ : ByteArray) = s.extract k j from bytes_eq (by rw [← t1])]
theorem blk_eq {c : UInt8} (h1 : c ≠ 32) (h2 : c ≠ 10) : blk c = false := by simp [blk, h1, h2]
theorem mrk_eq {c : UInt8} (h1 : c ≠ 59) (h2 : c ≠ 123) (h3 : c ≠ 125) : mrk c = 0 := by simp [mrk, h1, h2, h3]
theorem map_snoc {α : Type} (T : List α) (x : α) (o : Option (List α)) : (o.map (x :: ·)).map (T ++ ·) = o.map (T ++ [x] ++ ·) := by cases o <;> simp
theorem tks_step {s : ByteArray} {k j : Nat} {T : List Tk} {x : Tk} (h : tkS s = (tkz (s.data.toList.drop k) T.length).map (T ++ ·)) (hx : tkz (s.data.toList.drop k) T.length = (tkz (s.data.toList.drop j) (T.length + 1)).map (x :: ·)) : tkS s = (tkz (s.data.toList.drop j) (T ++ [x]).length).map (T ++ [x] ++ ·) := by
  rw [h, hx, map_snoc, List.length_append]
  rfl
theorem tks_none {s : ByteArray} {k : Nat} {T : List Tk} (h : tkS s = (tkz (s.data.toList.drop k) T.length).map (T ++ ·)) (hx : tkz (s.data.toList.drop k) T.length = none) : tkS s = none := by rw [h, hx]; rfl
theorem u8_eq {a : UInt8} {n : Nat} (hn : n < 256) (h : a = UInt8.ofNat n) : ((a.toNat : Int) == (n : Int)) = true := by
  subst h
  rw [UInt8.toNat_ofNat', Nat.mod_eq_of_lt hn]
  simp
set_option maxRecDepth 100000 in
set_option maxHeartbeats 8000000 in
theorem Tokenize_impl (s : ByteArray) (w : World) (hs : s.size ≤ 1099511627776) : Calls Tryz.prog 52 #[.string s] w (RetTkz (tkS s) w) := by
  obtain ⟨i0, hi, hz0, hz1, hz2⟩ := info_parts info_TkE
  have hE := own_empty w 110 2
  have b0 : Below w.heap.size w (w.alloc (.cells #[] 110)) := (by repeat (first | exact Below.refl _ _ | assumption | (refine Below.trans ?_ (Below.mono (by assumption) (by first | omega | (simp; done) | (simp; omega)))) | (with_reducible refine Below.drew ?_) | (with_reducible refine Below.alloc ?_ (by first | omega | (simp; done) | (simp; omega)) _) | (with_reducible refine Below.setCell ?_ (by first | omega | (simp; done) | (simp; omega)) _)))
  have HE := Lib.hid hE
  have B0 := Lib.hid b0
  clear hE b0
  go_enter Tryz.func52, Tryz.ntmps52
  go_wp2_with fail
  go_loopw [4, 5] (fun v i wr => ∃ (k : Nat) (T : List Tk), k ≤ s.size ∧ i = .int .i64 k ∧ T.length ≤ 160 ∧ Hid (wr.ownsRow w.heap.size 110 2 v T.length (tkcs T)) ∧ Hid (tkS s = (tkz (s.data.toList.drop k) T.length).map (T ++ ·)) ∧ Hid (Below w.heap.size w wr)) (fun _ i _ => s.size - (intOf i).toNat)
  case atStart => exact ⟨0, [], Nat.zero_le _, rfl, Nat.zero_le _, HE.out, Lib.hid (by rw [List.drop_zero]; unfold tkS; cases tkz s.data.toList 0 <;> rfl), B0.out⟩
  case round =>
    obtain ⟨k, T, hk, rfl, hT, hown, hd, hb⟩ := hrel
    have hbs := hb.out.size
    obtain ⟨A0, c0, rfl, _, _, r0⟩ := rd_of_own hown.out
    have HR := Lib.hid r0
    clear r0
    by_cases hlt : k < s.size
    · have HD := Lib.hid (bytes_drop hlt)
      by_cases h32 : s[k] = 32
      · have e32 : ((s[k].toNat : Int) == 32) = true := u8_eq (n := 32) (by decide) h32
        have HN := Lib.hid (show tkS s = (tkz (s.data.toList.drop (k + 1)) T.length).map (T ++ ·) by rw [hd.out, HD.out, tkz_blk (by rw [h32]; rfl)])
        clear h32
        go_wp2_with fail
        go_roundw
        case rel => exact ⟨k + 1, T, by omega, by go_num, hT, hown, HN.out, hb⟩
        case measure => simp [intOf]; omega
      have e32 : ((s[k].toNat : Int) == 32) = false := u8_ne (n := 32) (by decide) h32
      by_cases h10 : s[k] = 10
      · have e10 : ((s[k].toNat : Int) == 10) = true := u8_eq (n := 10) (by decide) h10
        have HN := Lib.hid (show tkS s = (tkz (s.data.toList.drop (k + 1)) T.length).map (T ++ ·) by rw [hd.out, HD.out, tkz_blk (by rw [h10]; rfl)])
        clear h10
        go_wp2_with fail
        go_roundw
        case rel => exact ⟨k + 1, T, by omega, by go_num, hT, hown, HN.out, hb⟩
        case measure => simp [intOf]; omega
      have e10 : ((s[k].toNat : Int) == 10) = false := u8_ne (n := 10) (by decide) h10
      have HBK := Lib.hid (blk_eq h32 h10)
      clear h32 h10
      by_cases h59 : s[k] = 59
      · have e59 : ((s[k].toNat : Int) == 59) = true := u8_eq (n := 59) (by decide) h59
        have hmm : mrk s[k] = 2 := by rw [h59]; rfl
        have HZ := Lib.hid (show T.length < 160 → tkz (s.data.toList.drop k) T.length = (tkz (s.data.toList.drop (k + 1)) (T.length + 1)).map (pTk 2 :: ·) from fun hn => by rw [HD.out, tkz_mrk HBK.out hn (by rw [hmm]; decide), hmm]; rfl)
        have HF := Lib.hid (show 160 ≤ T.length → tkz (s.data.toList.drop k) T.length = none from fun hn => by rw [HD.out, tkz_full HBK.out hn])
        clear h59 hmm
        go_wp2_with (at_builtin; refine wpList_append_rd _ rfl _ _ 53 rfl w.heap.size 110 i0 _ 2 24 Tryz.underlying53 hi hz0 hz1 hz2 rfl (by decide) _ _ _ rfl (hown.out.alloc _) _ 1 1 _ rfl (rd_lit2 ?c0 rfl) ?c2 ?c3 ?c4 ?c5 ?_)
        case c0 => first | rfl | simp
        case c2 => repeat' (first | rfl | apply And.intro)
        case c3 => simp only [maxLen]; omega
        case c4 => omega
        case c5 => first | omega | (simp; omega)
        intro v6 w6 own6 gr6 _
        have hb6 := (hb.out.alloc hbs _).grown gr6 (by simp; omega) (own_ge hown.out)
        obtain ⟨A6, c6, rfl, _, _, r6⟩ := rd_of_own own6
        clear r6 gr6
        have HB6 := Lib.hid hb6
        have HO6 := Lib.hid own6
        have hb6s := hb6.size
        clear hb6 own6
        by_cases hf : T.length < 160
        · have HN := Lib.hid (tks_step hd.out (HZ.out hf))
          go_wp2_with fail
          go_roundw
          case rel => exact ⟨k + 1, T ++ [pTk 2], by omega, by go_num, by rw [List.length_append]; exact hf, by rw [List.length_append, tkcs_append]; exact HO6.out, HN.out, HB6.out⟩
          case measure => simp [intOf]; omega
        · have HN := Lib.hid (tks_none hd.out (HF.out (by omega)))
          go_wp2_with fail
          go_ret2
          exact ⟨none, 0, [], by rw [HN.out]; rfl, by rw [HN.out]; exact rfl, ⟨rfl, fun h => absurd h (by decide)⟩, HB6.out, hb6s⟩
      have e59 : ((s[k].toNat : Int) == 59) = false := u8_ne (n := 59) (by decide) h59
      by_cases h123 : s[k] = 123
      · have e123 : ((s[k].toNat : Int) == 123) = true := u8_eq (n := 123) (by decide) h123
        have hmm : mrk s[k] = 3 := by rw [h123]; rfl
        have HZ := Lib.hid (show T.length < 160 → tkz (s.data.toList.drop k) T.length = (tkz (s.data.toList.drop (k + 1)) (T.length + 1)).map (pTk 3 :: ·) from fun hn => by rw [HD.out, tkz_mrk HBK.out hn (by rw [hmm]; decide), hmm]; rfl)
        have HF := Lib.hid (show 160 ≤ T.length → tkz (s.data.toList.drop k) T.length = none from fun hn => by rw [HD.out, tkz_full HBK.out hn])
        clear h123 hmm
        go_wp2_with (at_builtin; refine wpList_append_rd _ rfl _ _ 53 rfl w.heap.size 110 i0 _ 2 24 Tryz.underlying53 hi hz0 hz1 hz2 rfl (by decide) _ _ _ rfl (hown.out.alloc _) _ 1 1 _ rfl (rd_lit2 ?c0 rfl) ?c2 ?c3 ?c4 ?c5 ?_)
        case c0 => first | rfl | simp
        case c2 => repeat' (first | rfl | apply And.intro)
        case c3 => simp only [maxLen]; omega
        case c4 => omega
        case c5 => first | omega | (simp; omega)
        intro v6 w6 own6 gr6 _
        have hb6 := (hb.out.alloc hbs _).grown gr6 (by simp; omega) (own_ge hown.out)
        obtain ⟨A6, c6, rfl, _, _, r6⟩ := rd_of_own own6
        clear r6 gr6
        have HB6 := Lib.hid hb6
        have HO6 := Lib.hid own6
        have hb6s := hb6.size
        clear hb6 own6
        by_cases hf : T.length < 160
        · have HN := Lib.hid (tks_step hd.out (HZ.out hf))
          go_wp2_with fail
          go_roundw
          case rel => exact ⟨k + 1, T ++ [pTk 3], by omega, by go_num, by rw [List.length_append]; exact hf, by rw [List.length_append, tkcs_append]; exact HO6.out, HN.out, HB6.out⟩
          case measure => simp [intOf]; omega
        · have HN := Lib.hid (tks_none hd.out (HF.out (by omega)))
          go_wp2_with fail
          go_ret2
          exact ⟨none, 0, [], by rw [HN.out]; rfl, by rw [HN.out]; exact rfl, ⟨rfl, fun h => absurd h (by decide)⟩, HB6.out, hb6s⟩
      have e123 : ((s[k].toNat : Int) == 123) = false := u8_ne (n := 123) (by decide) h123
      by_cases h125 : s[k] = 125
      · have e125 : ((s[k].toNat : Int) == 125) = true := u8_eq (n := 125) (by decide) h125
        have hmm : mrk s[k] = 4 := by rw [h125]; rfl
        have HZ := Lib.hid (show T.length < 160 → tkz (s.data.toList.drop k) T.length = (tkz (s.data.toList.drop (k + 1)) (T.length + 1)).map (pTk 4 :: ·) from fun hn => by rw [HD.out, tkz_mrk HBK.out hn (by rw [hmm]; decide), hmm]; rfl)
        have HF := Lib.hid (show 160 ≤ T.length → tkz (s.data.toList.drop k) T.length = none from fun hn => by rw [HD.out, tkz_full HBK.out hn])
        clear h125 hmm
        go_wp2_with (at_builtin; refine wpList_append_rd _ rfl _ _ 53 rfl w.heap.size 110 i0 _ 2 24 Tryz.underlying53 hi hz0 hz1 hz2 rfl (by decide) _ _ _ rfl (hown.out.alloc _) _ 1 1 _ rfl (rd_lit2 ?c0 rfl) ?c2 ?c3 ?c4 ?c5 ?_)
        case c0 => first | rfl | simp
        case c2 => repeat' (first | rfl | apply And.intro)
        case c3 => simp only [maxLen]; omega
        case c4 => omega
        case c5 => first | omega | (simp; omega)
        intro v6 w6 own6 gr6 _
        have hb6 := (hb.out.alloc hbs _).grown gr6 (by simp; omega) (own_ge hown.out)
        obtain ⟨A6, c6, rfl, _, _, r6⟩ := rd_of_own own6
        clear r6 gr6
        have HB6 := Lib.hid hb6
        have HO6 := Lib.hid own6
        have hb6s := hb6.size
        clear hb6 own6
        by_cases hf : T.length < 160
        · have HN := Lib.hid (tks_step hd.out (HZ.out hf))
          go_wp2_with fail
          go_roundw
          case rel => exact ⟨k + 1, T ++ [pTk 4], by omega, by go_num, by rw [List.length_append]; exact hf, by rw [List.length_append, tkcs_append]; exact HO6.out, HN.out, HB6.out⟩
          case measure => simp [intOf]; omega
        · have HN := Lib.hid (tks_none hd.out (HF.out (by omega)))
          go_wp2_with fail
          go_ret2
          exact ⟨none, 0, [], by rw [HN.out]; rfl, by rw [HN.out]; exact rfl, ⟨rfl, fun h => absurd h (by decide)⟩, HB6.out, hb6s⟩
      have e125 : ((s[k].toNat : Int) == 125) = false := u8_ne (n := 125) (by decide) h125
      have HMK := Lib.hid (mrk_eq h59 h123 h125)
      clear h59 h123 h125
      go_wp2_with fail
      go_loop [5] (fun i => ∃ j : Nat, k ≤ j ∧ j ≤ s.size ∧ i = .int .i64 j ∧ Hid (∀ q (hq : q < s.size), k ≤ q → q < j → letU s[q] = true)) (fun i => s.size - (intOf i).toNat)
      case atStart => exact ⟨k, Nat.le_refl _, hk, rfl, fun q _ h1 h2 => absurd h1 (by omega)⟩
      case round =>
        obtain ⟨j, hkj, hj, rfl, hle⟩ := hrel
        by_cases hjl : j < s.size
        · cases hlj : ltrB (s[j].toNat : Int)
          · have HE2 := Lib.hid (tkz_end hkj hj hlt hle.out (fun _ => hlj) HBK.out HMK.out T.length)
            have hxs : (s.extract k j).size ≤ 9223372036854775807 := by simp; omega
            cases hw : wordOk (s.extract k j)
            · have HN := Lib.hid (tks_none hd.out (HE2.out.1 hw))
              go_wp2_with (first | (go_at_call 100; refine (isLetter_any _ _).mono ?_; rintro e w' ⟨rfl, rfl⟩) | (go_at_call 42; refine (IsValidWord_impl _ _ hxs).mono ?_; rintro e w' ⟨rfl, rfl⟩))
              go_ret2
              exact ⟨none, 0, [], by rw [HN.out]; rfl, by rw [HN.out]; exact rfl, ⟨rfl, fun h => absurd h (by decide)⟩, hb.out, hbs⟩
            · have HZ := Lib.hid (HE2.out.2 hw)
              have HF := Lib.hid (show 160 ≤ T.length → tkz (s.data.toList.drop k) T.length = none from fun hn => by rw [HD.out, tkz_full HBK.out hn])
              have hkj1 : k < j := by have := (wordOk_size hw).1; have e : (s.extract k j).size ≤ j - k := (by simp; omega); omega
              go_wp2_with (first | (go_at_call 100; refine (isLetter_any _ _).mono ?_; rintro e w' ⟨rfl, rfl⟩) | (go_at_call 42; refine (IsValidWord_impl _ _ hxs).mono ?_; rintro e w' ⟨rfl, rfl⟩) | (at_builtin; refine wpList_append_rd _ rfl _ _ 53 rfl w.heap.size 110 i0 _ 2 24 Tryz.underlying53 hi hz0 hz1 hz2 rfl (by decide) _ _ _ rfl (hown.out.alloc _) _ 1 1 _ rfl (rd_lit2 ?c0 rfl) ?c2 ?c3 ?c4 ?c5 ?_))
              case c0 => first | rfl | simp
              case c2 => repeat' (first | rfl | apply And.intro)
              case c3 => simp only [maxLen]; omega
              case c4 => omega
              case c5 => first | omega | (simp; omega)
              intro v6 w6 own6 gr6 _
              have hb6 := (hb.out.alloc hbs _).grown gr6 (by simp; omega) (own_ge hown.out)
              obtain ⟨A6, c6, rfl, _, _, r6⟩ := rd_of_own own6
              clear r6 gr6
              have HB6 := Lib.hid hb6
              have HO6 := Lib.hid own6
              have hb6s := hb6.size
              clear hb6 own6
              by_cases hf : T.length < 160
              · have HN := Lib.hid (tks_step hd.out (HZ.out hf))
                go_wp2_with fail
                go_roundw
                case rel => exact ⟨j, T ++ [wTk (s.extract k j)], by omega, by go_num, by rw [List.length_append]; exact hf, by rw [List.length_append, tkcs_append]; exact HO6.out, HN.out, HB6.out⟩
                case measure => simp [intOf]; omega
              · have HN := Lib.hid (tks_none hd.out (HF.out (by omega)))
                go_wp2_with fail
                go_ret2
                exact ⟨none, 0, [], by rw [HN.out]; rfl, by rw [HN.out]; exact rfl, ⟨rfl, fun h => absurd h (by decide)⟩, HB6.out, hb6s⟩
          · have HS := Lib.hid (show ∀ q (hq : q < s.size), k ≤ q → q < j + 1 → letU s[q] = true from fun q hq h1 h2 => by
              rcases Nat.lt_or_ge q j with h3 | h3
              · exact hle.out q hq h1 h3
              · obtain rfl : q = j := by omega
                exact hlj)
            go_wp2_with (go_at_call 100; refine (isLetter_any _ _).mono ?_; rintro e w' ⟨rfl, rfl⟩)
            go_round
            case rel => exact ⟨j + 1, by omega, by omega, by go_num, HS.out⟩
            case measure => simp [intOf]; omega
        · have HE2 := Lib.hid (tkz_end hkj hj hlt hle.out (fun h => absurd h hjl) HBK.out HMK.out T.length)
          have hxs : (s.extract k j).size ≤ 9223372036854775807 := by simp; omega
          cases hw : wordOk (s.extract k j)
          · have HN := Lib.hid (tks_none hd.out (HE2.out.1 hw))
            go_wp2_with (go_at_call 42; refine (IsValidWord_impl _ _ hxs).mono ?_; rintro e w' ⟨rfl, rfl⟩)
            go_ret2
            exact ⟨none, 0, [], by rw [HN.out]; rfl, by rw [HN.out]; exact rfl, ⟨rfl, fun h => absurd h (by decide)⟩, hb.out, hbs⟩
          · have HZ := Lib.hid (HE2.out.2 hw)
            have HF := Lib.hid (show 160 ≤ T.length → tkz (s.data.toList.drop k) T.length = none from fun hn => by rw [HD.out, tkz_full HBK.out hn])
            have hkj1 : k < j := by have := (wordOk_size hw).1; have e : (s.extract k j).size ≤ j - k := (by simp; omega); omega
            go_wp2_with (first | (go_at_call 42; refine (IsValidWord_impl _ _ hxs).mono ?_; rintro e w' ⟨rfl, rfl⟩) | (at_builtin; refine wpList_append_rd _ rfl _ _ 53 rfl w.heap.size 110 i0 _ 2 24 Tryz.underlying53 hi hz0 hz1 hz2 rfl (by decide) _ _ _ rfl (hown.out.alloc _) _ 1 1 _ rfl (rd_lit2 ?c0 rfl) ?c2 ?c3 ?c4 ?c5 ?_))
            case c0 => first | rfl | simp
            case c2 => repeat' (first | rfl | apply And.intro)
            case c3 => simp only [maxLen]; omega
            case c4 => omega
            case c5 => first | omega | (simp; omega)
            intro v6 w6 own6 gr6 _
            have hb6 := (hb.out.alloc hbs _).grown gr6 (by simp; omega) (own_ge hown.out)
            obtain ⟨A6, c6, rfl, _, _, r6⟩ := rd_of_own own6
            clear r6 gr6
            have HB6 := Lib.hid hb6
            have HO6 := Lib.hid own6
            have hb6s := hb6.size
            clear hb6 own6
            by_cases hf : T.length < 160
            · have HN := Lib.hid (tks_step hd.out (HZ.out hf))
              go_wp2_with fail
              go_roundw
              case rel => exact ⟨j, T ++ [wTk (s.extract k j)], by omega, by go_num, by rw [List.length_append]; exact hf, by rw [List.length_append, tkcs_append]; exact HO6.out, HN.out, HB6.out⟩
              case measure => simp [intOf]; omega
            · have HN := Lib.hid (tks_none hd.out (HF.out (by omega)))
              go_wp2_with fail
              go_ret2
              exact ⟨none, 0, [], by rw [HN.out]; rfl, by rw [HN.out]; exact rfl, ⟨rfl, fun h => absurd h (by decide)⟩, HB6.out, hb6s⟩
    · obtain rfl : k = s.size := by omega
      have HF := Lib.hid (show tkS s = some T by
        rw [hd.out, List.drop_of_length_le (by rw [bytes_len]; exact Nat.le_refl _), tkz_nil]
        simp)
      go_wp2_with fail
      go_ret2
      exact ⟨A0, c0, T, by rw [HF.out]; rfl, by rw [HF.out]; exact rfl, HR.out, hb.out, hbs⟩
end Go.Proofs.YthkbckkghnbonaaGreatDoor
namespace Go.Proofs.YthkbckkghnbonaaGreatDoor
open Go.RowKit
set_option linter.unusedVariables false
theorem cells2 {w w' : World} {b : Nat} {x0 x1 : Value} {t : TypeId} (lay : Below w'.heap.size w' w) (h : w'.heap[b]? = some (.cells #[x0, x1] t (0, 0))) :
    w.cell? ⟨b, 0, none⟩ = some x0 ∧ w.cell? ⟨b, 1, none⟩ = some x1 := by
  have h' : w.heap[b]? = some (.cells #[x0, x1] t (0, 0)) := (lay.block b (lt_of_block h)).trans h
  exact ⟨by simp [World.cell?, h'], by simp [World.cell?, h']⟩
theorem isEmpty_size {s : ByteArray} (h : 1 ≤ s.size) : s.toList.isEmpty = false := by
  rw [List.isEmpty_eq_false_iff]
  intro e
  rw [Lib.toList_data] at e
  have := bytes_len s
  rw [e] at this
  simp at this
  omega
theorem fmtT_bad {s : ByteArray} (h : wordOk s = false) : fmtT 1 s = ⟨#[]⟩ := by
  by_cases he : s.toList = []
  · exact (fmtT_e (Or.inr h) he).trans (show symT 1 = ⟨#[]⟩ from rfl)
  · exact fmtT_n (Or.inr h) he
theorem fmtT_mark {k : Nat} (h : k = 2 ∨ k = 3 ∨ k = 4) : 1 ≤ (fmtT k ⟨#[]⟩).size := by
  rw [fmtT_e (Or.inl (by omega)) nil_toList]
  rcases h with rfl | rfl | rfl <;> exact Nat.le_refl _
set_option maxRecDepth 100000 in
set_option maxHeartbeats 2000000 in
theorem l16Mark_any (c : UInt8) (w : World) : Calls Tryz.prog 88 #[.int .u8 c.toNat] w fun e w' => e = .returned (.int .i64 (mrk c)) ∧ w = w' := by
  by_cases h59 : c = 59
  · subst h59
    go_enter Tryz.func88, Tryz.ntmps88
    go_wp2
    go_ret
    exact ⟨rfl, rfl⟩
  · have e59 : ((c.toNat : Int) == 59) = false := u8_ne (n := 59) (by decide) h59
    by_cases h123 : c = 123
    · subst h123
      clear e59 h59
      go_enter Tryz.func88, Tryz.ntmps88
      go_wp2
      go_ret
      exact ⟨rfl, rfl⟩
    · have e123 : ((c.toNat : Int) == 123) = false := u8_ne (n := 123) (by decide) h123
      by_cases h125 : c = 125
      · subst h125
        clear e59 h59 e123 h123
        go_enter Tryz.func88, Tryz.ntmps88
        go_wp2
        go_ret
        exact ⟨rfl, rfl⟩
      · have e125 : ((c.toNat : Int) == 125) = false := u8_ne (n := 125) (by decide) h125
        rw [mrk_eq h59 h123 h125]
        clear h59 h123 h125
        go_enter Tryz.func88, Tryz.ntmps88
        go_wp2
        go_ret
        exact ⟨rfl, rfl⟩
set_option maxRecDepth 100000 in
set_option maxHeartbeats 8000000 in
theorem Tokenize_spec (s : ByteArray) (w : World) (hs : s.size ≤ 1099511627776) : Calls Tryz.prog 32 #[.string s] w (RetTkz (tkS s) w) := by
  obtain ⟨i0, hi, hz0, hz1, hz2⟩ := info_parts info_TkE
  have hE := own_empty w 110 2
  have b0 : Below w.heap.size w (w.alloc (.cells #[] 110)) := (by repeat (first | exact Below.refl _ _ | assumption | (refine Below.trans ?_ (Below.mono (by assumption) (by first | omega | (simp; done) | (simp; omega)))) | (with_reducible refine Below.drew ?_) | (with_reducible refine Below.alloc ?_ (by first | omega | (simp; done) | (simp; omega)) _) | (with_reducible refine Below.setCell ?_ (by first | omega | (simp; done) | (simp; omega)) _)))
  have HE := Lib.hid hE
  have B0 := Lib.hid b0
  clear hE b0
  go_enter Tryz.func32, Tryz.ntmps32
  go_wp2_with fail
  go_loopw [4, 5] (fun v i wr => ∃ (k : Nat) (T : List Tk), k ≤ s.size ∧ i = .int .i64 k ∧ T.length ≤ 160 ∧ Hid (wr.ownsRow w.heap.size 110 2 v T.length (tkcs T)) ∧ Hid (tkS s = (tkz (s.data.toList.drop k) T.length).map (T ++ ·)) ∧ Hid (Below w.heap.size w wr)) (fun _ i _ => s.size - (intOf i).toNat)
  case atStart => exact ⟨0, [], Nat.zero_le _, rfl, Nat.zero_le _, HE.out, Lib.hid (by rw [List.drop_zero]; unfold tkS; cases tkz s.data.toList 0 <;> rfl), B0.out⟩
  case round =>
    obtain ⟨k, T, hk, rfl, hT, hown, hd, hb⟩ := hrel
    have hbs := hb.out.size
    obtain ⟨A0, c0, rfl, _, _, r0⟩ := rd_of_own hown.out
    have HR := Lib.hid r0
    clear r0
    by_cases hlt : k < s.size
    · have HD := Lib.hid (bytes_drop hlt)
      by_cases h32 : s[k] = 32
      · have e32 : ((s[k].toNat : Int) == 32) = true := u8_eq (n := 32) (by decide) h32
        have HN := Lib.hid (show tkS s = (tkz (s.data.toList.drop (k + 1)) T.length).map (T ++ ·) by rw [hd.out, HD.out, tkz_blk (by rw [h32]; rfl)])
        clear h32
        go_wp2_with fail
        go_roundw
        case rel => exact ⟨k + 1, T, by omega, by go_num, hT, hown, HN.out, hb⟩
        case measure => simp [intOf]; omega
      have e32 : ((s[k].toNat : Int) == 32) = false := u8_ne (n := 32) (by decide) h32
      by_cases h10 : s[k] = 10
      · have e10 : ((s[k].toNat : Int) == 10) = true := u8_eq (n := 10) (by decide) h10
        have HN := Lib.hid (show tkS s = (tkz (s.data.toList.drop (k + 1)) T.length).map (T ++ ·) by rw [hd.out, HD.out, tkz_blk (by rw [h10]; rfl)])
        clear h10
        go_wp2_with fail
        go_roundw
        case rel => exact ⟨k + 1, T, by omega, by go_num, hT, hown, HN.out, hb⟩
        case measure => simp [intOf]; omega
      have e10 : ((s[k].toNat : Int) == 10) = false := u8_ne (n := 10) (by decide) h10
      have HBK := Lib.hid (blk_eq h32 h10)
      clear h32 h10
      have HF := Lib.hid (show 160 ≤ T.length → tkz (s.data.toList.drop k) T.length = none from fun hn => by rw [HD.out, tkz_full HBK.out hn])
      by_cases hm : mrk s[k] = 0
      · have HMK := Lib.hid hm
        go_wp2_with (go_at_call 88; refine (l16Mark_any _ _).mono ?_; rintro e w' ⟨rfl, rfl⟩; rw [HMK.out])
        go_loop [7] (fun i => ∃ j : Nat, k ≤ j ∧ j ≤ s.size ∧ i = .int .i64 j ∧ Hid (∀ q (hq : q < s.size), k ≤ q → q < j → letU s[q] = true)) (fun i => s.size - (intOf i).toNat)
        case atStart => exact ⟨k, Nat.le_refl _, hk, rfl, fun q _ h1 h2 => absurd h1 (by omega)⟩
        case round =>
          obtain ⟨j, hkj, hj, rfl, hle⟩ := hrel
          by_cases hjl : j < s.size
          · cases hlj : ltrB (s[j].toNat : Int)
            · have HE2 := Lib.hid (tkz_end hkj hj hlt hle.out (fun _ => hlj) HBK.out HMK.out T.length)
              have hxs : (s.extract k j).size ≤ 9223372036854775807 := by simp; omega
              cases hw : wordOk (s.extract k j)
              · have HN := Lib.hid (tks_none hd.out (HE2.out.1 hw))
                have HFW := Lib.hid (fmtT_bad hw)
                go_wp2_with (go_at_call 89; refine (l16Letter_any _ _).mono ?_; rintro e w' ⟨rfl, rfl⟩)
                refine (FormatToken_spec _ _ _ hxs).mono ?_
                rintro e w1 ⟨rfl, b1, s1⟩
                rw [HFW.out]
                have b2 : Below wr.heap.size wr w1 := ((Below.refl _ _).alloc (Nat.le_refl _) _).trans (b1.mono (by simp))
                have hb1 := hb.out.trans (b2.mono hbs)
                have hb1s := hb1.size
                have HB1 := Lib.hid hb1
                clear b1 s1 b2 hb1
                go_wp2_with fail
                go_ret2
                exact ⟨_, _, [], by rw [HN.out]; rfl, by rw [HN.out]; exact rfl, ⟨rfl, fun h => absurd h (by decide)⟩, HB1.out.alloc hb1s _, by simp; omega⟩
              · have HZ := Lib.hid (HE2.out.2 hw)
                have HFW := Lib.hid (fmtT_w hw)
                have hwz := wordOk_size hw
                have hkj1 : k < j := by have e : (s.extract k j).size ≤ j - k := by simp; omega
                                        omega
                obtain ⟨f, hf0⟩ : ∃ f, f = s.extract k j := ⟨_, rfl⟩
                have hfe : f.toList.isEmpty = false := by rw [hf0]; exact isEmpty_size hwz.1
                have HFF := Lib.hid hf0
                clear hwz hf0 hw HE2
                go_wp2_with (go_at_call 89; refine (l16Letter_any _ _).mono ?_; rintro e w' ⟨rfl, rfl⟩)
                refine (FormatToken_spec _ _ _ hxs).mono ?_
                rintro e w1 ⟨rfl, b1, s1⟩
                rw [HFW.out, ← HFF.out]
                obtain ⟨p0, p1⟩ := cells2 (lay := b1) (boxed1_0 _ _)
                have b2 : Below wr.heap.size wr w1 := ((Below.refl _ _).alloc (Nat.le_refl _) _).trans (b1.mono (by simp))
                have zl : wr.heap.size < w1.heap.size := by simp at s1; omega
                clear b1 s1
                have hown1 := ownsRow_below hown.out b2
                have hb1 := hb.out.trans (b2.mono hbs)
                have hb1s := hb1.size
                have HB1 := Lib.hid hb1
                clear hb1
                by_cases hf : T.length = 160
                · have e160 : ((T.length : Int) == 160) = true := by simp [hf]
                  have HN := Lib.hid (tks_none hd.out (HF.out (by omega)))
                  clear hf
                  go_wp2_with fail
                  go_ret2
                  exact ⟨_, _, [], by rw [HN.out]; rfl, by rw [HN.out]; exact rfl, ⟨rfl, fun h => absurd h (by decide)⟩, HB1.out.alloc hb1s _, by simp; omega⟩
                · have e160 : ((T.length : Int) == 160) = false := by simp; omega
                  have HN := Lib.hid (tks_step hd.out (HZ.out (by omega)))
                  go_wp2_with (at_builtin; refine wpList_append_rd _ rfl _ _ 53 rfl w.heap.size 110 i0 _ 2 24 Tryz.underlying53 hi hz0 hz1 hz2 rfl (by decide) _ _ _ rfl (hown1.alloc _) _ 1 1 _ rfl (rd_lit2 ?c0 rfl) ?c2 ?c3 ?c4 ?c5 ?_)
                  case c0 => first | rfl | simp
                  case c2 => repeat' (first | rfl | apply And.intro)
                  case c3 => simp only [maxLen]; omega
                  case c4 => omega
                  case c5 => first | omega | (simp; omega)
                  intro v6 w6 own6 gr6 _
                  have hb6 := (HB1.out.alloc hb1s _).grown gr6 (by simp; omega) (own_ge hown1)
                  have HB6 := Lib.hid hb6
                  have HO6 := Lib.hid own6
                  clear gr6 hb6 own6
                  go_wp2_with fail
                  go_roundw
                  case rel => exact ⟨j, T ++ [wTk (s.extract k j)], by omega, by go_num, by rw [List.length_append]; show T.length + 1 ≤ 160; omega, by rw [List.length_append, tkcs_append]; exact HO6.out, HN.out, HB6.out⟩
                  case measure => simp [intOf]; omega
            · have HS := Lib.hid (show ∀ q (hq : q < s.size), k ≤ q → q < j + 1 → letU s[q] = true from fun q hq h1 h2 => by
                rcases Nat.lt_or_ge q j with h3 | h3
                · exact hle.out q hq h1 h3
                · obtain rfl : q = j := by omega
                  exact hlj)
              go_wp2_with (go_at_call 89; refine (l16Letter_any _ _).mono ?_; rintro e w' ⟨rfl, rfl⟩)
              go_round
              case rel => exact ⟨j + 1, by omega, by omega, by go_num, HS.out⟩
              case measure => simp [intOf]; omega
          · have HE2 := Lib.hid (tkz_end hkj hj hlt hle.out (fun h => absurd h hjl) HBK.out HMK.out T.length)
            have hxs : (s.extract k j).size ≤ 9223372036854775807 := by simp; omega
            cases hw : wordOk (s.extract k j)
            · have HN := Lib.hid (tks_none hd.out (HE2.out.1 hw))
              have HFW := Lib.hid (fmtT_bad hw)
              go_wp2_with fail
              refine (FormatToken_spec _ _ _ hxs).mono ?_
              rintro e w1 ⟨rfl, b1, s1⟩
              rw [HFW.out]
              have b2 : Below wr.heap.size wr w1 := ((Below.refl _ _).alloc (Nat.le_refl _) _).trans (b1.mono (by simp))
              have hb1 := hb.out.trans (b2.mono hbs)
              have hb1s := hb1.size
              have HB1 := Lib.hid hb1
              clear b1 s1 b2 hb1
              go_wp2_with fail
              go_ret2
              exact ⟨_, _, [], by rw [HN.out]; rfl, by rw [HN.out]; exact rfl, ⟨rfl, fun h => absurd h (by decide)⟩, HB1.out.alloc hb1s _, by simp; omega⟩
            · have HZ := Lib.hid (HE2.out.2 hw)
              have HFW := Lib.hid (fmtT_w hw)
              have hwz := wordOk_size hw
              have hkj1 : k < j := by have e : (s.extract k j).size ≤ j - k := by simp; omega
                                      omega
              obtain ⟨f, hf0⟩ : ∃ f, f = s.extract k j := ⟨_, rfl⟩
              have hfe : f.toList.isEmpty = false := by rw [hf0]; exact isEmpty_size hwz.1
              have HFF := Lib.hid hf0
              clear hwz hf0 hw HE2
              go_wp2_with fail
              refine (FormatToken_spec _ _ _ hxs).mono ?_
              rintro e w1 ⟨rfl, b1, s1⟩
              rw [HFW.out, ← HFF.out]
              obtain ⟨p0, p1⟩ := cells2 (lay := b1) (boxed1_0 _ _)
              have b2 : Below wr.heap.size wr w1 := ((Below.refl _ _).alloc (Nat.le_refl _) _).trans (b1.mono (by simp))
              have zl : wr.heap.size < w1.heap.size := by simp at s1; omega
              clear b1 s1
              have hown1 := ownsRow_below hown.out b2
              have hb1 := hb.out.trans (b2.mono hbs)
              have hb1s := hb1.size
              have HB1 := Lib.hid hb1
              clear hb1
              by_cases hf : T.length = 160
              · have e160 : ((T.length : Int) == 160) = true := by simp [hf]
                have HN := Lib.hid (tks_none hd.out (HF.out (by omega)))
                clear hf
                go_wp2_with fail
                go_ret2
                exact ⟨_, _, [], by rw [HN.out]; rfl, by rw [HN.out]; exact rfl, ⟨rfl, fun h => absurd h (by decide)⟩, HB1.out.alloc hb1s _, by simp; omega⟩
              · have e160 : ((T.length : Int) == 160) = false := by simp; omega
                have HN := Lib.hid (tks_step hd.out (HZ.out (by omega)))
                go_wp2_with (at_builtin; refine wpList_append_rd _ rfl _ _ 53 rfl w.heap.size 110 i0 _ 2 24 Tryz.underlying53 hi hz0 hz1 hz2 rfl (by decide) _ _ _ rfl (hown1.alloc _) _ 1 1 _ rfl (rd_lit2 ?c0 rfl) ?c2 ?c3 ?c4 ?c5 ?_)
                case c0 => first | rfl | simp
                case c2 => repeat' (first | rfl | apply And.intro)
                case c3 => simp only [maxLen]; omega
                case c4 => omega
                case c5 => first | omega | (simp; omega)
                intro v6 w6 own6 gr6 _
                have hb6 := (HB1.out.alloc hb1s _).grown gr6 (by simp; omega) (own_ge hown1)
                have HB6 := Lib.hid hb6
                have HO6 := Lib.hid own6
                clear gr6 hb6 own6
                go_wp2_with fail
                go_roundw
                case rel => exact ⟨j, T ++ [wTk (s.extract k j)], by omega, by go_num, by rw [List.length_append]; show T.length + 1 ≤ 160; omega, by rw [List.length_append, tkcs_append]; exact HO6.out, HN.out, HB6.out⟩
                case measure => simp [intOf]; omega
      · obtain ⟨m, hm0⟩ : ∃ m, m = mrk s[k] := ⟨_, rfl⟩
        have HM := Lib.hid hm0
        have hm3 := mrk_cases s[k]
        rw [← hm0] at hm hm3
        have hm2 : m = 2 ∨ m = 3 ∨ m = 4 := by omega
        have HZ := Lib.hid (show T.length < 160 → tkz (s.data.toList.drop k) T.length = (tkz (s.data.toList.drop (k + 1)) (T.length + 1)).map (pTk m :: ·) from fun hn => by rw [HD.out, hm0, tkz_mrk HBK.out hn (by rw [← hm0]; exact hm)])
        have em : ((m : Int) == 0) = false := by simp; omega
        obtain ⟨f, hf0⟩ : ∃ f, f = fmtT m ⟨#[]⟩ := ⟨_, rfl⟩
        have hfe : f.toList.isEmpty = false := by rw [hf0]; exact isEmpty_size (fmtT_mark hm2)
        have HFF := Lib.hid hf0
        clear hm hm3 hm2 hm0 hf0
        go_wp2_with (first | (go_at_call 88; refine (l16Mark_any _ _).mono ?_; rintro e w' ⟨rfl, rfl⟩; rw [← HM.out]))
        refine (FormatToken_spec _ _ _ (by decide)).mono ?_
        rintro e w1 ⟨rfl, b1, s1⟩
        rw [← HFF.out]
        obtain ⟨p0, p1⟩ := cells2 (lay := b1) (boxed1_0 _ _)
        have b2 : Below wr.heap.size wr w1 := ((Below.refl _ _).alloc (Nat.le_refl _) _).trans (b1.mono (by simp))
        have zl : wr.heap.size < w1.heap.size := by simp at s1; omega
        clear b1 s1
        have hown1 := ownsRow_below hown.out b2
        have hb1 := hb.out.trans (b2.mono hbs)
        have hb1s := hb1.size
        have HB1 := Lib.hid hb1
        clear hb1
        by_cases hf : T.length = 160
        · have e160 : ((T.length : Int) == 160) = true := by simp [hf]
          have HN := Lib.hid (tks_none hd.out (HF.out (by omega)))
          clear hf
          go_wp2_with fail
          go_ret2
          exact ⟨_, _, [], by rw [HN.out]; rfl, by rw [HN.out]; exact rfl, ⟨rfl, fun h => absurd h (by decide)⟩, HB1.out.alloc hb1s _, by simp; omega⟩
        · have e160 : ((T.length : Int) == 160) = false := by simp; omega
          have HN := Lib.hid (tks_step hd.out (HZ.out (by omega)))
          go_wp2_with (at_builtin; refine wpList_append_rd _ rfl _ _ 53 rfl w.heap.size 110 i0 _ 2 24 Tryz.underlying53 hi hz0 hz1 hz2 rfl (by decide) _ _ _ rfl (hown1.alloc _) _ 1 1 _ rfl (rd_lit2 ?c0 rfl) ?c2 ?c3 ?c4 ?c5 ?_)
          case c0 => first | rfl | simp
          case c2 => repeat' (first | rfl | apply And.intro)
          case c3 => simp only [maxLen]; omega
          case c4 => omega
          case c5 => first | omega | (simp; omega)
          intro v6 w6 own6 gr6 _
          have hb6 := (HB1.out.alloc hb1s _).grown gr6 (by simp; omega) (own_ge hown1)
          have HB6 := Lib.hid hb6
          have HO6 := Lib.hid own6
          clear gr6 hb6 own6
          go_wp2_with fail
          go_roundw
          case rel => exact ⟨k + 1, T ++ [pTk m], by omega, by go_num, by rw [List.length_append]; show T.length + 1 ≤ 160; omega, by rw [List.length_append, tkcs_append]; exact HO6.out, HN.out, HB6.out⟩
          case measure => simp [intOf]; omega
    · obtain rfl : k = s.size := by omega
      have HF := Lib.hid (show tkS s = some T by
        rw [hd.out, List.drop_of_length_le (by rw [bytes_len]; exact Nat.le_refl _), tkz_nil]
        simp)
      go_wp2_with fail
      go_ret2
      exact ⟨A0, c0, T, by rw [HF.out]; rfl, by rw [HF.out]; exact rfl, HR.out, hb.out, hbs⟩
end Go.Proofs.YthkbckkghnbonaaGreatDoor
namespace Go.Proofs.YthkbckkghnbonaaGreatDoor
open Go.RowKit
set_option linter.unusedVariables false
theorem own_drawS {w1 w2 : World} {B e size n p : Nat} {v : Value} {xs : List Value} (h : w1.ownsRow B e size v n xs) (hg : w1.grownBy w2 (some p)) (hp : p < B) : w2.ownsRow B e size v n xs := h.kept hg (by
  cases hk : v.ownBlock with
  | none => exact .inl rfl
  | some k =>
    refine .inr fun e => ?_
    injection e with e
    have := (h.lt k hk).1
    omega)
/-- A drawn token: its text is short. -/
def DTk (w : World) (p : Nat) (e : Ending) (w' : World) : Prop := ∃ (k : Int) (s : ByteArray), s.size ≤ 8 ∧ e = .returned (.agg #[.int .i64 k, .string s]) ∧ CurAt w' p ∧ w.grownBy w' (some p)
def words6 : List ByteArray := [⟨#[97]⟩, ⟨#[104]⟩, ⟨#[113, 117, 98, 105, 116, 115]⟩, ⟨#[48]⟩, ⟨#[114, 101, 112, 101, 97, 116]⟩, ⟨#[49, 50, 51, 52, 53, 54, 55, 56]⟩]
theorem words6_le : ∀ s ∈ words6, s.size ≤ 8 := by
  intro s hs
  simp only [words6, List.mem_cons, List.not_mem_nil, or_false] at hs
  rcases hs with rfl | rfl | rfl | rfl | rfl | rfl <;> decide
set_option maxRecDepth 100000 in
set_option maxHeartbeats 2000000 in
theorem l16Token_any (w : World) (p : Nat) (hcur : CurAt w p) : Calls Tryz.prog 84 #[.pointer (some ⟨p, 0, none⟩)] w (DTk w p) := by
  have hp := hcur.lt
  go_enter Tryz.func84, Tryz.ntmps84
  go_wp2_with fail
  obtain ⟨w0, hw0⟩ : ∃ w0, w0 = w.alloc (.cells #[.int .i64 0, .string ⟨#[]⟩] 110) := ⟨_, rfl⟩
  rw [← hw0]
  have x0 : w0.heap[w.heap.size]? = some (.cells #[.int .i64 0, .string ⟨#[]⟩] 110 (0, 0)) := by rw [hw0]; exact boxed1_0 _ _
  have hfr0 : Fr w p w0 := by rw [hw0]; exact (Fr.start hcur).alloc _
  have s0 : w.heap.size < w0.heap.size := by rw [hw0]; simp
  clear hw0
  refine (l1Once_any 2 w0 p hfr0.cur (by omega) (by omega)).mono ?_
  rintro e w1 ⟨b, rfl, hc1, hg1⟩
  have x1 := box_call x0 hg1 (by omega)
  have hfr1 := hfr0.call hc1 hg1
  have s1 : w.heap.size < w1.heap.size := by have := hg1.size; omega
  have X1 := Lib.hid x1
  clear x0 x1 hc1 hg1 hfr0
  cases b
  · go_wp2_with fail
    refine (l1Below_any 3 2 w1 p hfr1.cur (by omega) (by omega) (by omega)).mono ?_
    rintro e w2 ⟨x, hx0, hx1, rfl, hc2, hg2⟩
    have x2 := box_call X1.out hg2 (by omega)
    have hfr2 := hfr1.call hc2 hg2
    have s2 : w.heap.size < w2.heap.size := by have := hg2.size; omega
    obtain ⟨q0, q1⟩ := cells2 (lay := Below.refl _ _) x2
    have f0 := free_at (j := 0) x2
    have f1 := free_at (j := 1) x2
    clear X1 x2 hc2 hg2 hfr1
    go_wp2_with fail
    exact bodyPost_ret (v := .agg #[.int .i64 (2 + x), .string ⟨#[]⟩]) (by simp [results, Tryz.results84, go_sem, q0, q1]) rfl ⟨_, _, by decide, rfl, (Fr.cur (w := w) (by repeat (first | assumption | (with_reducible refine Fr.alloc ?_ _) | (with_reducible refine Fr.set ?_ hp (by first | omega | (simp; done) | (simp; omega)) _)))), (Fr.gr (by repeat (first | assumption | (with_reducible refine Fr.alloc ?_ _) | (with_reducible refine Fr.set ?_ hp (by first | omega | (simp; done) | (simp; omega)) _))))⟩
  · go_wp2_with fail
    obtain ⟨w2, hw2⟩ : ∃ w2, w2 = w1.alloc (.cells #[.string ⟨#[97]⟩, .string ⟨#[104]⟩, .string ⟨#[113, 117, 98, 105, 116, 115]⟩, .string ⟨#[48]⟩, .string ⟨#[114, 101, 112, 101, 97, 116]⟩, .string ⟨#[49, 50, 51, 52, 53, 54, 55, 56]⟩] 9) := ⟨_, rfl⟩
    rw [← hw2]
    have hr2 : Rd w2 1 (some ⟨w1.heap.size, 0, none⟩) 6 (words6.map Value.string) := by rw [hw2]; exact pickedS (w := w1) (L := words6) rfl
    have hba : Below w1.heap.size w1 w2 := by rw [hw2]; exact (by repeat (first | exact Below.refl _ _ | assumption | (refine Below.trans ?_ (Below.mono (by assumption) (by first | omega | (simp; done) | (simp; omega)))) | (with_reducible refine Below.drew ?_) | (with_reducible refine Below.alloc ?_ (by first | omega | (simp; done) | (simp; omega)) _) | (with_reducible refine Below.setCell ?_ (by first | omega | (simp; done) | (simp; omega)) _)))
    have x2 := (hba.block _ s1).trans X1.out
    have hfr2 := hfr1.below hba
    have s2 : w.heap.size < w2.heap.size := by have := hba.size; omega
    have X2 := Lib.hid x2
    have hl1 := hfr1.cur.lt
    clear hw2 X1 x2 hba
    refine (l1Pick_any w1.heap.size 6 6 words6 w2 p hfr2.cur rfl (by omega) (by omega) hr2 (by omega)).mono ?_
    rintro e w3 ⟨y, hy, rfl, hc3, hg3⟩
    have x3 := box_call X2.out hg3 (by omega)
    have hfr3 := hfr2.call hc3 hg3
    have s3 : w.heap.size < w3.heap.size := by have := hg3.size; omega
    obtain ⟨q0, q1⟩ := cells2 (lay := Below.refl _ _) x3
    have f0 := free_at (j := 0) x3
    have f1 := free_at (j := 1) x3
    have HY := Lib.hid (words6_le y hy)
    clear X2 x3 hc3 hg3 hfr1 hfr2 hr2 hy
    go_wp2_with fail
    exact bodyPost_ret (v := .agg #[.int .i64 1, .string y]) (by simp [results, Tryz.results84, go_sem, q0, q1]) rfl ⟨_, _, HY.out, rfl, (Fr.cur (w := w) (by repeat (first | assumption | (with_reducible refine Fr.alloc ?_ _) | (with_reducible refine Fr.set ?_ hp (by first | omega | (simp; done) | (simp; omega)) _)))), (Fr.gr (by repeat (first | assumption | (with_reducible refine Fr.alloc ?_ _) | (with_reducible refine Fr.set ?_ hp (by first | omega | (simp; done) | (simp; omega)) _))))⟩
end Go.Proofs.YthkbckkghnbonaaGreatDoor
namespace Go.Proofs.YthkbckkghnbonaaGreatDoor
open Go.RowKit
set_option linter.unusedVariables false
def okCount (k count : Int) : Bool := if k = 2 then inB count 1 9 else decide (count = 0)
def headV (k : Int) (word : ByteArray) (na : Nat) (count : Int) (bl : Nat) : Bool :=
  inB k 1 7 && (decide (na = nargs k word) && (decide (k ≠ 1 ∨ nargs k word ≠ 0) && (decide (k = 1 ∨ word.toList = []) && (decide (hasB k = true ∨ bl = 0) && okCount k count))))
theorem gkind_empty {word : ByteArray} (h : word.toList = []) : gkind word = 0 := by
  unfold gkind
  rw [h]
  decide
def vRes (k : Int) (word : ByteArray) (args : List ByteArray) (count : Int) (nb : Nat) (rs : List Bool) : Bool := headV k word args.length count nb && (args.all wordOk && rs.all id)
section
variable {k : Int} {word : ByteArray} {args : List ByteArray} {count : Int} {nb : Nat} {rs : List Bool}
theorem vRes_h (h : headV k word args.length count nb = false) : vRes k word args count nb rs = false := by simp [vRes, h]
theorem vRes_w {t : Nat} {s : ByteArray} (hs : args[t]? = some s) (h : wordOk s = false) : vRes k word args count nb rs = false := by
  have : args.all wordOk = false := by
    rw [List.all_eq_false]
    exact ⟨s, List.mem_of_getElem? hs, by simp [h]⟩
  simp [vRes, this]
theorem vRes_b {t : Nat} (hs : rs[t]? = some false) : vRes k word args count nb rs = false := by
  have : rs.all id = false := by
    rw [List.all_eq_false]
    exact ⟨false, List.mem_of_getElem? hs, by simp⟩
  simp [vRes, this]
theorem vRes_t (h1 : headV k word args.length count nb = true) (h2 : args.all wordOk = true) (h3 : rs.all id = true) : vRes k word args count nb rs = true := by rw [vRes, h1, h2, h3]; rfl
end
theorem all_take {α : Type} (p : α → Bool) {l : List α} {t : Nat} {x : α} (h : l[t]? = some x) : (l.take (t + 1)).all p = ((l.take t).all p && p x) := by
  rw [List.take_add_one, h]
  simp
/-- The statements of a body, and what is answered of each. -/
def Elts (f : Nat) (w : World) (Ab : Option Addr) (nb : Nat) (rs : List Bool) : Prop := ∀ t, t < nb → ∃ (b off : Nat) (k : Int) (wd : ByteArray) (Aa : Option Addr) (na ca : Nat) (ct : Int) (Ab' : Option Addr) (nb' cb' : Nat) (r : Bool),
  Ab = some ⟨b, off, none⟩ ∧ b < w.heap.size ∧ (w.cell? ⟨b, off + t * 5, none⟩ = some (.int .i64 k) ∧ w.cell? ⟨b, off + t * 5 + 1, none⟩ = some (.string wd) ∧ w.cell? ⟨b, off + t * 5 + 2, none⟩ = some (.slice Aa na ca) ∧ w.cell? ⟨b, off + t * 5 + 3, none⟩ = some (.int .i64 ct) ∧ w.cell? ⟨b, off + t * 5 + 4, none⟩ = some (.slice Ab' nb' cb')) ∧
  rs[t]? = some r ∧ ∀ w', Below w.heap.size w w' → Calls Tryz.prog f #[.agg #[.int .i64 k, .string wd, .slice Aa na ca, .int .i64 ct, .slice Ab' nb' cb']] w' fun e w'' => e = .returned (.bool r) ∧ Below w'.heap.size w' w'' ∧ w'.heap.size ≤ w''.heap.size
def vOne (d : Nat) (vt : List (Tr d) → Bool) (h : SH) (bd : List (Tr d)) : Bool := headV h.k h.word h.args.length h.count bd.length && (h.args.all wordOk && vt bd)
/-- Are all statements of a list valid? -/
def validT : (d : Nat) → List (Tr d) → Bool
  | 0, _ => true
  | d + 1, l => l.all fun s => vOne d (validT d) (hdT s) (bdT s)
theorem vRes_one {d : Nat} {k : Int} {word : ByteArray} {args : List ByteArray} {count : Int} {bd : List (Tr d)} {rs : List Bool} (h : rs.all id = validT d bd) : vRes k word args count bd.length rs = vOne d (validT d) ⟨k, word, args, count⟩ bd := by
  simp only [vRes, vOne, h]
theorem rs_valid {d : Nat} (l : List (Tr (d + 1))) : (l.map fun s => vOne d (validT d) (hdT s) (bdT s)).all id = validT (d + 1) l := by simp [validT, List.all_map]
end Go.Proofs.YthkbckkghnbonaaGreatDoor
