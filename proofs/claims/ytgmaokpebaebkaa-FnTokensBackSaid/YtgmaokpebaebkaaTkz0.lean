/- The tokens of a text, plain; the text of such tokens gives them back. -/
import Derived.Test.YtgmaokpebaebkaaTk0
namespace Go.Proofs.Ytgmaokpebaebkaa
open Go.RowKit
set_option linter.unusedVariables false
def letU (c : UInt8) : Bool := ltrB (c.toNat : Int)
def mrk (c : UInt8) : Nat := if c = 59 then 2 else if c = 123 then 3 else if c = 125 then 4 else 0
def blk (c : UInt8) : Bool := c == 32 || c == 10
theorem dropWhile_len (p : UInt8 → Bool) : ∀ l : List UInt8, (l.dropWhile p).length ≤ l.length := by
  intro l
  induction l with
  | nil => exact Nat.le_refl _
  | cons x l ih =>
    rw [List.dropWhile_cons]
    split
    · rw [List.length_cons]; omega
    · exact Nat.le_refl _
/-- The tokens of the bytes that are left, where n tokens stand already. -/
def tkz : List UInt8 → Nat → Option (List Tk)
  | [], _ => some []
  | c :: r, n =>
    if blk c = true then tkz r n
    else if 160 ≤ n then none
    else if mrk c ≠ 0 then (tkz r (n + 1)).map (pTk (mrk c) :: ·)
    else if letU c = true ∧ (r.takeWhile letU).length ≤ 7 then (tkz (r.dropWhile letU) (n + 1)).map (wTk ⟨(c :: r.takeWhile letU).toArray⟩ :: ·)
    else none
termination_by s => s.length
decreasing_by
  · simp
  · simp
  · have := dropWhile_len letU r
    simp
    omega
theorem tkz_nil (n : Nat) : tkz [] n = some [] := by rw [tkz]
theorem tkz_blk {c : UInt8} {r : List UInt8} {n : Nat} (h : blk c = true) : tkz (c :: r) n = tkz r n := by rw [tkz, if_pos h]
theorem tkz_full {c : UInt8} {r : List UInt8} {n : Nat} (h : blk c = false) (hn : 160 ≤ n) : tkz (c :: r) n = none := by rw [tkz, if_neg (by rw [h]; decide), if_pos hn]
theorem tkz_mrk {c : UInt8} {r : List UInt8} {n : Nat} (h : blk c = false) (hn : n < 160) (hm : mrk c ≠ 0) : tkz (c :: r) n = (tkz r (n + 1)).map (pTk (mrk c) :: ·) := by rw [tkz, if_neg (by rw [h]; decide), if_neg (by omega), if_pos hm]
theorem tkz_word {c : UInt8} {r : List UInt8} {n : Nat} (h : blk c = false) (hn : n < 160) (hm : mrk c = 0) (hl : letU c = true) (h8 : (r.takeWhile letU).length ≤ 7) : tkz (c :: r) n = (tkz (r.dropWhile letU) (n + 1)).map (wTk ⟨(c :: r.takeWhile letU).toArray⟩ :: ·) := by
  rw [tkz, if_neg (by rw [h]; decide), if_neg (by omega), if_neg (by simp [hm]), if_pos ⟨hl, h8⟩]
theorem tkz_bad {c : UInt8} {r : List UInt8} {n : Nat} (h : blk c = false) (hm : mrk c = 0) (hl : ¬ (letU c = true ∧ (r.takeWhile letU).length ≤ 7)) : tkz (c :: r) n = none := by
  rw [tkz, if_neg (by rw [h]; decide)]
  by_cases hn : 160 ≤ n
  · rw [if_pos hn]
  · rw [if_neg hn, if_neg (by simp [hm]), if_neg hl]
def wellTk (t : Tk) : Prop := (t.k = 1 ∧ wordOk t.s = true) ∨ ((t.k = 2 ∨ t.k = 3 ∨ t.k = 4) ∧ t.s = ⟨#[]⟩)
theorem mrk_cases (c : UInt8) : mrk c = 0 ∨ mrk c = 2 ∨ mrk c = 3 ∨ mrk c = 4 := by
  unfold mrk
  split
  · simp
  · split
    · simp
    · split <;> simp
theorem all_takeWhile {α : Type} (p : α → Bool) : ∀ l : List α, (l.takeWhile p).all p = true := by
  intro l
  induction l with
  | nil => rfl
  | cons x l ih =>
    rw [List.takeWhile_cons]
    cases h : p x
    · rfl
    · simp only [if_true, List.all_cons, h, ih]; rfl
theorem wordOk_of {l : List UInt8} (h : l.all letU = true) (h1 : 1 ≤ l.length) (h8 : l.length ≤ 8) : wordOk ⟨l.toArray⟩ = true := by
  have hs : (ByteArray.mk l.toArray).size = l.length := by show l.toArray.size = _; simp
  unfold wordOk letsUpto
  rw [hs, Bool.and_eq_true]
  refine ⟨?_, inB_iff.2 (by omega)⟩
  show (List.take l.length l).all _ = true
  rw [List.take_length]
  exact h
theorem tkz_well : ∀ (m : Nat) (s : List UInt8) (n : Nat) (T : List Tk), s.length ≤ m → tkz s n = some T → n ≤ 160 → (∀ t ∈ T, wellTk t) ∧ n + T.length ≤ 160 := by
  intro m
  induction m with
  | zero =>
    intro s n T hs h hn
    obtain rfl : s = [] := List.eq_nil_of_length_eq_zero (by omega)
    rw [tkz_nil] at h
    injection h with h
    subst h
    exact ⟨by simp, by simpa using hn⟩
  | succ m ih =>
    intro s n T hs h hn
    cases s with
    | nil =>
      rw [tkz_nil] at h
      injection h with h
      subst h
      exact ⟨by simp, by simpa using hn⟩
    | cons c r =>
      rw [List.length_cons] at hs
      cases hb : blk c
      · rcases Nat.lt_or_ge n 160 with h1 | h1
        · by_cases hm : mrk c = 0
          · by_cases hl : letU c = true ∧ (r.takeWhile letU).length ≤ 7
            · rw [tkz_word hb h1 hm hl.1 hl.2, Option.map_eq_some_iff] at h
              obtain ⟨T', h', rfl⟩ := h
              have hd := dropWhile_len letU r
              obtain ⟨a1, a2⟩ := ih _ _ _ (by omega) h' (by omega)
              refine ⟨?_, by rw [List.length_cons]; omega⟩
              intro t ht
              rcases List.mem_cons.1 ht with rfl | ht
              · exact .inl ⟨rfl, wordOk_of (by rw [List.all_cons, hl.1, all_takeWhile]; rfl) (by simp) (by rw [List.length_cons]; omega)⟩
              · exact a1 t ht
            · rw [tkz_bad hb hm hl] at h
              cases h
          · rw [tkz_mrk hb h1 hm, Option.map_eq_some_iff] at h
            obtain ⟨T', h', rfl⟩ := h
            obtain ⟨a1, a2⟩ := ih _ _ _ (by omega) h' (by omega)
            refine ⟨?_, by rw [List.length_cons]; omega⟩
            intro t ht
            rcases List.mem_cons.1 ht with rfl | ht
            · refine .inr ⟨?_, rfl⟩
              show (mrk c : Int) = 2 ∨ (mrk c : Int) = 3 ∨ (mrk c : Int) = 4
              have := mrk_cases c
              omega
            · exact a1 t ht
        · rw [tkz_full hb h1] at h
          cases h
      · rw [tkz_blk hb] at h
        exact ih _ _ _ (by omega) h hn
/-- The bytes of a token. -/
def tkb (t : Tk) : List UInt8 := (fmtT t.k t.s).data.toList
def tailB : List Tk → List UInt8
  | [] => []
  | t :: r => (if t.k = 2 then [] else [32]) ++ (tkb t ++ tailB r)
theorem tailB_snoc (t : Tk) : ∀ l : List Tk, tailB (l ++ [t]) = tailB l ++ ((if t.k = 2 then [] else [32]) ++ tkb t) := by
  intro l
  induction l with
  | nil => simp [tailB]
  | cons x l ih => rw [List.cons_append, tailB, ih, tailB]; simp only [List.append_assoc]
theorem bytes_append (a b : ByteArray) : (a ++ b).data.toList = a.data.toList ++ b.data.toList := by
  rw [ByteArray.data_append]
  simp
theorem ftxR_tail (t : Tk) : ∀ l : List Tk, (ftxR (l ++ [t])).data.toList = tkb t ++ tailB l.reverse := by
  intro l
  induction l with
  | nil =>
    rw [List.nil_append, ftxR, if_neg (by simp), bytes_append]
    simp [ftxR, tailB, tkb]
  | cons x l ih =>
    have hne : l ++ [t] ≠ [] := by simp
    rw [List.cons_append, ftxR, bytes_append, List.reverse_cons, tailB_snoc, ← List.append_assoc, ← ih]
    by_cases hk : x.k = 2
    · rw [if_neg (by simp [hk]), if_pos hk]
      rfl
    · rw [if_pos ⟨hne, hk⟩, if_neg hk, bytes_append]
      simp [tkb]
theorem ftx_tail (t : Tk) (r : List Tk) : (ftx (t :: r)).data.toList = tkb t ++ tailB r := by
  unfold ftx
  rw [List.reverse_cons, ftxR_tail, List.reverse_reverse]
theorem nil_toList : (⟨#[]⟩ : ByteArray).toList = [] := by
  unfold ByteArray.toList
  rw [ByteArray.toList.loop]
  rfl
theorem fmt_mark {k : Int} (h : k ≠ 1) : (fmtT k ⟨#[]⟩).data.toList = (symT k).data.toList := by rw [fmtT_e (Or.inl h) nil_toList]
/-- What follows a token begins with no letter. -/
theorem tailB_head {l : List Tk} (h : ∀ t ∈ l, wellTk t) : (tailB l).takeWhile letU = [] ∧ (tailB l).dropWhile letU = tailB l := by
  cases l with
  | nil => exact ⟨rfl, rfl⟩
  | cons t r =>
    by_cases hk : t.k = 2
    · have hs : t.s = ⟨#[]⟩ := by
        rcases h t (by simp) with ⟨h1, _⟩ | ⟨_, h1⟩
        · omega
        · exact h1
      have hb : tkb t = [59] := by unfold tkb; rw [hk, hs, fmt_mark (by decide)]; rfl
      have : tailB (t :: r) = 59 :: tailB r := by rw [tailB, if_pos hk, hb]; rfl
      rw [this, List.takeWhile_cons_of_neg (by decide), List.dropWhile_cons_of_neg (by decide)]
      exact ⟨rfl, rfl⟩
    · have : tailB (t :: r) = 32 :: (tkb t ++ tailB r) := by rw [tailB, if_neg hk]; rfl
      rw [this, List.takeWhile_cons_of_neg (by decide), List.dropWhile_cons_of_neg (by decide)]
      exact ⟨rfl, rfl⟩
theorem let_noblk {c : UInt8} (h : letU c = true) : blk c = false ∧ mrk c = 0 := by
  have h1 : c ≠ 32 := by rintro rfl; revert h; decide
  have h2 : c ≠ 10 := by rintro rfl; revert h; decide
  have h3 : c ≠ 59 := by rintro rfl; revert h; decide
  have h4 : c ≠ 123 := by rintro rfl; revert h; decide
  have h5 : c ≠ 125 := by rintro rfl; revert h; decide
  exact ⟨by simp [blk, h1, h2], by simp [mrk, h3, h4, h5]⟩
theorem takeWhile_all_append {α : Type} (p : α → Bool) : ∀ (l q : List α), l.all p = true → (l ++ q).takeWhile p = l ++ q.takeWhile p ∧ (l ++ q).dropWhile p = q.dropWhile p := by
  intro l q
  induction l with
  | nil => intro _; exact ⟨rfl, rfl⟩
  | cons x l ih =>
    intro h
    rw [List.all_cons, Bool.and_eq_true] at h
    obtain ⟨h1, h2⟩ := ih h.2
    rw [List.cons_append, List.takeWhile_cons_of_pos h.1, List.dropWhile_cons_of_pos h.1, h1, h2]
    exact ⟨rfl, rfl⟩
theorem word_bytes {s : ByteArray} (h : wordOk s = true) : ∃ c cs, s.data.toList = c :: cs ∧ letU c = true ∧ cs.all letU = true ∧ cs.length ≤ 7 := by
  have hz := wordOk_size h
  have hl : s.data.toList.length = s.size := by simp
  unfold wordOk letsUpto at h
  rw [Bool.and_eq_true, List.take_of_length_le (by rw [hl]; exact Nat.le_refl _)] at h
  cases hd : s.data.toList with
  | nil => rw [hd] at hl; simp at hl; omega
  | cons c cs =>
    rw [hd, List.all_cons, Bool.and_eq_true] at h
    rw [hd, List.length_cons] at hl
    exact ⟨c, cs, rfl, h.1.1, h.1.2, by omega⟩
theorem tkz_tok {t : Tk} {q : List UInt8} {n : Nat} (h : wellTk t) (hn : n < 160) (h1 : q.takeWhile letU = []) (h2 : q.dropWhile letU = q) : tkz (tkb t ++ q) n = (tkz q (n + 1)).map (t :: ·) := by
  obtain ⟨k, s⟩ := t
  rcases h with ⟨hk, hw⟩ | ⟨hk, hs⟩
  · simp only at hk hw
    subst hk
    obtain ⟨c, cs, hd, hc, hcs, h7⟩ := word_bytes hw
    have hb : tkb ⟨1, s⟩ = c :: cs := by unfold tkb; rw [fmtT_w hw, hd]
    obtain ⟨n1, n2⟩ := let_noblk hc
    obtain ⟨t1, t2⟩ := takeWhile_all_append letU cs q hcs
    rw [h1, List.append_nil] at t1
    rw [h2] at t2
    rw [hb, List.cons_append, tkz_word n1 hn n2 hc (by rw [t1]; exact h7), t1, t2]
    have e : (⟨(c :: cs).toArray⟩ : ByteArray) = s := by rw [← hd]
    rw [e]
    rfl
  · simp only at hk hs
    subst hs
    rcases hk with rfl | rfl | rfl
    · have hb : tkb ⟨2, ⟨#[]⟩⟩ = [59] := by unfold tkb; rw [fmt_mark (by decide)]; rfl
      rw [hb]
      exact tkz_mrk (by decide) hn (by decide)
    · have hb : tkb ⟨3, ⟨#[]⟩⟩ = [123] := by unfold tkb; rw [fmt_mark (by decide)]; rfl
      rw [hb]
      exact tkz_mrk (by decide) hn (by decide)
    · have hb : tkb ⟨4, ⟨#[]⟩⟩ = [125] := by unfold tkb; rw [fmt_mark (by decide)]; rfl
      rw [hb]
      exact tkz_mrk (by decide) hn (by decide)
theorem tkz_tail : ∀ (l : List Tk) (n : Nat), (∀ t ∈ l, wellTk t) → n + l.length ≤ 160 → tkz (tailB l) n = some l := by
  intro l
  induction l with
  | nil => intro n _ _; exact tkz_nil n
  | cons t r ih =>
    intro n h hn
    rw [List.length_cons] at hn
    have hr : ∀ t ∈ r, wellTk t := fun x hx => h x (by simp [hx])
    obtain ⟨h1, h2⟩ := tailB_head hr
    have hq := tkz_tok (h t (by simp)) (q := tailB r) (n := n) (by omega) h1 h2
    rw [ih (n + 1) hr (by omega)] at hq
    by_cases hk : t.k = 2
    · rw [tailB, if_pos hk, List.nil_append, hq]; rfl
    · rw [tailB, if_neg hk]
      show tkz (32 :: (tkb t ++ tailB r)) n = _
      rw [tkz_blk (by decide), hq]; rfl
/-- The tokens of a text, or none. -/
def tkS (s : ByteArray) : Option (List Tk) := tkz s.data.toList 0
/-- A list of tokens, as text, gives the same tokens again. -/
theorem tkS_back {s : ByteArray} {T : List Tk} (h : tkS s = some T) : tkS (ftx T) = some T := by
  obtain ⟨h1, h2⟩ := tkz_well _ _ _ _ (Nat.le_refl _) h (by omega)
  cases T with
  | nil => exact tkz_nil 0
  | cons t r =>
    unfold tkS
    rw [List.length_cons] at h2
    have hr : ∀ t ∈ r, wellTk t := fun x hx => h1 x (by simp [hx])
    obtain ⟨a1, a2⟩ := tailB_head hr
    rw [ftx_tail, tkz_tok (h1 t (by simp)) (by omega) a1 a2, tkz_tail r 1 hr (by omega)]
    rfl
end Go.Proofs.Ytgmaokpebaebkaa
