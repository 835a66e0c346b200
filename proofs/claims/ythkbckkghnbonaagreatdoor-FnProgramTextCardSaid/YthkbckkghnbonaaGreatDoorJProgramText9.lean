/- What the calls that this law reaches answer, part 9 of 17. -/
import Derived.Test.YthkbckkghnbonaaGreatDoorJProgramText8
import Derived.Test.YthkbckkghnbonaaGreatDoorJProgramText1
import Derived.Test.YthkbckkghnbonaaGreatDoorJProgramText2
import Derived.Test.YthkbckkghnbonaaGreatDoorJProgramText3
namespace Go.Proofs.YthkbckkghnbonaaGreatDoor
open Go.RowKit
set_option linter.unusedVariables false
theorem gkindFrom_at (word : List UInt8) : ∀ f k, gkindFrom word f k ≠ 0 → ∃ j, k ≤ j ∧ j < k + f ∧ word = gname j := by
  intro f
  induction f with
  | zero => intro k h; exact absurd rfl h
  | succ f ih =>
    intro k h
    unfold gkindFrom at h
    split at h
    · rename_i h1
      exact ⟨k, Nat.le_refl _, by omega, (show gname k = word by simpa using h1).symm⟩
    · obtain ⟨j, h1, h2, h3⟩ := ih (k + 1) h
      exact ⟨j, by omega, by omega, h3⟩
theorem kindW_gate {word : ByteArray} (h : gkind word ≠ 0) : kindW word = 1 := by
  obtain ⟨j, h1, h2, h3⟩ := gkindFrom_at word.toList 12 1 h
  have hj : j = 1 ∨ j = 2 ∨ j = 3 ∨ j = 4 ∨ j = 5 ∨ j = 6 ∨ j = 7 ∨ j = 8 ∨ j = 9 ∨ j = 10 ∨ j = 11 ∨ j = 12 := by omega
  unfold kindW
  rw [h3]
  rcases hj with rfl | rfl | rfl | rfl | rfl | rfl | rfl | rfl | rfl | rfl | rfl | rfl <;> decide
theorem kindW_head {k : Int} (h : 2 ≤ k ∧ k ≤ 7) (word : ByteArray) : kindW (headW k word) = k := by
  have hk : k = 2 ∨ k = 3 ∨ k = 4 ∨ k = 5 ∨ k = 6 ∨ k = 7 := by omega
  unfold kindW
  rw [Lib.toList_data]
  rcases hk with rfl | rfl | rfl | rfl | rfl | rfl <;> rfl
theorem numW_dig {n : Int} (h : 1 ≤ n ∧ n ≤ 9) : numW (dig n) = some n := by
  have hn : n = 1 ∨ n = 2 ∨ n = 3 ∨ n = 4 ∨ n = 5 ∨ n = 6 ∨ n = 7 ∨ n = 8 ∨ n = 9 := by omega
  rcases hn with rfl | rfl | rfl | rfl | rfl | rfl | rfl | rfl | rfl <;> rfl
section
variable {T pre post : List Tk}
theorem kindT_at {t : Tk} (h : T = pre ++ t :: post) : kindT T pre.length = t.k := by unfold kindT; rw [h]; simp
theorem textT_at {t : Tk} (h : T = pre ++ t :: post) : textT T pre.length = t.s := by unfold textT; rw [h]; simp
theorem takeR_at {t : Tk} {c : Int} (h : T = pre ++ t :: post) : takeR T ⟨pre.length, 0⟩ t.k c = (⟨pre.length + 1, 0⟩, t.s) := by
  unfold takeR
  rw [if_pos ⟨rfl, kindT_at h⟩, textT_at h]
theorem namesR_at : ∀ (args : List ByteArray) (pre : List Tk), T = pre ++ (args.map wTk ++ post) → namesR T args.length ⟨pre.length, 0⟩ = (⟨pre.length + args.length, 0⟩, args) := by
  intro args
  induction args with
  | nil => intro pre h; rfl
  | cons a args ih =>
    intro pre h
    have h1 : T = pre ++ wTk a :: (args.map wTk ++ post) := h
    have h2 : T = (pre ++ [wTk a]) ++ (args.map wTk ++ post) := by rw [h1]; simp
    have h3 := ih (pre ++ [wTk a]) h2
    have h4 : takeR T ⟨pre.length, 0⟩ 1 3 = (⟨pre.length + 1, 0⟩, a) := takeR_at (t := wTk a) h1
    show ((namesR T args.length (takeR T ⟨pre.length, 0⟩ 1 3).1).1, (takeR T ⟨pre.length, 0⟩ 1 3).2 :: (namesR T args.length (takeR T ⟨pre.length, 0⟩ 1 3).1).2) = _
    rw [h4]
    have e : (pre ++ [wTk a]).length = pre.length + 1 := by simp
    rw [e] at h3
    show ((namesR T args.length ⟨pre.length + 1, 0⟩).1, a :: (namesR T args.length ⟨pre.length + 1, 0⟩).2) = _
    rw [h3]
    show ((⟨pre.length + 1 + args.length, 0⟩ : Rs), a :: args) = _
    rw [List.length_cons, show pre.length + 1 + args.length = pre.length + (args.length + 1) by omega]
end
/-- Statements, whatever their depth. -/
inductive TT where
  | mk (h : SH) (b : List TT) : TT
def toTT : (d : Nat) → Tr d → TT
  | 0, e => nomatch (show Empty from e)
  | d + 1, s => TT.mk (hdT s) ((bdT s).map (toTT d))
theorem toTT_up : ∀ (d : Nat) (s : Tr d), toTT (d + 1) (upT d s) = toTT d s := by
  intro d
  induction d with
  | zero => intro e; exact nomatch (show Empty from e)
  | succ d ih =>
    intro s
    show TT.mk (hdT s) (((bdT s).map (upT d)).map (toTT (d + 1))) = TT.mk (hdT s) ((bdT s).map (toTT d))
    rw [List.map_map]
    congr 1
    exact List.map_congr_left (fun x _ => ih x)
theorem map_inj_of {α β : Type} {f : α → β} (hf : ∀ a b, f a = f b → a = b) : ∀ {l l' : List α}, l.map f = l'.map f → l = l' := by
  intro l
  induction l with
  | nil =>
    intro l' h
    cases l' with
    | nil => rfl
    | cons => simp at h
  | cons a l ih =>
    intro l' h
    cases l' with
    | nil => simp at h
    | cons b l' =>
      simp only [List.map_cons, List.cons.injEq] at h
      rw [hf a b h.1, ih h.2]
theorem toTT_inj : ∀ (d : Nat) (s s' : Tr d), toTT d s = toTT d s' → s = s' := by
  intro d
  induction d with
  | zero => intro e; exact nomatch (show Empty from e)
  | succ d ih =>
    intro s s' h
    have h1 : TT.mk (hdT s) ((bdT s).map (toTT d)) = TT.mk (hdT s') ((bdT s').map (toTT d)) := h
    injection h1 with h2 h3
    have h4 := map_inj_of (fun a b => ih a b) h3
    rw [← mk_eta s, ← mk_eta s', h2, h4]
/-- The tokens that a reader of depth e is handed read back as the statements. -/
def Back (T : List Tk) (e : Nat) : Prop := ∀ (d : Nat) (l : List (Tr d)) (pre post : List Tk), validT d l = true → nestT d l ≤ e → T = pre ++ (toksT d l ++ pTk 4 :: post) → ∃ l2 : List (Tr (e + 1)), innerR T (e + 1) ⟨pre.length, 0⟩ = (⟨pre.length + (toksT d l).length, 0⟩, l2) ∧ l2.map (toTT (e + 1)) = l.map (toTT d)
theorem bodyR_at {T pre post : List Tk} {e d : Nat} {l : List (Tr d)} (hb : Back T e) (hv : validT d l = true) (hn : nestT d l ≤ e) (h : T = pre ++ (([pTk 3] ++ toksT d l ++ [pTk 4]) ++ post)) :
    ∃ l2 : List (Tr (e + 1)), bodyR T (innerR T (e + 1)) ⟨pre.length, 0⟩ = (⟨pre.length + ((toksT d l).length + 2), 0⟩, l2) ∧ l2.map (toTT (e + 1)) = l.map (toTT d) := by
  have h1 : T = pre ++ pTk 3 :: (toksT d l ++ pTk 4 :: post) := by rw [h]; simp
  have h2 : T = (pre ++ [pTk 3]) ++ (toksT d l ++ pTk 4 :: post) := by rw [h1, List.append_assoc]; rfl
  have h3 : T = (pre ++ [pTk 3] ++ toksT d l) ++ pTk 4 :: post := by rw [h2, ← List.append_assoc]
  obtain ⟨l2, h4, h5⟩ := hb d l (pre ++ [pTk 3]) post hv hn h2
  refine ⟨l2, ?_, h5⟩
  have e1 : takeR T ⟨pre.length, 0⟩ 3 7 = (⟨pre.length + 1, 0⟩, ⟨#[]⟩) := takeR_at (t := pTk 3) h1
  have e2 := takeR_at (t := pTk 4) (c := 8) h3
  have e3 : (pre ++ [pTk 3]).length = pre.length + 1 := by simp
  have e4 : (pre ++ [pTk 3] ++ toksT d l).length = pre.length + 1 + (toksT d l).length := by rw [List.length_append, List.length_append]; rfl
  rw [e3] at h4
  rw [e4] at e2
  unfold bodyR
  simp only []
  rw [if_neg (by omega), e1]
  show ((takeR T (innerR T (e + 1) ⟨pre.length + 1, 0⟩).1 4 8).1, (innerR T (e + 1) ⟨pre.length + 1, 0⟩).2) = _
  rw [h4]
  show ((takeR T ⟨pre.length + 1 + (toksT d l).length, 0⟩ 4 8).1, l2) = _
  have e5 : takeR T ⟨pre.length + 1 + (toksT d l).length, 0⟩ 4 8 = (⟨pre.length + 1 + (toksT d l).length + 1, 0⟩, ⟨#[]⟩) := e2
  rw [e5]
  show ((⟨pre.length + 1 + (toksT d l).length + 1, 0⟩ : Rs), l2) = _
  rw [show pre.length + 1 + (toksT d l).length + 1 = pre.length + ((toksT d l).length + 2) by omega]
theorem bytes_nil {s : ByteArray} (h : s.toList = []) : s = ⟨#[]⟩ := by
  rw [Lib.toList_data] at h
  cases s with
  | mk a =>
    have : a = #[] := by simpa using h
    rw [this]
theorem vOne_all {d : Nat} {h : SH} {bd : List (Tr d)} (hv : vOne d (validT d) h bd = true) : (1 ≤ h.k ∧ h.k ≤ 7) ∧ h.args.length = nargs h.k h.word ∧ (h.k ≠ 1 ∨ nargs h.k h.word ≠ 0) ∧ (h.k = 1 ∨ h.word = ⟨#[]⟩) ∧ (hasB h.k = true ∨ bd = []) ∧ (h.k = 2 → 1 ≤ h.count ∧ h.count ≤ 9) ∧ (h.k ≠ 2 → h.count = 0) ∧ validT d bd = true := by
  unfold vOne headV at hv
  simp only [Bool.and_eq_true, decide_eq_true_eq] at hv
  obtain ⟨⟨h1, h2, h3, h4, h5, h6⟩, _, h7⟩ := hv
  unfold okCount at h6
  refine ⟨inB_iff.1 h1, h2, h3, h4.imp id bytes_nil, h5.imp id List.eq_nil_of_length_eq_zero, fun hk => ?_, fun hk => ?_, h7⟩
  · rw [if_pos hk] at h6
    exact inB_iff.1 h6
  · rw [if_neg hk] at h6
    simpa using h6
theorem begW_kind {word : ByteArray} (h : kindW word ≠ 1) : begW word = true := by unfold begW; simp [h]
theorem begW_gate {word : ByteArray} (h : gkind word ≠ 0) : begW word = true := by unfold begW; simp [h]
theorem stmtR_word {T : List Tk} {e : Nat} {inner : Rs → Rs × List (Tr e)} {i : Nat} {word : ByteArray} (h : textT T i = word) :
    (kindW word = 2 → stmtR T inner ⟨i, 0⟩ = ((bodyR T inner (numR T ⟨i + 1, 0⟩).1).1, mkT ⟨2, ⟨#[]⟩, [], (numR T ⟨i + 1, 0⟩).2⟩ (bodyR T inner (numR T ⟨i + 1, 0⟩).1).2)) ∧
    (kindW word = 3 → stmtR T inner ⟨i, 0⟩ = ((bodyR T inner ⟨i + 1, 0⟩).1, mkT ⟨3, ⟨#[]⟩, [], 0⟩ (bodyR T inner ⟨i + 1, 0⟩).2)) ∧
    (kindW word = 6 → stmtR T inner ⟨i, 0⟩ = ((takeR T (namesR T 2 ⟨i + 1, 0⟩).1 2 4).1, mkT ⟨6, ⟨#[]⟩, (namesR T 2 ⟨i + 1, 0⟩).2, 0⟩ [])) ∧
    (kindW word = 1 → stmtR T inner ⟨i, 0⟩ = ((takeR T (namesR T (ar (gkind word)) ⟨i + 1, 0⟩).1 2 4).1, mkT ⟨1, word, (namesR T (ar (gkind word)) ⟨i + 1, 0⟩).2, 0⟩ [])) ∧
    (∀ k : Int, (k = 4 ∨ k = 5 ∨ k = 7) → kindW word = k → stmtR T inner ⟨i, 0⟩ = ((bodyR T inner (namesR T 1 ⟨i + 1, 0⟩).1).1, mkT ⟨k, ⟨#[]⟩, (namesR T 1 ⟨i + 1, 0⟩).2, 0⟩ (bodyR T inner (namesR T 1 ⟨i + 1, 0⟩).1).2)) := by
  subst h
  refine ⟨fun hk => ?_, fun hk => ?_, fun hk => ?_, fun hk => ?_, fun k hk4 hk => ?_⟩
  · unfold stmtR; simp only []; rw [if_pos hk]
  · unfold stmtR; simp only []; rw [if_neg (by rw [hk]; decide), if_pos hk]
  · unfold stmtR; simp only []; rw [if_neg (by rw [hk]; decide), if_neg (by rw [hk]; decide), if_pos hk]
  · unfold stmtR; simp only []; rw [if_neg (by rw [hk]; decide), if_neg (by rw [hk]; decide), if_neg (by rw [hk]; decide), if_pos hk]
  · unfold stmtR; simp only []; rw [hk, if_neg (by omega), if_neg (by omega), if_neg (by omega), if_neg (by omega)]
theorem stmtR_at {T pre post : List Tk} {e d : Nat} (hB : ∀ e', e = e' + 1 → Back T e') {s : Tr (d + 1)} (hv : vOne d (validT d) (hdT s) (bdT s) = true) (hn : hasB (hdT s).k = true → 1 + nestT d (bdT s) ≤ e) (h : T = pre ++ (toks1 (hdT s) (toksT d (bdT s)) ++ post)) :
    (kindT T pre.length = 1 ∧ begW (textT T pre.length) = true) ∧ ∃ s2 : Tr (e + 1), stmtR T (innerR T e) ⟨pre.length, 0⟩ = (⟨pre.length + (toks1 (hdT s) (toksT d (bdT s))).length, 0⟩, s2) ∧ toTT (e + 1) s2 = toTT (d + 1) s := by
  obtain ⟨hk, ha, hk1, hw, hb, hc2, hc0, hvb⟩ := vOne_all hv
  have hs : toTT (d + 1) s = TT.mk (hdT s) ((bdT s).map (toTT d)) := rfl
  rw [hs]
  obtain ⟨⟨k, word, args, count⟩, bd⟩ : SH × List (Tr d) := s
  have e1 : hdT (d := d) (⟨k, word, args, count⟩, bd) = ⟨k, word, args, count⟩ := rfl
  have e2 : bdT (d := d) (⟨k, word, args, count⟩, bd) = bd := rfl
  rw [e1, e2] at *
  have hk : 1 ≤ k ∧ k ≤ 7 := hk
  have ha : args.length = nargs k word := ha
  have hk1 : k ≠ 1 ∨ nargs k word ≠ 0 := hk1
  have hw : k = 1 ∨ word = ⟨#[]⟩ := hw
  have hb : hasB k = true ∨ bd = [] := hb
  have hc2 : k = 2 → 1 ≤ count ∧ count ≤ 9 := hc2
  have hc0 : k ≠ 2 → count = 0 := hc0
  have hn : hasB k = true → 1 + nestT d bd ≤ e := hn
  have h0 : T = pre ++ wTk (headW k word) :: ((if k = 2 then [wTk (dig count)] else []) ++ args.map wTk ++ (if k = 1 ∨ k = 6 then [pTk 2] else [pTk 3] ++ toksT d bd ++ [pTk 4]) ++ post) := by
    have h9 : T = pre ++ ((([wTk (headW k word)] ++ (if k = 2 then [wTk (dig count)] else []) ++ args.map wTk) ++ (if k = 1 ∨ k = 6 then [pTk 2] else [pTk 3] ++ toksT d bd ++ [pTk 4])) ++ post) := h
    rw [h9]
    simp only [List.append_assoc, List.cons_append, List.nil_append]
  have ht := textT_at h0
  have hkd : kindT T pre.length = 1 := kindT_at h0
  have htl : (toks1 ⟨k, word, args, count⟩ (toksT d bd)).length = 1 + (if k = 2 then 1 else 0) + args.length + (if k = 1 ∨ k = 6 then 1 else (toksT d bd).length + 2) := by
    unfold toks1
    simp only [List.length_append, List.length_map]
    split <;> split <;> simp <;> omega
  have hl1 : (pre ++ [wTk (headW k word)]).length = pre.length + 1 := by simp
  have hinner : hasB k = true → ∃ e', e = e' + 1 ∧ Back T e' ∧ nestT d bd ≤ e' := fun hB1 => by
    have := hn hB1
    exact ⟨e - 1, by omega, hB (e - 1) (by omega), by omega⟩
  have hk7 : k = 1 ∨ k = 2 ∨ k = 3 ∨ k = 6 ∨ (k = 4 ∨ k = 5 ∨ k = 7) := by omega
  rcases hk7 with rfl | rfl | rfl | rfl | hk4
  · have hbd : bd = [] := hb.resolve_left (by decide)
    have hc : count = 0 := hc0 (show (_ : Int) ≠ 2 by decide)
    subst hbd hc
    have hg : gkind word ≠ 0 := fun e => by
      rcases hk1 with h | h
      · exact h rfl
      · apply h
        show ar (gkind word) = 0
        rw [e]
        decide
    have ha : args.length = ar (gkind word) := ha
    have h1 : T = (pre ++ [wTk word]) ++ (args.map wTk ++ (pTk 2 :: post)) := by rw [h0]; simp [headW]
    have h2 : T = ((pre ++ [wTk word]) ++ args.map wTk) ++ pTk 2 :: post := by rw [h1, ← List.append_assoc]
    have n1 := namesR_at args _ h1
    have t1 := takeR_at (t := pTk 2) (c := 4) h2
    have l2 : ((pre ++ [wTk word]) ++ args.map wTk).length = pre.length + 1 + args.length := by simp; omega
    have l1 : (pre ++ [wTk word]).length = pre.length + 1 := by simp
    rw [l1] at n1
    rw [l2] at t1
    have t1 : takeR T ⟨pre.length + 1 + args.length, 0⟩ 2 4 = (⟨pre.length + 1 + args.length + 1, 0⟩, ⟨#[]⟩) := t1
    have ht : textT T pre.length = word := ht
    refine ⟨⟨hkd, by rw [ht]; exact begW_gate hg⟩, mkT ⟨1, word, args, 0⟩ [], ?_, rfl⟩
    rw [(stmtR_word ht).2.2.2.1 (kindW_gate hg), ← ha, n1]
    show ((takeR T ⟨pre.length + 1 + args.length, 0⟩ 2 4).1, mkT (d := e) ⟨1, word, args, 0⟩ []) = _
    rw [t1, htl]
    show ((⟨pre.length + 1 + args.length + 1, 0⟩ : Rs), _) = ((⟨pre.length + (1 + 0 + args.length + 1), 0⟩ : Rs), _)
    rw [show pre.length + 1 + args.length + 1 = pre.length + (1 + 0 + args.length + 1) by omega]
  · have hwe : word = ⟨#[]⟩ := hw.resolve_left (by decide)
    subst hwe
    obtain ⟨e', rfl, hb', hn'⟩ := hinner (by decide)
    have ha0 : args = [] := List.eq_nil_of_length_eq_zero (ha.trans rfl)
    subst ha0
    have hc := hc2 rfl
    have h1 : T = (pre ++ [wTk (headW 2 ⟨#[]⟩)]) ++ wTk (dig count) :: (([pTk 3] ++ toksT d bd ++ [pTk 4]) ++ post) := by rw [h0]; simp
    have h2 : T = ((pre ++ [wTk (headW 2 ⟨#[]⟩)]) ++ [wTk (dig count)]) ++ (([pTk 3] ++ toksT d bd ++ [pTk 4]) ++ post) := by rw [h1]; simp
    obtain ⟨l2, b1, b2⟩ := bodyR_at hb' hvb hn' h2
    have kd : kindT T (pre.length + 1) = 1 := by have := kindT_at h1; rwa [hl1] at this
    have kt : textT T (pre.length + 1) = dig count := by have := textT_at h1; rwa [hl1] at this
    have nr : numR T ⟨pre.length + 1, 0⟩ = (⟨pre.length + 1 + 1, 0⟩, count) := by
      unfold numR
      rw [if_pos ⟨rfl, kd⟩, kt, numW_dig (n := count) hc]
    have l2' : ((pre ++ [wTk (headW 2 ⟨#[]⟩)]) ++ [wTk (dig count)]).length = pre.length + 1 + 1 := by simp
    rw [l2'] at b1
    have kw := kindW_head (k := 2) (by decide) ⟨#[]⟩
    refine ⟨⟨hkd, by rw [ht]; exact begW_kind (by show kindW (headW 2 ⟨#[]⟩) ≠ 1; rw [kw]; decide)⟩, mkT ⟨2, ⟨#[]⟩, [], count⟩ l2, ?_, ?_⟩
    · rw [(stmtR_word ht).1 kw, nr]
      show ((bodyR T (innerR T (e' + 1)) ⟨pre.length + 1 + 1, 0⟩).1, mkT ⟨2, ⟨#[]⟩, [], count⟩ (bodyR T (innerR T (e' + 1)) ⟨pre.length + 1 + 1, 0⟩).2) = _
      rw [b1, htl]
      show ((⟨pre.length + 1 + 1 + ((toksT d bd).length + 2), 0⟩ : Rs), _) = ((⟨pre.length + (1 + 1 + 0 + ((toksT d bd).length + 2)), 0⟩ : Rs), _)
      rw [show pre.length + 1 + 1 + ((toksT d bd).length + 2) = pre.length + (1 + 1 + 0 + ((toksT d bd).length + 2)) by omega]
    · show TT.mk _ (l2.map (toTT (e' + 1))) = _
      rw [b2]
      rfl
  · have hwe : word = ⟨#[]⟩ := hw.resolve_left (by decide)
    subst hwe
    obtain ⟨e', rfl, hb', hn'⟩ := hinner (by decide)
    have ha0 : args = [] := List.eq_nil_of_length_eq_zero (ha.trans rfl)
    subst ha0
    have hc : count = 0 := hc0 (show (3 : Int) ≠ 2 by decide)
    subst hc
    have h2 : T = (pre ++ [wTk (headW 3 ⟨#[]⟩)]) ++ (([pTk 3] ++ toksT d bd ++ [pTk 4]) ++ post) := by rw [h0]; simp
    obtain ⟨l2, b1, b2⟩ := bodyR_at hb' hvb hn' h2
    rw [hl1] at b1
    have kw := kindW_head (k := 3) (by decide) ⟨#[]⟩
    refine ⟨⟨hkd, by rw [ht]; exact begW_kind (by show kindW (headW 3 ⟨#[]⟩) ≠ 1; rw [kw]; decide)⟩, mkT ⟨3, ⟨#[]⟩, [], 0⟩ l2, ?_, ?_⟩
    · rw [(stmtR_word ht).2.1 kw, b1, htl]
      show ((⟨pre.length + 1 + ((toksT d bd).length + 2), 0⟩ : Rs), _) = ((⟨pre.length + (1 + 0 + 0 + ((toksT d bd).length + 2)), 0⟩ : Rs), _)
      rw [show pre.length + 1 + ((toksT d bd).length + 2) = pre.length + (1 + 0 + 0 + ((toksT d bd).length + 2)) by omega]
    · show TT.mk _ (l2.map (toTT (e' + 1))) = _
      rw [b2]
      rfl
  · have hwe : word = ⟨#[]⟩ := hw.resolve_left (by decide)
    have hbd : bd = [] := hb.resolve_left (by decide)
    have hc : count = 0 := hc0 (show (_ : Int) ≠ 2 by decide)
    subst hwe hbd hc
    have ha2 : args.length = 2 := ha
    have h1 : T = (pre ++ [wTk (headW 6 ⟨#[]⟩)]) ++ (args.map wTk ++ (pTk 2 :: post)) := by rw [h0]; simp
    have h2 : T = ((pre ++ [wTk (headW 6 ⟨#[]⟩)]) ++ args.map wTk) ++ pTk 2 :: post := by rw [h1, ← List.append_assoc]
    have n1 := namesR_at args _ h1
    have t1 := takeR_at (t := pTk 2) (c := 4) h2
    have l2 : ((pre ++ [wTk (headW 6 ⟨#[]⟩)]) ++ args.map wTk).length = pre.length + 1 + args.length := by simp; omega
    rw [hl1, ha2] at n1
    rw [l2, ha2] at t1
    have t1 : takeR T ⟨pre.length + 1 + 2, 0⟩ 2 4 = (⟨pre.length + 1 + 2 + 1, 0⟩, ⟨#[]⟩) := t1
    have kw := kindW_head (k := 6) (by decide) ⟨#[]⟩
    refine ⟨⟨hkd, by rw [ht]; exact begW_kind (by show kindW (headW 6 ⟨#[]⟩) ≠ 1; rw [kw]; decide)⟩, mkT ⟨6, ⟨#[]⟩, args, 0⟩ [], ?_, rfl⟩
    rw [(stmtR_word ht).2.2.1 kw, n1]
    show ((takeR T ⟨pre.length + 1 + 2, 0⟩ 2 4).1, mkT (d := e) ⟨6, ⟨#[]⟩, args, 0⟩ []) = _
    rw [t1, htl, ha2]
    rfl
  · have hwe : word = ⟨#[]⟩ := hw.resolve_left (by omega)
    have hc : count = 0 := hc0 (by omega)
    subst hwe hc
    have hbk : hasB k = true := by rcases hk4 with rfl | rfl | rfl <;> decide
    obtain ⟨e', rfl, hb', hn'⟩ := hinner hbk
    have ha1 : args.length = 1 := by
      have h9 : args.length = nargs k ⟨#[]⟩ := ha
      rw [h9]
      rcases hk4 with rfl | rfl | rfl <;> rfl
    have i1 : (if k = 2 then [wTk (dig 0)] else []) = [] := if_neg (by omega)
    have i2 : (if k = 1 ∨ k = 6 then [pTk 2] else [pTk 3] ++ toksT d bd ++ [pTk 4]) = [pTk 3] ++ toksT d bd ++ [pTk 4] := if_neg (by omega)
    rw [i1, i2] at h0
    rw [if_neg (by omega), if_neg (by omega)] at htl
    have h1 : T = (pre ++ [wTk (headW k ⟨#[]⟩)]) ++ (args.map wTk ++ (([pTk 3] ++ toksT d bd ++ [pTk 4]) ++ post)) := by rw [h0]; simp
    have h2 : T = ((pre ++ [wTk (headW k ⟨#[]⟩)]) ++ args.map wTk) ++ (([pTk 3] ++ toksT d bd ++ [pTk 4]) ++ post) := by rw [h1, ← List.append_assoc]
    have n1 := namesR_at args _ h1
    obtain ⟨l2, b1, b2⟩ := bodyR_at hb' hvb hn' h2
    have l2' : ((pre ++ [wTk (headW k ⟨#[]⟩)]) ++ args.map wTk).length = pre.length + 1 + args.length := by simp; omega
    rw [hl1, ha1] at n1
    rw [l2', ha1] at b1
    have kw := kindW_head (k := k) (by omega) ⟨#[]⟩
    refine ⟨⟨hkd, by rw [ht]; exact begW_kind (by show kindW (headW k ⟨#[]⟩) ≠ 1; rw [kw]; omega)⟩, mkT ⟨k, ⟨#[]⟩, args, 0⟩ l2, ?_, ?_⟩
    · rw [(stmtR_word ht).2.2.2.2 k hk4 kw, n1]
      show ((bodyR T (innerR T (e' + 1)) ⟨pre.length + 1 + 1, 0⟩).1, mkT ⟨k, ⟨#[]⟩, args, 0⟩ (bodyR T (innerR T (e' + 1)) ⟨pre.length + 1 + 1, 0⟩).2) = _
      rw [b1, htl, ha1]
      show ((⟨pre.length + 1 + 1 + ((toksT d bd).length + 2), 0⟩ : Rs), _) = ((⟨pre.length + (1 + 0 + 1 + ((toksT d bd).length + 2)), 0⟩ : Rs), _)
      rw [show pre.length + 1 + 1 + ((toksT d bd).length + 2) = pre.length + (1 + 0 + 1 + ((toksT d bd).length + 2)) by omega]
    · show TT.mk _ (l2.map (toTT (e' + 1))) = _
      rw [b2]
      rfl
end Go.Proofs.YthkbckkghnbonaaGreatDoor
namespace Go.Proofs.YthkbckkghnbonaaGreatDoor
open Go.RowKit
set_option linter.unusedVariables false
theorem hasB_two {k : Int} (h : hasB k = false) : (k == 2) = false := by
  unfold hasB at h
  cases h2 : (k == 2)
  · rfl
  · rw [h2] at h
    exact absurd h (by simp)
def tokT : (d : Nat) → List (Tr d) → Nat
  | 0, _ => 0
  | d + 1, l => (l.map fun (s : Tr (d + 1)) => (if (hdT s).k == 2 then 3 else 2) + (hdT s).args.length + (if hasB (hdT s).k then 1 + tokT d (bdT s) else 0)).sum
def tokE {d : Nat} (s : Tr (d + 1)) : Nat := (if (hdT s).k == 2 then 3 else 2) + (hdT s).args.length + (if hasB (hdT s).k then 1 + tokT d (bdT s) else 0)
theorem tokT_succ {d : Nat} (l : List (Tr (d + 1))) : tokT (d + 1) l = (l.map tokE).sum := rfl
theorem tokE_a {d : Nat} {s : Tr (d + 1)} (hk : hasB (hdT s).k = false) (hq : ((hdT s).k == 2) = false) : tokE s = 2 + (hdT s).args.length := by
  simp only [tokE, hk, hq]; simp
theorem tokE_b {d : Nat} {s : Tr (d + 1)} (hk : hasB (hdT s).k = true) (hq : ((hdT s).k == 2) = false) : tokE s = 2 + (hdT s).args.length + (1 + tokT d (bdT s)) := by
  simp only [tokE, hk, hq]; simp
theorem tokE_c {d : Nat} {s : Tr (d + 1)} (hk : hasB (hdT s).k = true) (hq : ((hdT s).k == 2) = true) : tokE s = 3 + (hdT s).args.length + (1 + tokT d (bdT s)) := by
  simp only [tokE, hk, hq]; simp
theorem tokT_le : ∀ (d : Nat) (l : List (Tr d)), tokT d l ≤ 4 * szT d l := by
  intro d
  induction d with
  | zero => intro l; exact Nat.zero_le _
  | succ d ih =>
    intro l
    rw [tokT_succ, szT_succ]
    unfold sumE
    induction l with
    | nil => simp
    | cons s l ih2 =>
      have h1 := ih (bdT s)
      simp only [List.map_cons, List.sum_cons, List.length_cons]
      have h2 : tokE s ≤ 4 + 4 * szE s := by
        unfold tokE szE
        split <;> split <;> omega
      omega
theorem tok_take_le {d : Nat} (l : List (Tr (d + 1))) (t : Nat) : tokT (d + 1) (l.take t) ≤ 4 * szT (d + 1) l := by
  refine Nat.le_trans (tokT_le _ _) ?_
  rw [szT_succ, szT_succ]
  have := sumE_take_le l t
  have := List.length_take_le' t l
  omega
theorem tok_take {d : Nat} (l : List (Tr (d + 1))) (t : Nat) (s : Tr (d + 1)) (h : l[t]? = some s) : tokT (d + 1) (l.take (t + 1)) = tokT (d + 1) (l.take t) + tokE s := by
  rw [List.take_add_one, h, tokT_succ, tokT_succ]
  simp
def TokSaid_impl (d : Nat) : Prop := ∀ (lo : Nat) (A : Option Addr) (n c : Nat) (l : List (Tr d)) (w : World), RdT w lo d A n l → szT d l ≤ 1048576 →
  Calls Tryz.prog 46 #[.slice A n c] w fun e w' => e = .returned (.int .i64 (tokT d l)) ∧ Below w.heap.size w w' ∧ w.heap.size ≤ w'.heap.size
set_option maxRecDepth 100000 in
set_option maxHeartbeats 2000000 in
theorem StmtTokenCount_impl : ∀ (d : Nat), TokSaid_impl d := by
  intro d
  induction d with
  | zero =>
    intro lo A n c l w h _
    obtain rfl := szT_zero_len h
    go_enter Tryz.func46, Tryz.ntmps46
    go_wp2
    refine wp_loop_rounds 1 ?_
    rw [rounds_succ]
    go_wp2
    go_ret
    exact ⟨rfl, Below.refl _ _, Nat.le_refl _⟩
  | succ d ih =>
    intro lo A n c l w h hsz
    have hln := h.len
    have hn : n ≤ 1048576 := by rw [szT_succ] at hsz; omega
    have HQ := Lib.hid hsz
    have HL := Lib.hid hln
    have H := Lib.hid h
    clear h hln hsz
    go_enter Tryz.func46, Tryz.ntmps46
    go_wp2
    go_loopw [3, 8] (fun m i wr => ∃ t : Nat, t ≤ n ∧ i = .int .i64 t ∧ m = .int .i64 (tokT (d + 1) (l.take t)) ∧ Below w.heap.size w wr) (fun _ i _ => n - (intOf i).toNat)
    case atStart => exact ⟨0, Nat.zero_le _, rfl, rfl, Below.refl _ _⟩
    case round =>
      obtain ⟨t, ht, rfl, rfl, hb⟩ := hrel
      have hN : tokT (d + 1) (l.take t) ≤ 4194304 := Nat.le_trans (tok_take_le l t) (by have := HQ.out; omega)
      obtain ⟨N, hNN⟩ : ∃ N, N = tokT (d + 1) (l.take t) := ⟨_, rfl⟩
      rw [← hNN] at hN ⊢
      have HN := Lib.hid hNN
      clear hNN
      have hbs := hb.size
      by_cases hlt : t < n
      · obtain ⟨b, off, s, Aa, ca, Ab, nb, cb, rfl, hbl, hs, hcs, hra, hrb⟩ := (H.out.below hb).at_ hlt
        obtain ⟨q0, q1, q2, q3, q4⟩ := hcs
        have hme := szT_mem hs
        have hz2 : szT d (bdT s) ≤ 1048576 := by have := HQ.out; rw [szT_succ] at this; unfold szE at hme; omega
        have hz3 : (hdT s).args.length ≤ 1048576 := by have := HQ.out; rw [szT_succ] at this; unfold szE at hme; omega
        have hnb := tokT_le d (bdT s)
        have HT := Lib.hid (tok_take l t s hs)
        have HB := Lib.hid (hrb.below (w' := wr.alloc (.cells #[.int .i64 (hdT s).k, .string (hdT s).word, .slice Aa (hdT s).args.length ca, .int .i64 (hdT s).count, .slice Ab nb cb] 66)) (by repeat (first | exact Below.refl _ _ | assumption | (refine Below.trans ?_ (Below.mono (by assumption) (by first | omega | (simp; done) | (simp; omega)))) | (with_reducible refine Below.drew ?_) | (with_reducible refine Below.alloc ?_ (by first | omega | (simp; done) | (simp; omega)) _) | (with_reducible refine Below.setCell ?_ (by first | omega | (simp; done) | (simp; omega)) _))))
        clear hs hra hrb hme
        obtain ⟨M, hM⟩ : ∃ M, M = tokT d (bdT s) := ⟨_, rfl⟩
        rw [← hM] at hnb
        have HM := Lib.hid hM
        clear hM
        cases hk : hasB (hdT s).k
        · have hq : ((hdT s).k == 2) = false := hasB_two hk
          have HT2 : Hid (tokT (d + 1) (l.take (t + 1)) = N + (2 + (hdT s).args.length)) := by
            have h := HT.out
            rw [← HN.out, tokE_a hk hq] at h
            exact h
          go_wp2_with (go_at_call 103; refine (hasBody_any _ _).mono ?_; rintro e w' ⟨rfl, rfl⟩)
          go_roundw
          case rel => exact ⟨t + 1, by omega, by go_num, by rw [HT2.out]; congr 1; omega, (hb.alloc hb.size _)⟩
          case measure => simp [intOf]; omega
        · cases hq : ((hdT s).k == 2)
          · have HT2 : Hid (tokT (d + 1) (l.take (t + 1)) = N + (2 + (hdT s).args.length + (1 + M))) := by
              have h := HT.out
              rw [← HN.out, tokE_b hk hq] at h
              rw [HM.out]
              exact h
            go_wp2_with (first | (go_at_call 103; refine (hasBody_any _ _).mono ?_; rintro e w' ⟨rfl, rfl⟩) | (go_at_call 46; refine (ih lo _ _ _ (bdT s) _ HB.out hz2).mono ?_; rintro e w1 ⟨rfl, b1, s1⟩; rw [← HM.out]))
            go_roundw
            case rel => exact ⟨t + 1, by omega, by go_num, by rw [HT2.out]; congr 1; omega, (hb.alloc hb.size _).trans (b1.mono (by simp; omega))⟩
            case measure => simp [intOf]; omega
          · have HT2 : Hid (tokT (d + 1) (l.take (t + 1)) = N + (3 + (hdT s).args.length + (1 + M))) := by
              have h := HT.out
              rw [← HN.out, tokE_c hk hq] at h
              rw [HM.out]
              exact h
            go_wp2_with (first | (go_at_call 103; refine (hasBody_any _ _).mono ?_; rintro e w' ⟨rfl, rfl⟩) | (go_at_call 46; refine (ih lo _ _ _ (bdT s) _ HB.out hz2).mono ?_; rintro e w1 ⟨rfl, b1, s1⟩; rw [← HM.out]))
            go_roundw
            case rel => exact ⟨t + 1, by omega, by go_num, by rw [HT2.out]; congr 1; omega, (hb.alloc hb.size _).trans (b1.mono (by simp; omega))⟩
            case measure => simp [intOf]; omega
      · obtain rfl : t = n := by omega
        have HF : Hid (N = tokT (d + 1) l) := by
          have h := HN.out
          rw [List.take_of_length_le (by rw [HL.out]; exact Nat.le_refl _)] at h
          exact h
        go_wp2
        go_ret
        exact ⟨by rw [← HF.out]; rfl, hb, hb.size⟩
def TokSaid_spec (d : Nat) : Prop := ∀ (lo : Nat) (A : Option Addr) (n c : Nat) (l : List (Tr d)) (w : World), RdT w lo d A n l → szT d l ≤ 1048576 →
  Calls Tryz.prog 51 #[.slice A n c] w fun e w' => e = .returned (.int .i64 (tokT d l)) ∧ Below w.heap.size w w' ∧ w.heap.size ≤ w'.heap.size
set_option maxRecDepth 100000 in
set_option maxHeartbeats 2000000 in
theorem StmtTokenCount_spec : ∀ (d : Nat), TokSaid_spec d := by
  intro d
  induction d with
  | zero =>
    intro lo A n c l w h _
    obtain rfl := szT_zero_len h
    go_enter Tryz.func51, Tryz.ntmps51
    go_wp2
    refine wp_loop_rounds 1 ?_
    rw [rounds_succ]
    go_wp2
    go_ret
    exact ⟨rfl, Below.refl _ _, Nat.le_refl _⟩
  | succ d ih =>
    intro lo A n c l w h hsz
    have hln := h.len
    have hn : n ≤ 1048576 := by rw [szT_succ] at hsz; omega
    have HQ := Lib.hid hsz
    have HL := Lib.hid hln
    have H := Lib.hid h
    clear h hln hsz
    go_enter Tryz.func51, Tryz.ntmps51
    go_wp2
    go_loopw [3, 4] (fun m i wr => ∃ t : Nat, t ≤ n ∧ i = .int .i64 t ∧ m = .int .i64 (tokT (d + 1) (l.take t)) ∧ Below w.heap.size w wr) (fun _ i _ => n - (intOf i).toNat)
    case atStart => exact ⟨0, Nat.zero_le _, rfl, rfl, Below.refl _ _⟩
    case round =>
      obtain ⟨t, ht, rfl, rfl, hb⟩ := hrel
      have hN : tokT (d + 1) (l.take t) ≤ 4194304 := Nat.le_trans (tok_take_le l t) (by have := HQ.out; omega)
      obtain ⟨N, hNN⟩ : ∃ N, N = tokT (d + 1) (l.take t) := ⟨_, rfl⟩
      rw [← hNN] at hN ⊢
      have HN := Lib.hid hNN
      clear hNN
      have hbs := hb.size
      by_cases hlt : t < n
      · obtain ⟨b, off, s, Aa, ca, Ab, nb, cb, rfl, hbl, hs, hcs, hra, hrb⟩ := (H.out.below hb).at_ hlt
        obtain ⟨q0, q1, q2, q3, q4⟩ := hcs
        have hme := szT_mem hs
        have hz2 : szT d (bdT s) ≤ 1048576 := by have := HQ.out; rw [szT_succ] at this; unfold szE at hme; omega
        have hz3 : (hdT s).args.length ≤ 1048576 := by have := HQ.out; rw [szT_succ] at this; unfold szE at hme; omega
        have hnb := tokT_le d (bdT s)
        have HT := Lib.hid (tok_take l t s hs)
        have HB := Lib.hid hrb
        clear hs hra hrb hme
        obtain ⟨M, hM⟩ : ∃ M, M = tokT d (bdT s) := ⟨_, rfl⟩
        rw [← hM] at hnb
        have HM := Lib.hid hM
        clear hM
        cases hk : hasB (hdT s).k
        · have hq : ((hdT s).k == 2) = false := hasB_two hk
          have HT2 : Hid (tokT (d + 1) (l.take (t + 1)) = N + (2 + (hdT s).args.length)) := by
            have h := HT.out
            rw [← HN.out, tokE_a hk hq] at h
            exact h
          go_wp2_with fail
          refine (l17Args_any _ _ _ _ _ _ ⟨_, _, _, rfl⟩ ⟨_, _, _, rfl⟩).mono ?_
          rintro e w1 ⟨rfl, b1, s1⟩
          rw [hk]
          have r0 := (b1.cell (p := ⟨b, off + t * 5, none⟩) hbl).trans q0
          have r2 := (b1.cell (p := ⟨b, off + t * 5 + 2, none⟩) hbl).trans q2
          have r4 := (b1.cell (p := ⟨b, off + t * 5 + 4, none⟩) hbl).trans q4
          clear q0 q1 q2 q3 q4
          go_wp2_with fail
          go_roundw
          case rel => exact ⟨t + 1, by omega, by go_num, by rw [HT2.out]; congr 1; omega, (hb.trans (b1.mono hb.size))⟩
          case measure => simp [intOf]; omega
        · cases hq : ((hdT s).k == 2)
          · have HT2 : Hid (tokT (d + 1) (l.take (t + 1)) = N + (2 + (hdT s).args.length + (1 + M))) := by
              have h := HT.out
              rw [← HN.out, tokE_b hk hq] at h
              rw [HM.out]
              exact h
            go_wp2_with fail
            refine (l17Args_any _ _ _ _ _ _ ⟨_, _, _, rfl⟩ ⟨_, _, _, rfl⟩).mono ?_
            rintro e w1 ⟨rfl, b1, s1⟩
            rw [hk]
            have r0 := (b1.cell (p := ⟨b, off + t * 5, none⟩) hbl).trans q0
            have r2 := (b1.cell (p := ⟨b, off + t * 5 + 2, none⟩) hbl).trans q2
            have r4 := (b1.cell (p := ⟨b, off + t * 5 + 4, none⟩) hbl).trans q4
            clear q0 q1 q2 q3 q4
            go_wp2_with fail
            refine (ih lo _ _ _ (bdT s) _ (HB.out.below b1) hz2).mono ?_
            rintro e w2 ⟨rfl, b2, s2⟩
            rw [← HM.out]
            go_wp2_with fail
            go_roundw
            case rel => exact ⟨t + 1, by omega, by go_num, by rw [HT2.out]; congr 1; omega, ((hb.trans (b1.mono hb.size)).trans (b2.mono (by omega)))⟩
            case measure => simp [intOf]; omega
          · have HT2 : Hid (tokT (d + 1) (l.take (t + 1)) = N + (3 + (hdT s).args.length + (1 + M))) := by
              have h := HT.out
              rw [← HN.out, tokE_c hk hq] at h
              rw [HM.out]
              exact h
            go_wp2_with fail
            refine (l17Args_any _ _ _ _ _ _ ⟨_, _, _, rfl⟩ ⟨_, _, _, rfl⟩).mono ?_
            rintro e w1 ⟨rfl, b1, s1⟩
            rw [hk]
            have r0 := (b1.cell (p := ⟨b, off + t * 5, none⟩) hbl).trans q0
            have r2 := (b1.cell (p := ⟨b, off + t * 5 + 2, none⟩) hbl).trans q2
            have r4 := (b1.cell (p := ⟨b, off + t * 5 + 4, none⟩) hbl).trans q4
            clear q0 q1 q2 q3 q4
            go_wp2_with fail
            refine (ih lo _ _ _ (bdT s) _ (HB.out.below b1) hz2).mono ?_
            rintro e w2 ⟨rfl, b2, s2⟩
            rw [← HM.out]
            go_wp2_with fail
            go_roundw
            case rel => exact ⟨t + 1, by omega, by go_num, by rw [HT2.out]; congr 1; omega, ((hb.trans (b1.mono hb.size)).trans (b2.mono (by omega)))⟩
            case measure => simp [intOf]; omega
      · obtain rfl : t = n := by omega
        have HF : Hid (N = tokT (d + 1) l) := by
          have h := HN.out
          rw [List.take_of_length_le (by rw [HL.out]; exact Nat.le_refl _)] at h
          exact h
        go_wp2
        go_ret
        exact ⟨by rw [← HF.out]; rfl, hb, hb.size⟩
end Go.Proofs.YthkbckkghnbonaaGreatDoor
namespace Go.Proofs.YthkbckkghnbonaaGreatDoor
open Go.RowKit
set_option linter.unusedVariables false
/-- Whether two lists of statements are equal. -/
def eqTs : (d : Nat) → List (Tr d) → List (Tr d) → Bool
  | 0, _, _ => true
  | d + 1, l, l' => eqBy (fun (s s' : Tr (d + 1)) => (hdT s).k == (hdT s').k && (eqSt (hdT s).word (hdT s').word && (eqBy eqSt (hdT s).args (hdT s').args && ((hdT s).count == (hdT s').count && eqTs d (bdT s) (bdT s'))))) l l'
def eqE {d : Nat} (s s' : Tr (d + 1)) : Bool := (hdT s).k == (hdT s').k && (eqSt (hdT s).word (hdT s').word && (eqBy eqSt (hdT s).args (hdT s').args && ((hdT s).count == (hdT s').count && eqTs d (bdT s) (bdT s'))))
theorem eqTs_succ {d : Nat} (l l' : List (Tr (d + 1))) : eqTs (d + 1) l l' = eqBy eqE l l' := rfl
section
variable {d : Nat} {s s' : Tr (d + 1)}
theorem eqE_k (h : ¬ (hdT s).k = (hdT s').k) : eqE s s' = false := by simp [eqE, h]
theorem eqE_w (h : eqSt (hdT s).word (hdT s').word = false) : eqE s s' = false := by simp [eqE, h]
theorem eqE_a (h : eqBy eqSt (hdT s).args (hdT s').args = false) : eqE s s' = false := by simp [eqE, h]
theorem eqE_c (h : ¬ (hdT s).count = (hdT s').count) : eqE s s' = false := by simp [eqE, h]
theorem eqE_b (h : eqTs d (bdT s) (bdT s') = false) : eqE s s' = false := by simp [eqE, h]
theorem eqE_t (h0 : (hdT s).k = (hdT s').k) (h1 : eqSt (hdT s).word (hdT s').word = true) (h2 : eqBy eqSt (hdT s).args (hdT s').args = true) (h3 : (hdT s).count = (hdT s').count) (h4 : eqTs d (bdT s) (bdT s') = true) : eqE s s' = true := by
  simp [eqE, h0, h1, h2, h3, h4]
end
end Go.Proofs.YthkbckkghnbonaaGreatDoor
namespace Go.Proofs.YthkbckkghnbonaaGreatDoor
open Go.RowKit
set_option linter.unusedVariables false
theorem RdT.take {w : World} {lo d n : Nat} {A : Option Addr} {l : List (Tr (d + 1))} (h : RdT w lo (d + 1) A n l) {t : Nat} (ht : t ≤ n) : RdT w lo (d + 1) A t (l.take t) := by
  refine ⟨by rw [List.length_take, h.1]; omega, fun h0 => ?_⟩
  obtain ⟨b, off, e, h1, hb, hc⟩ := h.2 (by omega)
  refine ⟨b, off, e, h1, hb, fun i s hi => hc i s ?_⟩
  rw [List.getElem?_take] at hi
  split at hi
  · exact hi
  · cases hi
theorem RdT.drop {w : World} {lo d n b off : Nat} {l : List (Tr (d + 1))} (h : RdT w lo (d + 1) (some ⟨b, off, none⟩) n l) {t : Nat} (ht : t ≤ n) : RdT w lo (d + 1) (some ⟨b, off + t * 5, none⟩) (n - t) (l.drop t) := by
  refine ⟨by rw [List.length_drop, h.1], fun h0 => ?_⟩
  obtain ⟨b', off', e, h1, hb, hc⟩ := h.2 (by omega)
  injection e with e
  injection e with e1 e2
  subst e1 e2
  refine ⟨b, off + t * 5, rfl, h1, hb, fun i s hi => ?_⟩
  rw [List.getElem?_drop] at hi
  obtain ⟨Aa, ca, Ab, nb, cb, h1, h2⟩ := hc _ s hi
  rw [show off + (t + i) * 5 = off + t * 5 + i * 5 by omega] at h1
  exact ⟨Aa, ca, Ab, nb, cb, h1, h2⟩
theorem RdT.nil {w : World} {lo d : Nat} {A : Option Addr} : RdT w lo (d + 1) A 0 [] := ⟨rfl, fun h => absurd h (by omega)⟩
theorem nest_from {d : Nat} (l : List (Tr (d + 1))) : ∀ m : Nat, l.foldl (fun (m : Nat) (s : Tr (d + 1)) => if hasB (hdT s).k then max m (1 + nestT d (bdT s)) else m) m = max m (nestT (d + 1) l) := by
  induction l with
  | nil => intro m; simp [nestT]
  | cons s l ih =>
    intro m
    show l.foldl _ (if hasB (hdT s).k then max m (1 + nestT d (bdT s)) else m) = max m (l.foldl _ (if hasB (hdT s).k then max 0 (1 + nestT d (bdT s)) else 0))
    rw [ih, ih]
    split <;> omega
theorem eqTs_refl : ∀ (d : Nat) (l : List (Tr d)), eqTs d l l = true := by
  intro d
  induction d with
  | zero => intro l; rfl
  | succ d ih =>
    intro l
    rw [eqTs_succ]
    exact eqBy_refl (fun s _ => eqE_t rfl (eqSt_refl _) (eqBy_refl (fun x _ => eqSt_refl x)) rfl (ih _))
end Go.Proofs.YthkbckkghnbonaaGreatDoor
namespace Go.Proofs.YthkbckkghnbonaaGreatDoor
open Go.RowKit
set_option linter.unusedVariables false
theorem nest_cons {d : Nat} (s : Tr (d + 1)) (l : List (Tr (d + 1))) : nestT (d + 1) (s :: l) = max (if hasB (hdT s).k then 1 + nestT d (bdT s) else 0) (nestT (d + 1) l) := by
  show l.foldl _ (if hasB (hdT s).k then max 0 (1 + nestT d (bdT s)) else 0) = _
  rw [nest_from]
  split <;> simp
theorem valid_cons {d : Nat} {s : Tr (d + 1)} {l : List (Tr (d + 1))} (h : validT (d + 1) (s :: l) = true) : vOne d (validT d) (hdT s) (bdT s) = true ∧ validT (d + 1) l = true := by
  have h1 : (vOne d (validT d) (hdT s) (bdT s) && validT (d + 1) l) = true := h
  rwa [Bool.and_eq_true] at h1
theorem loopR_at {T : List Tk} {e d : Nat} (hB : ∀ e', e = e' + 1 → Back T e') (top : Bool) : ∀ (l : List (Tr (d + 1))) (pre post : List Tk) (f : Nat), validT (d + 1) l = true → nestT (d + 1) l ≤ e → T = pre ++ (toksT (d + 1) l ++ post) →
    (post = [] ∨ (top = false ∧ ∃ p', post = pTk 4 :: p')) → T.length + 1 ≤ f + pre.length →
    ∃ l2 : List (Tr (e + 1)), loopR T top (stmtR T (innerR T e)) f ⟨pre.length, 0⟩ = (⟨pre.length + (toksT (d + 1) l).length, 0⟩, l2) ∧ l2.map (toTT (e + 1)) = l.map (toTT (d + 1)) := by
  intro l
  induction l with
  | nil =>
    intro pre post f hv hn h hp hf
    refine ⟨[], ?_, rfl⟩
    have h' : T = pre ++ post := h
    refine loopR_end ?_
    rcases hp with rfl | ⟨ht, p', rfl⟩
    · exact .inl (by rw [h']; simp)
    · exact .inr ⟨kindT_at h', ht⟩
  | cons s l ih =>
    intro pre post f hv hn h hp hf
    obtain ⟨hv1, hv2⟩ := valid_cons hv
    rw [nest_cons] at hn
    have hn2 : nestT (d + 1) l ≤ e := by omega
    have hn1 : hasB (hdT s).k = true → 1 + nestT d (bdT s) ≤ e := fun hb => by rw [if_pos hb] at hn; omega
    have et : toksT (d + 1) (s :: l) = toks1 (hdT s) (toksT d (bdT s)) ++ toksT (d + 1) l := rfl
    rw [et] at h ⊢
    have h1 : T = pre ++ (toks1 (hdT s) (toksT d (bdT s)) ++ (toksT (d + 1) l ++ post)) := by rw [h, List.append_assoc]
    obtain ⟨⟨k1, k2⟩, s2, e1, e2⟩ := stmtR_at hB hv1 hn1 h1
    have h2 : T = (pre ++ toks1 (hdT s) (toksT d (bdT s))) ++ (toksT (d + 1) l ++ post) := by rw [h1, ← List.append_assoc]
    have hlt : pre.length < T.length := kindT_lt (by rw [k1]; decide)
    obtain ⟨g, rfl⟩ : ∃ g, f = g + 1 := ⟨f - 1, by omega⟩
    have hpos : 0 < (toks1 (hdT s) (toksT d (bdT s))).length := by simp [toks1]
    have hl : (pre ++ toks1 (hdT s) (toksT d (bdT s))).length = pre.length + (toks1 (hdT s) (toksT d (bdT s))).length := List.length_append
    obtain ⟨l2, e3, e4⟩ := ih _ post g hv2 hn2 h2 hp (by omega)
    rw [hl] at e3
    refine ⟨s2 :: l2, ?_, by rw [List.map_cons, List.map_cons, e2, e4]⟩
    rw [loopR_step rfl hlt k1 k2, e1]
    show ((loopR T top (stmtR T (innerR T e)) g ⟨pre.length + (toks1 (hdT s) (toksT d (bdT s))).length, 0⟩).1, s2 :: (loopR T top (stmtR T (innerR T e)) g ⟨pre.length + (toks1 (hdT s) (toksT d (bdT s))).length, 0⟩).2) = _
    rw [e3, List.length_append, Nat.add_assoc]
theorem back_of {T : List Tk} {e : Nat} (hB : ∀ e', e = e' + 1 → Back T e') : Back T e := by
  intro d l pre post hv hn h
  cases d with
  | zero =>
    cases l with
    | cons s => exact nomatch (show Empty from s)
    | nil =>
      have h' : T = pre ++ pTk 4 :: post := h
      exact ⟨[], loopR_end (.inr ⟨kindT_at h', rfl⟩), rfl⟩
  | succ d => exact loopR_at hB false l pre (pTk 4 :: post) (T.length + 1) hv hn h (.inr ⟨rfl, post, rfl⟩) (by omega)
theorem back_all (T : List Tk) : ∀ e, Back T e := by
  intro e
  induction e with
  | zero => exact back_of (fun e' h => by omega)
  | succ e ih => exact back_of (fun e' h => by
    have h2 : e' = e := by omega
    subst h2
    exact ih)
theorem qR_at {T post : List Tk} : ∀ (qs : List ByteArray) (m : Nat) (pre : List Tk), qs.length ≤ m → T = pre ++ (qs.map wTk ++ pTk 2 :: post) → qR T m ⟨pre.length, 0⟩ = (⟨pre.length + qs.length + 1, 0⟩, qs) := by
  intro qs
  induction qs with
  | nil =>
    intro m pre hm h
    have h1 : T = pre ++ pTk 2 :: post := h
    have hk : kindT T pre.length = 2 := kindT_at h1
    have t1 : takeR T ⟨pre.length, 0⟩ 2 4 = (⟨pre.length + 1, 0⟩, ⟨#[]⟩) := takeR_at (t := pTk 2) h1
    cases m <;> (rw [qR, if_neg (by rintro ⟨_, h⟩; have h : kindT T pre.length = 1 := h; rw [hk] at h; exact absurd h (by decide)), t1]; rfl)
  | cons q qs ih =>
    intro m pre hm h
    obtain ⟨m, rfl⟩ : ∃ m', m = m' + 1 := ⟨m - 1, by simp at hm; omega⟩
    have h1 : T = pre ++ wTk q :: (qs.map wTk ++ pTk 2 :: post) := h
    have h2 : T = (pre ++ [wTk q]) ++ (qs.map wTk ++ pTk 2 :: post) := by rw [h1, List.append_assoc]; rfl
    have h3 := ih m _ (by simp at hm; omega) h2
    have hk : kindT T pre.length = 1 := kindT_at h1
    have ht : textT T pre.length = q := textT_at h1
    have hl : (pre ++ [wTk q]).length = pre.length + 1 := by simp
    rw [hl] at h3
    rw [qR, if_pos ⟨rfl, hk⟩]
    show ((qR T m ⟨pre.length + 1, 0⟩).1, textT T pre.length :: (qR T m ⟨pre.length + 1, 0⟩).2) = _
    rw [h3, ht, List.length_cons, show pre.length + 1 + qs.length + 1 = pre.length + (qs.length + 1) + 1 by omega]
/-- The word 'qubits'. -/
def qW : ByteArray := ⟨#[113, 117, 98, 105, 116, 115]⟩
theorem parse_back {d : Nat} {qs : List ByteArray} {l : List (Tr d)} (h1 : 1 ≤ qs.length) (h4 : qs.length ≤ 4) (hv : validT d l = true) (hn : nestT d l ≤ 4) :
    ∃ l2 : List (Tr 5), parseR (some ((([wTk qW] ++ qs.map wTk) ++ [pTk 2]) ++ toksT d l)) = (0, 0, qs, l2) ∧ l2.map (toTT 5) = l.map (toTT d) := by
  obtain ⟨T, hT⟩ : ∃ T, T = (([wTk qW] ++ qs.map wTk) ++ [pTk 2]) ++ toksT d l := ⟨_, rfl⟩
  rw [← hT]
  cases qs with
  | nil => simp at h1
  | cons q qs =>
    have a0 : T = [] ++ wTk qW :: ((wTk q :: qs.map wTk) ++ (pTk 2 :: toksT d l)) := by rw [hT]; simp
    have a1 : T = [wTk qW] ++ wTk q :: (qs.map wTk ++ (pTk 2 :: toksT d l)) := a0
    have a2 : T = [wTk qW, wTk q] ++ (qs.map wTk ++ (pTk 2 :: toksT d l)) := a0
    have k0 : kindT T 0 = 1 := kindT_at (pre := []) a0
    have t0 : textT T 0 = qW := textT_at (pre := []) a0
    have t1 : takeR T ⟨1, 0⟩ 1 3 = (⟨2, 0⟩, q) := takeR_at (t := wTk q) (pre := [wTk qW]) a1
    have t2 : qR T 3 ⟨2, 0⟩ = (⟨2 + qs.length + 1, 0⟩, qs) := qR_at qs 3 [wTk qW, wTk q] (by simp at h4; omega) a2
    have hh : headR T = (⟨2 + qs.length + 1, 0⟩, q :: qs) := by
      unfold headR
      rw [if_pos ⟨k0, by rw [t0, Lib.toList_data]; rfl⟩, t1]
      show ((qR T 3 ⟨2, 0⟩).1, q :: (qR T 3 ⟨2, 0⟩).2) = _
      rw [t2]
    have key : ∃ l2 : List (Tr 5), bodyT T ⟨2 + qs.length + 1, 0⟩ = (⟨2 + qs.length + 1 + (toksT d l).length, 0⟩, l2) ∧ l2.map (toTT 5) = l.map (toTT d) := by
      have a3 : T = ([wTk qW, wTk q] ++ qs.map wTk ++ [pTk 2]) ++ (toksT d l ++ []) := by rw [a2]; simp
      have hl : ([wTk qW, wTk q] ++ qs.map wTk ++ [pTk 2]).length = 2 + qs.length + 1 := by simp; omega
      cases d with
      | zero =>
        cases l with
        | cons s => exact nomatch (show Empty from s)
        | nil => exact ⟨[], loopR_end (.inl (by rw [a3, ← hl]; simp [toksT])), rfl⟩
      | succ d =>
        have := loopR_at (e := 4) (fun e' h => back_all T e') true l _ [] (T.length + 1) hv hn a3 (.inl rfl) (by omega)
        rw [hl] at this
        exact this
    obtain ⟨l2, b1, b2⟩ := key
    refine ⟨l2, ?_, b2⟩
    unfold parseR
    simp only []
    rw [hh]
    show (if (bodyT T ⟨2 + qs.length + 1, 0⟩).1.code = 0 then _ else _) = _
    rw [b1]
    rfl
end Go.Proofs.YthkbckkghnbonaaGreatDoor
namespace Go.Proofs.YthkbckkghnbonaaGreatDoor
open Go.RowKit
set_option linter.unusedVariables false
def letU (c : UInt8) : Bool := ltrB (c.toNat : Int)
def mrk (c : UInt8) : Nat := if c = 59 then 2 else if c = 123 then 3 else if c = 125 then 4 else 0
def blk (c : UInt8) : Bool := c == 32 || c == 10
theorem dropWhile_len (p : UInt8 → Bool) : ∀ l : List UInt8, (l.dropWhile p).length ≤ l.length := by
  intro l
  induction l with
  | nil => exact Nat.le_refl _
  | cons x l ih =>
    rw [List.dropWhile_cons]
    split
    · rw [List.length_cons]; omega
    · exact Nat.le_refl _
/-- The tokens of the bytes that are left, where n tokens stand already. -/
def tkz : List UInt8 → Nat → Option (List Tk)
  | [], _ => some []
  | c :: r, n =>
    if blk c = true then tkz r n
    else if 160 ≤ n then none
    else if mrk c ≠ 0 then (tkz r (n + 1)).map (pTk (mrk c) :: ·)
    else if letU c = true ∧ (r.takeWhile letU).length ≤ 7 then (tkz (r.dropWhile letU) (n + 1)).map (wTk ⟨(c :: r.takeWhile letU).toArray⟩ :: ·)
    else none
termination_by s => s.length
decreasing_by
  · simp
  · simp
  · have := dropWhile_len letU r
    simp
    omega
theorem tkz_nil (n : Nat) : tkz [] n = some [] := by rw [tkz]
theorem tkz_blk {c : UInt8} {r : List UInt8} {n : Nat} (h : blk c = true) : tkz (c :: r) n = tkz r n := by rw [tkz, if_pos h]
theorem tkz_full {c : UInt8} {r : List UInt8} {n : Nat} (h : blk c = false) (hn : 160 ≤ n) : tkz (c :: r) n = none := by rw [tkz, if_neg (by rw [h]; decide), if_pos hn]
theorem tkz_mrk {c : UInt8} {r : List UInt8} {n : Nat} (h : blk c = false) (hn : n < 160) (hm : mrk c ≠ 0) : tkz (c :: r) n = (tkz r (n + 1)).map (pTk (mrk c) :: ·) := by rw [tkz, if_neg (by rw [h]; decide), if_neg (by omega), if_pos hm]
theorem tkz_word {c : UInt8} {r : List UInt8} {n : Nat} (h : blk c = false) (hn : n < 160) (hm : mrk c = 0) (hl : letU c = true) (h8 : (r.takeWhile letU).length ≤ 7) : tkz (c :: r) n = (tkz (r.dropWhile letU) (n + 1)).map (wTk ⟨(c :: r.takeWhile letU).toArray⟩ :: ·) := by
  rw [tkz, if_neg (by rw [h]; decide), if_neg (by omega), if_neg (by simp [hm]), if_pos ⟨hl, h8⟩]
theorem tkz_bad {c : UInt8} {r : List UInt8} {n : Nat} (h : blk c = false) (hm : mrk c = 0) (hl : ¬ (letU c = true ∧ (r.takeWhile letU).length ≤ 7)) : tkz (c :: r) n = none := by
  rw [tkz, if_neg (by rw [h]; decide)]
  by_cases hn : 160 ≤ n
  · rw [if_pos hn]
  · rw [if_neg hn, if_neg (by simp [hm]), if_neg hl]
def wellTk (t : Tk) : Prop := (t.k = 1 ∧ wordOk t.s = true) ∨ ((t.k = 2 ∨ t.k = 3 ∨ t.k = 4) ∧ t.s = ⟨#[]⟩)
theorem mrk_cases (c : UInt8) : mrk c = 0 ∨ mrk c = 2 ∨ mrk c = 3 ∨ mrk c = 4 := by
  unfold mrk
  split
  · simp
  · split
    · simp
    · split <;> simp
theorem all_takeWhile {α : Type} (p : α → Bool) : ∀ l : List α, (l.takeWhile p).all p = true := by
  intro l
  induction l with
  | nil => rfl
  | cons x l ih =>
    rw [List.takeWhile_cons]
    cases h : p x
    · rfl
    · simp only [if_true, List.all_cons, h, ih]; rfl
theorem wordOk_of {l : List UInt8} (h : l.all letU = true) (h1 : 1 ≤ l.length) (h8 : l.length ≤ 8) : wordOk ⟨l.toArray⟩ = true := by
  have hs : (ByteArray.mk l.toArray).size = l.length := by show l.toArray.size = _; simp
  unfold wordOk letsUpto
  rw [hs, Bool.and_eq_true]
  refine ⟨?_, inB_iff.2 (by omega)⟩
  show (List.take l.length l).all _ = true
  rw [List.take_length]
  exact h
theorem tkz_well : ∀ (m : Nat) (s : List UInt8) (n : Nat) (T : List Tk), s.length ≤ m → tkz s n = some T → n ≤ 160 → (∀ t ∈ T, wellTk t) ∧ n + T.length ≤ 160 := by
  intro m
  induction m with
  | zero =>
    intro s n T hs h hn
    obtain rfl : s = [] := List.eq_nil_of_length_eq_zero (by omega)
    rw [tkz_nil] at h
    injection h with h
    subst h
    exact ⟨by simp, by simpa using hn⟩
  | succ m ih =>
    intro s n T hs h hn
    cases s with
    | nil =>
      rw [tkz_nil] at h
      injection h with h
      subst h
      exact ⟨by simp, by simpa using hn⟩
    | cons c r =>
      rw [List.length_cons] at hs
      cases hb : blk c
      · rcases Nat.lt_or_ge n 160 with h1 | h1
        · by_cases hm : mrk c = 0
          · by_cases hl : letU c = true ∧ (r.takeWhile letU).length ≤ 7
            · rw [tkz_word hb h1 hm hl.1 hl.2, Option.map_eq_some_iff] at h
              obtain ⟨T', h', rfl⟩ := h
              have hd := dropWhile_len letU r
              obtain ⟨a1, a2⟩ := ih _ _ _ (by omega) h' (by omega)
              refine ⟨?_, by rw [List.length_cons]; omega⟩
              intro t ht
              rcases List.mem_cons.1 ht with rfl | ht
              · exact .inl ⟨rfl, wordOk_of (by rw [List.all_cons, hl.1, all_takeWhile]; rfl) (by simp) (by rw [List.length_cons]; omega)⟩
              · exact a1 t ht
            · rw [tkz_bad hb hm hl] at h
              cases h
          · rw [tkz_mrk hb h1 hm, Option.map_eq_some_iff] at h
            obtain ⟨T', h', rfl⟩ := h
            obtain ⟨a1, a2⟩ := ih _ _ _ (by omega) h' (by omega)
            refine ⟨?_, by rw [List.length_cons]; omega⟩
            intro t ht
            rcases List.mem_cons.1 ht with rfl | ht
            · refine .inr ⟨?_, rfl⟩
              show (mrk c : Int) = 2 ∨ (mrk c : Int) = 3 ∨ (mrk c : Int) = 4
              have := mrk_cases c
              omega
            · exact a1 t ht
        · rw [tkz_full hb h1] at h
          cases h
      · rw [tkz_blk hb] at h
        exact ih _ _ _ (by omega) h hn
/-- The bytes of a token. -/
def tkb (t : Tk) : List UInt8 := (fmtT t.k t.s).data.toList
def tailB : List Tk → List UInt8
  | [] => []
  | t :: r => (if t.k = 2 then [] else [32]) ++ (tkb t ++ tailB r)
theorem tailB_snoc (t : Tk) : ∀ l : List Tk, tailB (l ++ [t]) = tailB l ++ ((if t.k = 2 then [] else [32]) ++ tkb t) := by
  intro l
  induction l with
  | nil => simp [tailB]
  | cons x l ih => rw [List.cons_append, tailB, ih, tailB]; simp only [List.append_assoc]
theorem bytes_append (a b : ByteArray) : (a ++ b).data.toList = a.data.toList ++ b.data.toList := by
  rw [ByteArray.data_append]
  simp
theorem ftxR_tail (t : Tk) : ∀ l : List Tk, (ftxR (l ++ [t])).data.toList = tkb t ++ tailB l.reverse := by
  intro l
  induction l with
  | nil =>
    rw [List.nil_append, ftxR, if_neg (by simp), bytes_append]
    simp [ftxR, tailB, tkb]
  | cons x l ih =>
    have hne : l ++ [t] ≠ [] := by simp
    rw [List.cons_append, ftxR, bytes_append, List.reverse_cons, tailB_snoc, ← List.append_assoc, ← ih]
    by_cases hk : x.k = 2
    · rw [if_neg (by simp [hk]), if_pos hk]
      rfl
    · rw [if_pos ⟨hne, hk⟩, if_neg hk, bytes_append]
      simp [tkb]
theorem ftx_tail (t : Tk) (r : List Tk) : (ftx (t :: r)).data.toList = tkb t ++ tailB r := by
  unfold ftx
  rw [List.reverse_cons, ftxR_tail, List.reverse_reverse]
theorem nil_toList : (⟨#[]⟩ : ByteArray).toList = [] := by
  unfold ByteArray.toList
  rw [ByteArray.toList.loop]
  rfl
theorem fmt_mark {k : Int} (h : k ≠ 1) : (fmtT k ⟨#[]⟩).data.toList = (symT k).data.toList := by rw [fmtT_e (Or.inl h) nil_toList]
/-- What follows a token begins with no letter. -/
theorem tailB_head {l : List Tk} (h : ∀ t ∈ l, wellTk t) : (tailB l).takeWhile letU = [] ∧ (tailB l).dropWhile letU = tailB l := by
  cases l with
  | nil => exact ⟨rfl, rfl⟩
  | cons t r =>
    by_cases hk : t.k = 2
    · have hs : t.s = ⟨#[]⟩ := by
        rcases h t (by simp) with ⟨h1, _⟩ | ⟨_, h1⟩
        · omega
        · exact h1
      have hb : tkb t = [59] := by unfold tkb; rw [hk, hs, fmt_mark (by decide)]; rfl
      have : tailB (t :: r) = 59 :: tailB r := by rw [tailB, if_pos hk, hb]; rfl
      rw [this, List.takeWhile_cons_of_neg (by decide), List.dropWhile_cons_of_neg (by decide)]
      exact ⟨rfl, rfl⟩
    · have : tailB (t :: r) = 32 :: (tkb t ++ tailB r) := by rw [tailB, if_neg hk]; rfl
      rw [this, List.takeWhile_cons_of_neg (by decide), List.dropWhile_cons_of_neg (by decide)]
      exact ⟨rfl, rfl⟩
theorem let_noblk {c : UInt8} (h : letU c = true) : blk c = false ∧ mrk c = 0 := by
  have h1 : c ≠ 32 := by rintro rfl; revert h; decide
  have h2 : c ≠ 10 := by rintro rfl; revert h; decide
  have h3 : c ≠ 59 := by rintro rfl; revert h; decide
  have h4 : c ≠ 123 := by rintro rfl; revert h; decide
  have h5 : c ≠ 125 := by rintro rfl; revert h; decide
  exact ⟨by simp [blk, h1, h2], by simp [mrk, h3, h4, h5]⟩
theorem takeWhile_all_append {α : Type} (p : α → Bool) : ∀ (l q : List α), l.all p = true → (l ++ q).takeWhile p = l ++ q.takeWhile p ∧ (l ++ q).dropWhile p = q.dropWhile p := by
  intro l q
  induction l with
  | nil => intro _; exact ⟨rfl, rfl⟩
  | cons x l ih =>
    intro h
    rw [List.all_cons, Bool.and_eq_true] at h
    obtain ⟨h1, h2⟩ := ih h.2
    rw [List.cons_append, List.takeWhile_cons_of_pos h.1, List.dropWhile_cons_of_pos h.1, h1, h2]
    exact ⟨rfl, rfl⟩
theorem word_bytes {s : ByteArray} (h : wordOk s = true) : ∃ c cs, s.data.toList = c :: cs ∧ letU c = true ∧ cs.all letU = true ∧ cs.length ≤ 7 := by
  have hz := wordOk_size h
  have hl : s.data.toList.length = s.size := by simp
  unfold wordOk letsUpto at h
  rw [Bool.and_eq_true, List.take_of_length_le (by rw [hl]; exact Nat.le_refl _)] at h
  cases hd : s.data.toList with
  | nil => rw [hd] at hl; simp at hl; omega
  | cons c cs =>
    rw [hd, List.all_cons, Bool.and_eq_true] at h
    rw [hd, List.length_cons] at hl
    exact ⟨c, cs, rfl, h.1.1, h.1.2, by omega⟩
theorem tkz_tok {t : Tk} {q : List UInt8} {n : Nat} (h : wellTk t) (hn : n < 160) (h1 : q.takeWhile letU = []) (h2 : q.dropWhile letU = q) : tkz (tkb t ++ q) n = (tkz q (n + 1)).map (t :: ·) := by
  obtain ⟨k, s⟩ := t
  rcases h with ⟨hk, hw⟩ | ⟨hk, hs⟩
  · simp only at hk hw
    subst hk
    obtain ⟨c, cs, hd, hc, hcs, h7⟩ := word_bytes hw
    have hb : tkb ⟨1, s⟩ = c :: cs := by unfold tkb; rw [fmtT_w hw, hd]
    obtain ⟨n1, n2⟩ := let_noblk hc
    obtain ⟨t1, t2⟩ := takeWhile_all_append letU cs q hcs
    rw [h1, List.append_nil] at t1
    rw [h2] at t2
    rw [hb, List.cons_append, tkz_word n1 hn n2 hc (by rw [t1]; exact h7), t1, t2]
    have e : (⟨(c :: cs).toArray⟩ : ByteArray) = s := by rw [← hd]
    rw [e]
    rfl
  · simp only at hk hs
    subst hs
    rcases hk with rfl | rfl | rfl
    · have hb : tkb ⟨2, ⟨#[]⟩⟩ = [59] := by unfold tkb; rw [fmt_mark (by decide)]; rfl
      rw [hb]
      exact tkz_mrk (by decide) hn (by decide)
    · have hb : tkb ⟨3, ⟨#[]⟩⟩ = [123] := by unfold tkb; rw [fmt_mark (by decide)]; rfl
      rw [hb]
      exact tkz_mrk (by decide) hn (by decide)
    · have hb : tkb ⟨4, ⟨#[]⟩⟩ = [125] := by unfold tkb; rw [fmt_mark (by decide)]; rfl
      rw [hb]
      exact tkz_mrk (by decide) hn (by decide)
theorem tkz_tail : ∀ (l : List Tk) (n : Nat), (∀ t ∈ l, wellTk t) → n + l.length ≤ 160 → tkz (tailB l) n = some l := by
  intro l
  induction l with
  | nil => intro n _ _; exact tkz_nil n
  | cons t r ih =>
    intro n h hn
    rw [List.length_cons] at hn
    have hr : ∀ t ∈ r, wellTk t := fun x hx => h x (by simp [hx])
    obtain ⟨h1, h2⟩ := tailB_head hr
    have hq := tkz_tok (h t (by simp)) (q := tailB r) (n := n) (by omega) h1 h2
    rw [ih (n + 1) hr (by omega)] at hq
    by_cases hk : t.k = 2
    · rw [tailB, if_pos hk, List.nil_append, hq]; rfl
    · rw [tailB, if_neg hk]
      show tkz (32 :: (tkb t ++ tailB r)) n = _
      rw [tkz_blk (by decide), hq]; rfl
/-- The tokens of a text, or none. -/
def tkS (s : ByteArray) : Option (List Tk) := tkz s.data.toList 0
end Go.Proofs.YthkbckkghnbonaaGreatDoor
namespace Go.Proofs.YthkbckkghnbonaaGreatDoor
open Go.RowKit
set_option linter.unusedVariables false
theorem validT_mem {d : Nat} {l : List (Tr (d + 1))} {t : Nat} {s : Tr (d + 1)} (h : validT (d + 1) l = true) (hs : l[t]? = some s) : vOne d (validT d) (hdT s) (bdT s) = true := List.all_eq_true.1 h s (List.mem_of_getElem? hs)
theorem vOne_facts {d : Nat} {k : Int} {word : ByteArray} {args : List ByteArray} {count : Int} {bd : List (Tr d)} (h : vOne d (validT d) ⟨k, word, args, count⟩ bd = true) : (1 ≤ k ∧ k ≤ 7) ∧ (k = 2 → 1 ≤ count ∧ count ≤ 9) ∧ validT d bd = true := by
  unfold vOne headV at h
  simp only [Bool.and_eq_true] at h
  obtain ⟨⟨h1, _, _, _, _, h2⟩, _, h3⟩ := h
  refine ⟨inB_iff.1 h1, fun hk => ?_, h3⟩
  unfold okCount at h2
  rw [if_pos hk] at h2
  exact inB_iff.1 h2
theorem own_low {w : World} {B B' e size n : Nat} {v : Value} {xs : List Value} (h : w.ownsRow B e size v n xs) (hB : B' ≤ B) : w.ownsRow B' e size v n xs := by
  refine ⟨h.1, ?_⟩
  rcases h.2 with h2 | ⟨g, cap, cur, h1, h2, h3⟩
  · exact .inl h2
  · exact .inr ⟨g, cap, cur, h1, Nat.le_trans hB h2, h3⟩
end Go.Proofs.YthkbckkghnbonaaGreatDoor
namespace Go.Proofs.YthkbckkghnbonaaGreatDoor
open Go.RowKit
set_option linter.unusedVariables false
/-- A call that hands back these tokens in new memory. -/
def RetTk (w : World) (L : List Tk) : Ending → World → Prop := RetRow 110 2 w L.length (tkcs L)
theorem retTk_of {w w' : World} {L : List Tk} {v : Value} {n : Nat} {xs : List Value} (he : xs = tkcs L) (ho : w'.ownsRow w.heap.size 110 2 v n xs) (hb : Below w.heap.size w w') (hs : w.heap.size ≤ w'.heap.size) : RetTk w L (.returned v) w' := by
  subst he
  have hn : L.length = n := by have := ho.1; rw [tkcs_len] at this; omega
  exact ⟨v, rfl, by rw [hn]; exact ho, hb, hs⟩
/-- The statements of a body, and the tokens of each. -/
def EltsT (f : Nat) (w : World) (Ab : Option Addr) (nb : Nat) (rs : List (List Tk)) : Prop := ∀ t, t < nb → ∃ (b off : Nat) (k : Int) (wd : ByteArray) (Aa : Option Addr) (na ca : Nat) (ct : Int) (Ab' : Option Addr) (nb' cb' : Nat) (r : List Tk),
  Ab = some ⟨b, off, none⟩ ∧ b < w.heap.size ∧ (w.cell? ⟨b, off + t * 5, none⟩ = some (.int .i64 k) ∧ w.cell? ⟨b, off + t * 5 + 1, none⟩ = some (.string wd) ∧ w.cell? ⟨b, off + t * 5 + 2, none⟩ = some (.slice Aa na ca) ∧ w.cell? ⟨b, off + t * 5 + 3, none⟩ = some (.int .i64 ct) ∧ w.cell? ⟨b, off + t * 5 + 4, none⟩ = some (.slice Ab' nb' cb')) ∧
  rs[t]? = some r ∧ ∀ w', Below w.heap.size w w' → Calls Tryz.prog f #[.agg #[.int .i64 k, .string wd, .slice Aa na ca, .int .i64 ct, .slice Ab' nb' cb']] w' (RetTk w' r)
theorem map_step {α : Type} {f : ByteArray → α} {l : List ByteArray} {t : Nat} {s : ByteArray} (h : l[t]? = some s) : (l.take (t + 1)).map f = (l.take t).map f ++ [f s] := by
  rw [List.take_add_one, h]
  simp
set_option maxRecDepth 100000 in
set_option maxHeartbeats 1000000 in
theorem l19Words_any (A : Option Addr) (n c : Nat) (l : List ByteArray) (w : World) (h : Rd w 1 A n (strs l)) (hl : l.length = n) (hn : n ≤ 1048576) :
    Calls Tryz.prog 98 #[.slice A n c] w (RetRow 110 2 w n (tkcs (l.map wTk))) := by
  obtain ⟨i0, hi, hz0, hz1, hz2⟩ := info_parts info_TkE
  have H := Lib.hid h
  have HL := Lib.hid hl
  clear h hl
  go_enter Tryz.func98, Tryz.ntmps98
  go_wp2
  go_loopw [3, 4] (fun v i wr => ∃ t : Nat, t ≤ n ∧ i = .int .i64 t ∧ wr.ownsRow w.heap.size 110 2 v t (tkcs ((l.take t).map wTk)) ∧ Below w.heap.size w wr) (fun _ i _ => n - (intOf i).toNat)
  case atStart => exact ⟨0, Nat.zero_le _, rfl, own_empty w _ 2, (by repeat (first | exact Below.refl _ _ | assumption | (refine Below.trans ?_ (Below.mono (by assumption) (by first | omega | (simp; done) | (simp; omega)))) | (with_reducible refine Below.drew ?_) | (with_reducible refine Below.alloc ?_ (by first | omega | (simp; done) | (simp; omega)) _) | (with_reducible refine Below.setCell ?_ (by first | omega | (simp; done) | (simp; omega)) _)))⟩
  case round =>
    obtain ⟨t, ht, rfl, hown, hb⟩ := hrel
    have hbs := hb.size
    by_cases hlt : t < n
    · obtain ⟨s, hs⟩ : ∃ s, l[t]? = some s := ⟨_, List.getElem?_eq_getElem (by have := HL.out; omega)⟩
      obtain ⟨b, off, rfl, hbl, hc⟩ := H.out.2 (by omega)
      have q0 : wr.cell? ⟨b, off + t, none⟩ = some (.string s) := (hb.cell (by exact hbl)).trans (hc t _ (strs_at hs))
      have HS := Lib.hid (map_step (f := wTk) hs)
      obtain ⟨L, hL⟩ : ∃ L, L = (l.take t).map wTk := ⟨_, rfl⟩
      rw [← hL] at hown HS
      clear hc hs hL
      go_wp2_with fail
      refine (l19Word_any s _).mono ?_
      rintro e w1 ⟨rfl, b1, s1⟩
      have hown1 := ownsRow_below hown b1
      have hb1 := hb.trans (b1.mono hbs)
      have hb1s := hb1.size
      clear hown
      go_wp2_with (at_builtin; refine wpList_append_rd _ rfl _ _ 53 rfl w.heap.size 110 i0 _ 2 24 Tryz.underlying53 hi hz0 hz1 hz2 rfl (by decide) _ _ _ rfl (hown1.alloc _) _ 1 1 _ rfl (rd_lit2 ?c0 rfl) ?c2 ?c3 ?c4 ?c5 ?_)
      case c0 => first | rfl | simp
      case c2 => repeat' (first | rfl | apply And.intro)
      case c3 => simp only [maxLen]; omega
      case c4 => omega
      case c5 => simp; omega
      intro v3 w3 own3 gr3 _
      have b3 := (hb1.alloc hb1s _).grown gr3 (by simp; omega) (own_ge hown1)
      clear hown1 gr3
      go_wp2_with fail
      go_roundw
      case rel =>
        refine ⟨t + 1, by omega, by go_num, ?_, b3⟩
        rw [HS.out, tkcs_append]
        exact own3
      case measure => simp [intOf]; omega
    · obtain rfl : t = n := by omega
      go_wp2_with fail
      go_ret
      exact ⟨_, rfl, by rw [List.take_of_length_le (by rw [HL.out]; exact Nat.le_refl _)] at hown; exact hown, hb, hb.size⟩
end Go.Proofs.YthkbckkghnbonaaGreatDoor
