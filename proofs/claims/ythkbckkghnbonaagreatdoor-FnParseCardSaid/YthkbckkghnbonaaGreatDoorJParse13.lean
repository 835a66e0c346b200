/- What the calls that this law reaches answer, part 13 of 16. -/
import Derived.Test.YthkbckkghnbonaaGreatDoorJParse12
import Derived.Test.YthkbckkghnbonaaGreatDoorJParse8
import Derived.Test.YthkbckkghnbonaaGreatDoorJParse10
import Derived.Test.YthkbckkghnbonaaGreatDoorJParse6
import Derived.Test.YthkbckkghnbonaaGreatDoorJParse11
import Derived.Test.YthkbckkghnbonaaGreatDoorJParse2
import Derived.Test.YthkbckkghnbonaaGreatDoorJParse1
import Derived.Test.YthkbckkghnbonaaGreatDoorJParse7
namespace Go.Proofs.YthkbckkghnbonaaGreatDoor
open Go.RowKit
set_option linter.unusedVariables false
theorem nest_cons {d : Nat} (s : Tr (d + 1)) (l : List (Tr (d + 1))) : nestT (d + 1) (s :: l) = max (if hasB (hdT s).k then 1 + nestT d (bdT s) else 0) (nestT (d + 1) l) := by
  show l.foldl _ (if hasB (hdT s).k then max 0 (1 + nestT d (bdT s)) else 0) = _
  rw [nest_from]
  split <;> simp
theorem valid_cons {d : Nat} {s : Tr (d + 1)} {l : List (Tr (d + 1))} (h : validT (d + 1) (s :: l) = true) : vOne d (validT d) (hdT s) (bdT s) = true ∧ validT (d + 1) l = true := by
  have h1 : (vOne d (validT d) (hdT s) (bdT s) && validT (d + 1) l) = true := h
  rwa [Bool.and_eq_true] at h1
theorem loopR_at {T : List Tk} {e d : Nat} (hB : ∀ e', e = e' + 1 → Back T e') (top : Bool) : ∀ (l : List (Tr (d + 1))) (pre post : List Tk) (f : Nat), validT (d + 1) l = true → nestT (d + 1) l ≤ e → T = pre ++ (toksT (d + 1) l ++ post) →
    (post = [] ∨ (top = false ∧ ∃ p', post = pTk 4 :: p')) → T.length + 1 ≤ f + pre.length →
    ∃ l2 : List (Tr (e + 1)), loopR T top (stmtR T (innerR T e)) f ⟨pre.length, 0⟩ = (⟨pre.length + (toksT (d + 1) l).length, 0⟩, l2) ∧ l2.map (toTT (e + 1)) = l.map (toTT (d + 1)) := by
  intro l
  induction l with
  | nil =>
    intro pre post f hv hn h hp hf
    refine ⟨[], ?_, rfl⟩
    have h' : T = pre ++ post := h
    refine loopR_end ?_
    rcases hp with rfl | ⟨ht, p', rfl⟩
    · exact .inl (by rw [h']; simp)
    · exact .inr ⟨kindT_at h', ht⟩
  | cons s l ih =>
    intro pre post f hv hn h hp hf
    obtain ⟨hv1, hv2⟩ := valid_cons hv
    rw [nest_cons] at hn
    have hn2 : nestT (d + 1) l ≤ e := by omega
    have hn1 : hasB (hdT s).k = true → 1 + nestT d (bdT s) ≤ e := fun hb => by rw [if_pos hb] at hn; omega
    have et : toksT (d + 1) (s :: l) = toks1 (hdT s) (toksT d (bdT s)) ++ toksT (d + 1) l := rfl
    rw [et] at h ⊢
    have h1 : T = pre ++ (toks1 (hdT s) (toksT d (bdT s)) ++ (toksT (d + 1) l ++ post)) := by rw [h, List.append_assoc]
    obtain ⟨⟨k1, k2⟩, s2, e1, e2⟩ := stmtR_at hB hv1 hn1 h1
    have h2 : T = (pre ++ toks1 (hdT s) (toksT d (bdT s))) ++ (toksT (d + 1) l ++ post) := by rw [h1, ← List.append_assoc]
    have hlt : pre.length < T.length := kindT_lt (by rw [k1]; decide)
    obtain ⟨g, rfl⟩ : ∃ g, f = g + 1 := ⟨f - 1, by omega⟩
    have hpos : 0 < (toks1 (hdT s) (toksT d (bdT s))).length := by simp [toks1]
    have hl : (pre ++ toks1 (hdT s) (toksT d (bdT s))).length = pre.length + (toks1 (hdT s) (toksT d (bdT s))).length := List.length_append
    obtain ⟨l2, e3, e4⟩ := ih _ post g hv2 hn2 h2 hp (by omega)
    rw [hl] at e3
    refine ⟨s2 :: l2, ?_, by rw [List.map_cons, List.map_cons, e2, e4]⟩
    rw [loopR_step rfl hlt k1 k2, e1]
    show ((loopR T top (stmtR T (innerR T e)) g ⟨pre.length + (toks1 (hdT s) (toksT d (bdT s))).length, 0⟩).1, s2 :: (loopR T top (stmtR T (innerR T e)) g ⟨pre.length + (toks1 (hdT s) (toksT d (bdT s))).length, 0⟩).2) = _
    rw [e3, List.length_append, Nat.add_assoc]
theorem back_of {T : List Tk} {e : Nat} (hB : ∀ e', e = e' + 1 → Back T e') : Back T e := by
  intro d l pre post hv hn h
  cases d with
  | zero =>
    cases l with
    | cons s => exact nomatch (show Empty from s)
    | nil =>
      have h' : T = pre ++ pTk 4 :: post := h
      exact ⟨[], loopR_end (.inr ⟨kindT_at h', rfl⟩), rfl⟩
  | succ d => exact loopR_at hB false l pre (pTk 4 :: post) (T.length + 1) hv hn h (.inr ⟨rfl, post, rfl⟩) (by omega)
theorem back_all (T : List Tk) : ∀ e, Back T e := by
  intro e
  induction e with
  | zero => exact back_of (fun e' h => by omega)
  | succ e ih => exact back_of (fun e' h => by
    have h2 : e' = e := by omega
    subst h2
    exact ih)
theorem qR_at {T post : List Tk} : ∀ (qs : List ByteArray) (m : Nat) (pre : List Tk), qs.length ≤ m → T = pre ++ (qs.map wTk ++ pTk 2 :: post) → qR T m ⟨pre.length, 0⟩ = (⟨pre.length + qs.length + 1, 0⟩, qs) := by
  intro qs
  induction qs with
  | nil =>
    intro m pre hm h
    have h1 : T = pre ++ pTk 2 :: post := h
    have hk : kindT T pre.length = 2 := kindT_at h1
    have t1 : takeR T ⟨pre.length, 0⟩ 2 4 = (⟨pre.length + 1, 0⟩, ⟨#[]⟩) := takeR_at (t := pTk 2) h1
    cases m <;> (rw [qR, if_neg (by rintro ⟨_, h⟩; have h : kindT T pre.length = 1 := h; rw [hk] at h; exact absurd h (by decide)), t1]; rfl)
  | cons q qs ih =>
    intro m pre hm h
    obtain ⟨m, rfl⟩ : ∃ m', m = m' + 1 := ⟨m - 1, by simp at hm; omega⟩
    have h1 : T = pre ++ wTk q :: (qs.map wTk ++ pTk 2 :: post) := h
    have h2 : T = (pre ++ [wTk q]) ++ (qs.map wTk ++ pTk 2 :: post) := by rw [h1, List.append_assoc]; rfl
    have h3 := ih m _ (by simp at hm; omega) h2
    have hk : kindT T pre.length = 1 := kindT_at h1
    have ht : textT T pre.length = q := textT_at h1
    have hl : (pre ++ [wTk q]).length = pre.length + 1 := by simp
    rw [hl] at h3
    rw [qR, if_pos ⟨rfl, hk⟩]
    show ((qR T m ⟨pre.length + 1, 0⟩).1, textT T pre.length :: (qR T m ⟨pre.length + 1, 0⟩).2) = _
    rw [h3, ht, List.length_cons, show pre.length + 1 + qs.length + 1 = pre.length + (qs.length + 1) + 1 by omega]
/-- The word 'qubits'. -/
def qW : ByteArray := ⟨#[113, 117, 98, 105, 116, 115]⟩
theorem parse_back {d : Nat} {qs : List ByteArray} {l : List (Tr d)} (h1 : 1 ≤ qs.length) (h4 : qs.length ≤ 4) (hv : validT d l = true) (hn : nestT d l ≤ 4) :
    ∃ l2 : List (Tr 5), parseR (some ((([wTk qW] ++ qs.map wTk) ++ [pTk 2]) ++ toksT d l)) = (0, 0, qs, l2) ∧ l2.map (toTT 5) = l.map (toTT d) := by
  obtain ⟨T, hT⟩ : ∃ T, T = (([wTk qW] ++ qs.map wTk) ++ [pTk 2]) ++ toksT d l := ⟨_, rfl⟩
  rw [← hT]
  cases qs with
  | nil => simp at h1
  | cons q qs =>
    have a0 : T = [] ++ wTk qW :: ((wTk q :: qs.map wTk) ++ (pTk 2 :: toksT d l)) := by rw [hT]; simp
    have a1 : T = [wTk qW] ++ wTk q :: (qs.map wTk ++ (pTk 2 :: toksT d l)) := a0
    have a2 : T = [wTk qW, wTk q] ++ (qs.map wTk ++ (pTk 2 :: toksT d l)) := a0
    have k0 : kindT T 0 = 1 := kindT_at (pre := []) a0
    have t0 : textT T 0 = qW := textT_at (pre := []) a0
    have t1 : takeR T ⟨1, 0⟩ 1 3 = (⟨2, 0⟩, q) := takeR_at (t := wTk q) (pre := [wTk qW]) a1
    have t2 : qR T 3 ⟨2, 0⟩ = (⟨2 + qs.length + 1, 0⟩, qs) := qR_at qs 3 [wTk qW, wTk q] (by simp at h4; omega) a2
    have hh : headR T = (⟨2 + qs.length + 1, 0⟩, q :: qs) := by
      unfold headR
      rw [if_pos ⟨k0, by rw [t0, Lib.toList_data]; rfl⟩, t1]
      show ((qR T 3 ⟨2, 0⟩).1, q :: (qR T 3 ⟨2, 0⟩).2) = _
      rw [t2]
    have key : ∃ l2 : List (Tr 5), bodyT T ⟨2 + qs.length + 1, 0⟩ = (⟨2 + qs.length + 1 + (toksT d l).length, 0⟩, l2) ∧ l2.map (toTT 5) = l.map (toTT d) := by
      have a3 : T = ([wTk qW, wTk q] ++ qs.map wTk ++ [pTk 2]) ++ (toksT d l ++ []) := by rw [a2]; simp
      have hl : ([wTk qW, wTk q] ++ qs.map wTk ++ [pTk 2]).length = 2 + qs.length + 1 := by simp; omega
      cases d with
      | zero =>
        cases l with
        | cons s => exact nomatch (show Empty from s)
        | nil => exact ⟨[], loopR_end (.inl (by rw [a3, ← hl]; simp [toksT])), rfl⟩
      | succ d =>
        have := loopR_at (e := 4) (fun e' h => back_all T e') true l _ [] (T.length + 1) hv hn a3 (.inl rfl) (by omega)
        rw [hl] at this
        exact this
    obtain ⟨l2, b1, b2⟩ := key
    refine ⟨l2, ?_, b2⟩
    unfold parseR
    simp only []
    rw [hh]
    show (if (bodyT T ⟨2 + qs.length + 1, 0⟩).1.code = 0 then _ else _) = _
    rw [b1]
    rfl
end Go.Proofs.YthkbckkghnbonaaGreatDoor
namespace Go.Proofs.YthkbckkghnbonaaGreatDoor
open Go.RowKit
set_option linter.unusedVariables false
theorem toks1_count {d : Nat} {h : SH} {bd : List (Tr d)} (hv : vOne d (validT d) h bd = true) (hb : (toksT d bd).length = tokT d bd) : (toks1 h (toksT d bd)).length = tokE (mkT h bd) := by
  unfold vOne headV at hv
  simp only [Bool.and_eq_true, decide_eq_true_eq] at hv
  have hk := inB_iff.1 hv.1.1
  unfold tokE
  rw [hd_mk, bd_mk]
  have hk7 : h.k = 1 ∨ h.k = 2 ∨ h.k = 3 ∨ h.k = 4 ∨ h.k = 5 ∨ h.k = 6 ∨ h.k = 7 := by omega
  unfold toks1
  rcases hk7 with e | e | e | e | e | e | e <;> simp [e, hasB, hb] <;> omega
theorem toksT_count : ∀ (d : Nat) (l : List (Tr d)), validT d l = true → (toksT d l).length = tokT d l := by
  intro d
  induction d with
  | zero => intro l _; rfl
  | succ d ih =>
    intro l
    induction l with
    | nil => intro _; rfl
    | cons s l ihl =>
      intro h
      have h1 : (vOne d (validT d) (hdT s) (bdT s) && validT (d + 1) l) = true := h
      rw [Bool.and_eq_true] at h1
      have h2 := ihl h1.2
      have h3 : vOne d (validT d) (hdT s) (bdT s) = true := h1.1
      have h4 : validT d (bdT s) = true := by
        unfold vOne at h3
        simp only [Bool.and_eq_true] at h3
        exact h3.2.2
      have h5 := toks1_count h3 (ih _ h4)
      have e1 : toksT (d + 1) (s :: l) = toks1 (hdT s) (toksT d (bdT s)) ++ toksT (d + 1) l := rfl
      have e2 : tokT (d + 1) (s :: l) = tokE s + tokT (d + 1) l := by rw [tokT_succ, tokT_succ, List.map_cons, List.sum_cons]
      rw [e1, e2, List.length_append, h2, h5]
      rfl
end Go.Proofs.YthkbckkghnbonaaGreatDoor
namespace Go.Proofs.YthkbckkghnbonaaGreatDoor
open Go.RowKit
set_option linter.unusedVariables false
theorem gname_of {word : List UInt8} : ∀ f k, gkindFrom word f k ≠ 0 → ∃ j, k ≤ j ∧ j < k + f ∧ word = gname j := by
  intro f
  induction f with
  | zero => intro k h; exact absurd rfl h
  | succ f ih =>
    intro k h
    unfold gkindFrom at h
    by_cases hg : (gname k == word) = true
    · exact ⟨k, Nat.le_refl _, by omega, (eq_of_beq hg).symm⟩
    · rw [if_neg hg] at h
      obtain ⟨j, h1, h2, h3⟩ := ih (k + 1) h
      exact ⟨j, by omega, by omega, h3⟩
theorem gkind_ok {word : ByteArray} (h : gkind word ≠ 0) : wordOk word = true := by
  obtain ⟨j, h1, h2, h3⟩ := gname_of 12 1 h
  have e : word = ⟨(gname j).toArray⟩ := by
    rw [← h3, Lib.toList_data]
  have hj : j = 1 ∨ j = 2 ∨ j = 3 ∨ j = 4 ∨ j = 5 ∨ j = 6 ∨ j = 7 ∨ j = 8 ∨ j = 9 ∨ j = 10 ∨ j = 11 ∨ j = 12 := by omega
  rw [e]
  rcases hj with rfl | rfl | rfl | rfl | rfl | rfl | rfl | rfl | rfl | rfl | rfl | rfl <;> exact wordOk_of (by decide) (by decide) (by decide)
theorem head_ok {k : Int} {word : ByteArray} (hk : 1 ≤ k ∧ k ≤ 7) (hg : k = 1 → gkind word ≠ 0) : wordOk (headW k word) = true := by
  have h7 : k = 1 ∨ k = 2 ∨ k = 3 ∨ k = 4 ∨ k = 5 ∨ k = 6 ∨ k = 7 := by omega
  rcases h7 with rfl | rfl | rfl | rfl | rfl | rfl | rfl
  · exact gkind_ok (hg rfl)
  · exact wordOk_of (l := [114, 101, 112, 101, 97, 116]) (by decide) (by decide) (by decide)
  · exact wordOk_of (l := [97, 100, 106, 111, 105, 110, 116]) (by decide) (by decide) (by decide)
  · exact wordOk_of (l := [99, 111, 110, 116, 114, 111, 108]) (by decide) (by decide) (by decide)
  · exact wordOk_of (l := [97, 110, 99, 105, 108, 108, 97]) (by decide) (by decide) (by decide)
  · exact wordOk_of (l := [109, 101, 97, 115, 117, 114, 101]) (by decide) (by decide) (by decide)
  · exact wordOk_of (l := [105, 102]) (by decide) (by decide) (by decide)
theorem dig_ok {x : Int} (h0 : 1 ≤ x) (h1 : x ≤ 9) : wordOk (dig x) = true := by
  have h9 : x = 1 ∨ x = 2 ∨ x = 3 ∨ x = 4 ∨ x = 5 ∨ x = 6 ∨ x = 7 ∨ x = 8 ∨ x = 9 := by omega
  rcases h9 with rfl | rfl | rfl | rfl | rfl | rfl | rfl | rfl | rfl <;> exact wordOk_of (l := [_]) (by decide) (by decide) (by decide)
theorem well_w {s : ByteArray} (h : wordOk s = true) : wellTk (wTk s) := .inl ⟨rfl, h⟩
theorem well_p {k : Int} (h : k = 2 ∨ k = 3 ∨ k = 4) : wellTk (pTk k) := .inr ⟨h, rfl⟩
theorem vOne_args {d : Nat} {h : SH} {bd : List (Tr d)} (hv : vOne d (validT d) h bd = true) : h.args.all wordOk = true := by
  unfold vOne at hv
  simp only [Bool.and_eq_true] at hv
  exact hv.2.1
theorem toks1_well {d : Nat} {h : SH} {bd : List (Tr d)} (hv : vOne d (validT d) h bd = true) (hb : ∀ t ∈ toksT d bd, wellTk t) : ∀ t ∈ toks1 h (toksT d bd), wellTk t := by
  obtain ⟨hk, ha, hk1, _, _, hc, _, _⟩ := vOne_all hv
  have hw := List.all_eq_true.1 (vOne_args hv)
  have hg : h.k = 1 → gkind h.word ≠ 0 := fun e e2 => by
    rcases hk1 with h1 | h1
    · exact h1 e
    · rw [e] at h1
      apply h1
      show ar (gkind h.word) = 0
      rw [e2]
      decide
  intro t ht
  unfold toks1 at ht
  simp only [List.mem_append] at ht
  rcases ht with ((ht | ht) | ht) | ht
  · simp only [List.mem_singleton] at ht
    subst ht
    exact well_w (head_ok hk hg)
  · split at ht
    · rename_i h2
      simp only [List.mem_singleton] at ht
      subst ht
      exact well_w (dig_ok (hc h2).1 (hc h2).2)
    · cases ht
  · obtain ⟨a, ha', rfl⟩ := List.mem_map.1 ht
    exact well_w (hw a ha')
  · split at ht
    · simp only [List.mem_singleton] at ht
      subst ht
      exact well_p (.inl rfl)
    · simp only [List.mem_append, List.mem_singleton] at ht
      rcases ht with (rfl | ht) | rfl
      · exact well_p (.inr (.inl rfl))
      · exact hb t ht
      · exact well_p (.inr (.inr rfl))
theorem toksT_well : ∀ (d : Nat) (l : List (Tr d)), validT d l = true → ∀ t ∈ toksT d l, wellTk t := by
  intro d
  induction d with
  | zero => intro l _ t ht; cases ht
  | succ d ih =>
    intro l hv t ht
    have h1 : ∀ s ∈ l, vOne d (validT d) (hdT s) (bdT s) = true := List.all_eq_true.1 hv
    obtain ⟨s, hs, ht⟩ := List.mem_flatMap.1 ht
    exact toks1_well (h1 s hs) (ih _ (vOne_all (h1 s hs)).2.2.2.2.2.2.2) t ht
/-- A list of tokens, as text, gives these tokens. -/
theorem tkS_ftx {T : List Tk} (h1 : ∀ t ∈ T, wellTk t) (h2 : T.length ≤ 160) : tkS (ftx T) = some T := by
  cases T with
  | nil => exact tkz_nil 0
  | cons t r =>
    unfold tkS
    rw [List.length_cons] at h2
    have hr : ∀ t ∈ r, wellTk t := fun x hx => h1 x (by simp [hx])
    obtain ⟨a1, a2⟩ := tailB_head hr
    rw [ftx_tail, tkz_tok (h1 t (by simp)) (by omega) a1 a2, tkz_tail r 1 hr (by omega)]
    rfl
theorem progV_all {d : Nat} {qs : List ByteArray} {l : List (Tr d)} (h : progV d qs l = true) : (1 ≤ qs.length ∧ qs.length ≤ 4) ∧ nestT d l ≤ 4 ∧ tokT d l + qs.length + 2 ≤ 160 := by
  unfold progV pgR at h
  simp only [Bool.and_eq_true, decide_eq_true_eq] at h
  have := inB_iff.1 h.1
  exact ⟨by omega, h.2.2.2.1, h.2.2.2.2⟩
theorem map_toTT {d : Nat} : ∀ (l l' : List (Tr d)), l.map (toTT d) = l'.map (toTT d) → l = l' := by
  intro l
  induction l with
  | nil => intro l' h; cases l' with
    | nil => rfl
    | cons x l' => simp at h
  | cons x l ih => intro l' h; cases l' with
    | nil => simp at h
    | cons y l' =>
      rw [List.map_cons, List.map_cons, List.cons.injEq] at h
      rw [toTT_inj d x y h.1, ih l' h.2]
/-- What is not valid has no text. -/
theorem text_none {d : Nat} {Q : List ByteArray} {l : List (Tr d)} (hv : progV d Q l = false) : ftx (pTks d Q l) = ⟨#[]⟩ ∧ parseR (tkS (ftx (pTks d Q l))) = (2, 0, [], []) := by
  have e : pTks d Q l = [] := by unfold pTks; rw [hv, stToks_f]
  rw [e]
  exact ⟨rfl, by rw [show tkS (ftx []) = some [] from tkz_nil 0]; rfl⟩
theorem RdT.up {w : World} {lo : Nat} : ∀ {d : Nat} {A : Option Addr} {n : Nat} {l : List (Tr d)}, RdT w lo d A n l → RdT w lo (d + 1) A n (l.map (upT d)) := by
  intro d
  induction d with
  | zero =>
    intro A n l h
    have hl := h.1
    obtain rfl : n = 0 := h.2
    refine ⟨by simpa using hl, fun h0 => absurd h0 (by omega)⟩
  | succ d ih =>
    intro A n l h
    refine ⟨by simpa using h.1, fun h0 => ?_⟩
    obtain ⟨b, off, e, hl, hb, hc⟩ := h.2 h0
    refine ⟨b, off, e, hl, hb, fun i s hi => ?_⟩
    rw [List.getElem?_map] at hi
    cases hx : l[i]? with
    | none => rw [hx] at hi; cases hi
    | some x =>
      rw [hx] at hi
      obtain rfl : upT (d + 1) x = s := by simpa using hi
      obtain ⟨Aa, ca, Ab, nb, cb, h1, h2, h3, h4⟩ := hc i x hx
      exact ⟨Aa, ca, Ab, nb, cb, h1, h2, ih h3, h4⟩
end Go.Proofs.YthkbckkghnbonaaGreatDoor
namespace Go.Proofs.YthkbckkghnbonaaGreatDoor
open Go.RowKit
set_option linter.unusedVariables false
theorem parse_place (o : Option (List Tk)) (hz : ∀ T, o = some T → Small8 T) : (parseR o).2.1 ≤ (o.getD []).length := by
  cases o with
  | none => exact Nat.zero_le _
  | some T =>
    have h8 := hz T rfl
    have hd := headR_ok h8 (by cases T; exact .inr rfl; exact .inl (by simp))
    have hb := bodyT_light h8 (headR T).1 hd.1
    unfold parseR
    simp only []
    split
    · exact Nat.zero_le _
    · exact hb.2
theorem parse_names (o : Option (List Tk)) (h : (parseR o).1 ≠ 0) : (parseR o).2.2.1 = [] := by
  cases o with
  | none => rfl
  | some T =>
    unfold parseR at h ⊢
    simp only [] at h ⊢
    split at h
    · exact absurd rfl h
    · rename_i hc
      rw [if_neg hc]
theorem small8_tk (s : ByteArray) : ∀ T, tkS s = some T → Small8 T := by
  intro T ht
  obtain ⟨hw, hl⟩ := tkz_well _ _ _ _ (Nat.le_refl _) ht (by omega)
  intro t h
  rcases hw t h with ⟨_, h⟩ | ⟨_, h⟩
  · exact (wordOk_size h).2
  · rw [h]; exact Nat.zero_le _
/-- A valid program's text reads back as the program. -/
theorem text_back5 {Q : List ByteArray} {l : List (Tr 5)} (hv : progV 5 Q l = true) : parseR (tkS (ftx (pTks 5 Q l))) = (0, 0, Q, l) := by
  have hval := progV_valid hv
  obtain ⟨⟨q1, q4⟩, hn, ht⟩ := progV_all hv
  have hq := List.all_eq_true.1 (show Q.all wordOk = true from progV_qs hv)
  have e : pTks 5 Q l = (([wTk qW] ++ Q.map wTk) ++ [pTk 2]) ++ toksT 5 l := by
    unfold pTks
    rw [hv, stToks_t]
    rfl
  have hc := toksT_count 5 l hval
  have hw : ∀ t ∈ pTks 5 Q l, wellTk t := by
    rw [e]
    intro t ht
    simp only [List.mem_append, List.mem_singleton] at ht
    rcases ht with ((rfl | ht) | rfl) | ht
    · exact well_w (wordOk_of (l := [113, 117, 98, 105, 116, 115]) (by decide) (by decide) (by decide))
    · obtain ⟨a, ha, rfl⟩ := List.mem_map.1 ht
      exact well_w (hq a ha)
    · exact well_p (.inl rfl)
    · exact toksT_well 5 l hval t ht
  have hl : (pTks 5 Q l).length ≤ 160 := by
    rw [e]
    simp only [List.length_append, List.length_map, List.length_singleton]
    omega
  rw [tkS_ftx hw hl, e]
  obtain ⟨l2, h1, h2⟩ := parse_back (d := 5) q1 q4 hval hn
  rw [h1, map_toTT l2 l h2]
end Go.Proofs.YthkbckkghnbonaaGreatDoor
namespace Go.Proofs.YthkbckkghnbonaaGreatDoor
open Go.RowKit
set_option linter.unusedVariables false
theorem gr_set {W : World} {R j : Nat} (u : Value) : W.grownBy (W.setCell ⟨R, j, none⟩ u) (some R) := only_setCell (World.grownBy.refl W (some R)) rfl u
theorem gr_below {w W W' : World} {R : Nat} (h : w.grownBy W (some R)) (hb : Below W.heap.size W W') : w.grownBy W' (some R) := h.andThen (only_of_below hb none) (by simp)
theorem gr_own {w W W' : World} {R : Nat} {row : Option Nat} (h : w.grownBy W (some R)) (hg : W.grownBy W' row) (hr : ∀ k, row = some k → w.heap.size ≤ k) : w.grownBy W' (some R) := h.andThen hg (fun j hj => .inl (hr j hj))
theorem rdq_own {w W : World} {P : Nat → Prop} {size n : Nat} {A : Option Addr} {xs : List Value} {row : Option Nat} (h : RdQ w P size A n xs) (hg : w.grownBy W row) (hr : ∀ k, row = some k → ¬ P k) : RdQ W P size A n xs :=
  h.keep (fun b hb hlt => hg.block b hlt (fun e => hr b e.symm hb)) hg.size
/-- The reference's reader. -/
structure RdS (R : Nat) (A : Option Addr) (n c : Nat) (T : List Tk) (s : Rs) (W : World) : Prop where
  x : W.heap[R]? = some (.cells #[.slice A n c, .int .i64 s.i, .int .i64 s.code] 114 (0, 0))
  t : RdQ W (fun b => b < R) 2 A n (tkcs T)
  l : T.length = n
  i : s.i ≤ T.length
section
variable {R n c : Nat} {A : Option Addr} {T : List Tk} {s : Rs} {W W' : World}
theorem RdS.at_ (h : RdS R A n c T s W) {i : Nat} (hi : i ≤ T.length) : RdS R A n c T ⟨i, s.code⟩ (W.setCell ⟨R, 1, none⟩ (.int .i64 i)) := ⟨heap_set_selfG h.x _, h.t.set_ (fun hb => Nat.lt_irrefl _ hb) _, h.l, hi⟩
theorem RdS.code (h : RdS R A n c T s W) (v : Int) : RdS R A n c T ⟨s.i, v⟩ (W.setCell ⟨R, 2, none⟩ (.int .i64 v)) := ⟨heap_set_selfG h.x _, h.t.set_ (fun hb => Nat.lt_irrefl _ hb) _, h.l, h.i⟩
theorem RdS.atv (h : RdS R A n c T s W) {i : Nat} {v : Int} (hi : i ≤ T.length) (hv : v = i) : RdS R A n c T ⟨i, s.code⟩ (W.setCell ⟨R, 1, none⟩ (.int .i64 v)) := by rw [hv]; exact h.at_ hi
theorem RdS.drewN (h : RdS R A n c T s W) (k : Nat) : RdS R A n c T s (W.drewN k) := ⟨h.x, h.t, h.l, h.i⟩
theorem RdS.below (h : RdS R A n c T s W) (hb : Below W.heap.size W W') : RdS R A n c T s W' := ⟨(hb.block _ (lt_of_block h.x)).trans h.x, h.t.below hb, h.l, h.i⟩
theorem RdS.own {row : Option Nat} (h : RdS R A n c T s W) (hg : W.grownBy W' row) (hr : ∀ k, row = some k → R < k) : RdS R A n c T s W' :=
  ⟨(hg.block _ (lt_of_block h.x) (fun e => Nat.lt_irrefl _ (hr R e.symm))).trans h.x, rdq_own h.t hg (fun k hk hb => by have := hr k hk; omega), h.l, h.i⟩
theorem RdS.tok (h : RdS R A n c T s W) {i : Nat} (hi : i < n) : ∃ b off, A = some ⟨b, off, none⟩ ∧ b < R ∧ b < W.heap.size ∧ W.cell? ⟨b, off + i * 2, none⟩ = some (.int .i64 (kindT T i)) ∧ W.cell? ⟨b, off + i * 2 + 1, none⟩ = some (.string (textT T i)) := by
  obtain ⟨x, hx⟩ : ∃ x, T[i]? = some x := ⟨_, List.getElem?_eq_getElem (by rw [h.l]; exact hi)⟩
  obtain ⟨b, off, e, hb, hlt, hc⟩ := h.t.2 (by omega)
  have e1 : kindT T i = x.k := by unfold kindT; rw [hx]
  have e2 : textT T i = x.s := by unfold textT; rw [hx]
  exact ⟨b, off, e, hb, hlt, by rw [e1]; exact hc _ _ (tkcs_at hx).1, by rw [e2]; have := hc _ _ (tkcs_at hx).2; rwa [← Nat.add_assoc] at this⟩
theorem RdS.cells (h : RdS R A n c T s W) : (W.cell? ⟨R, 0, none⟩ = some (.slice A n c) ∧ W.cell? ⟨R, 1, none⟩ = some (.int .i64 s.i) ∧ W.cell? ⟨R, 2, none⟩ = some (.int .i64 s.code)) ∧ W.frozen? ⟨R, 1, none⟩ = false ∧ W.frozen? ⟨R, 2, none⟩ = false ∧ R < W.heap.size :=
  ⟨⟨cell_at (j := 0) h.x rfl, cell_at (j := 1) h.x rfl, cell_at (j := 2) h.x rfl⟩, free_at (j := 1) h.x, free_at (j := 2) h.x, lt_of_block h.x⟩
end
/-- A call that reads: what it returns, where the reader stands then; nothing else that was there turns. -/
def RtS (R : Nat) (A : Option Addr) (n c : Nat) (T : List Tk) (v : Value) (s : Rs) (w : World) (e : Ending) (w' : World) : Prop := e = .returned v ∧ RdS R A n c T s w' ∧ w.grownBy w' (some R)
/-- The program's reader. -/
structure RdI (R : Nat) (A : Option Addr) (n c : Nat) (T : List Tk) (o : Int) (s : Rs) (W : World) : Prop where
  x : W.heap[R]? = some (.cells #[.slice A n c, .int .i64 s.i, .int .i64 o, .int .i64 s.code] 74 (0, 0))
  t : RdQ W (fun b => b < R) 2 A n (tkcs T)
  l : T.length = n
  i : s.i ≤ T.length
section
variable {R n c : Nat} {A : Option Addr} {T : List Tk} {o : Int} {s : Rs} {W W' : World}
theorem RdI.at_ (h : RdI R A n c T o s W) {i : Nat} (hi : i ≤ T.length) : RdI R A n c T o ⟨i, s.code⟩ (W.setCell ⟨R, 1, none⟩ (.int .i64 i)) := ⟨heap_set_selfG h.x _, h.t.set_ (fun hb => Nat.lt_irrefl _ hb) _, h.l, hi⟩
theorem RdI.opn (h : RdI R A n c T o s W) (v : Int) : RdI R A n c T v s (W.setCell ⟨R, 2, none⟩ (.int .i64 v)) := ⟨heap_set_selfG h.x _, h.t.set_ (fun hb => Nat.lt_irrefl _ hb) _, h.l, h.i⟩
theorem RdI.code (h : RdI R A n c T o s W) (v : Int) : RdI R A n c T o ⟨s.i, v⟩ (W.setCell ⟨R, 3, none⟩ (.int .i64 v)) := ⟨heap_set_selfG h.x _, h.t.set_ (fun hb => Nat.lt_irrefl _ hb) _, h.l, h.i⟩
theorem RdI.atv (h : RdI R A n c T o s W) {i : Nat} {v : Int} (hi : i ≤ T.length) (hv : v = i) : RdI R A n c T o ⟨i, s.code⟩ (W.setCell ⟨R, 1, none⟩ (.int .i64 v)) := by rw [hv]; exact h.at_ hi
theorem RdI.drewN (h : RdI R A n c T o s W) (k : Nat) : RdI R A n c T o s (W.drewN k) := ⟨h.x, h.t, h.l, h.i⟩
theorem RdI.below (h : RdI R A n c T o s W) (hb : Below W.heap.size W W') : RdI R A n c T o s W' := ⟨(hb.block _ (lt_of_block h.x)).trans h.x, h.t.below hb, h.l, h.i⟩
theorem RdI.own {row : Option Nat} (h : RdI R A n c T o s W) (hg : W.grownBy W' row) (hr : ∀ k, row = some k → R < k) : RdI R A n c T o s W' :=
  ⟨(hg.block _ (lt_of_block h.x) (fun e => Nat.lt_irrefl _ (hr R e.symm))).trans h.x, rdq_own h.t hg (fun k hk hb => by have := hr k hk; omega), h.l, h.i⟩
theorem RdI.tok (h : RdI R A n c T o s W) {i : Nat} (hi : i < n) : ∃ b off, A = some ⟨b, off, none⟩ ∧ b < R ∧ b < W.heap.size ∧ W.cell? ⟨b, off + i * 2, none⟩ = some (.int .i64 (kindT T i)) ∧ W.cell? ⟨b, off + i * 2 + 1, none⟩ = some (.string (textT T i)) := by
  obtain ⟨x, hx⟩ : ∃ x, T[i]? = some x := ⟨_, List.getElem?_eq_getElem (by rw [h.l]; exact hi)⟩
  obtain ⟨b, off, e, hb, hlt, hc⟩ := h.t.2 (by omega)
  have e1 : kindT T i = x.k := by unfold kindT; rw [hx]
  have e2 : textT T i = x.s := by unfold textT; rw [hx]
  exact ⟨b, off, e, hb, hlt, by rw [e1]; exact hc _ _ (tkcs_at hx).1, by rw [e2]; have := hc _ _ (tkcs_at hx).2; rwa [← Nat.add_assoc] at this⟩
theorem RdI.cells (h : RdI R A n c T o s W) : (W.cell? ⟨R, 0, none⟩ = some (.slice A n c) ∧ W.cell? ⟨R, 1, none⟩ = some (.int .i64 s.i) ∧ W.cell? ⟨R, 2, none⟩ = some (.int .i64 o) ∧ W.cell? ⟨R, 3, none⟩ = some (.int .i64 s.code)) ∧ (W.frozen? ⟨R, 1, none⟩ = false ∧ W.frozen? ⟨R, 2, none⟩ = false ∧ W.frozen? ⟨R, 3, none⟩ = false) ∧ R < W.heap.size :=
  ⟨⟨cell_at (j := 0) h.x rfl, cell_at (j := 1) h.x rfl, cell_at (j := 2) h.x rfl, cell_at (j := 3) h.x rfl⟩, ⟨free_at (j := 1) h.x, free_at (j := 2) h.x, free_at (j := 3) h.x⟩, lt_of_block h.x⟩
end
def RtI (R : Nat) (A : Option Addr) (n c : Nat) (T : List Tk) (o : Int) (v : Value) (s : Rs) (w : World) (e : Ending) (w' : World) : Prop := e = .returned v ∧ RdI R A n c T o s w' ∧ w.grownBy w' (some R)
end Go.Proofs.YthkbckkghnbonaaGreatDoor
namespace Go.Proofs.YthkbckkghnbonaaGreatDoor
open Go.RowKit
set_option linter.unusedVariables false
theorem kindT_end {T : List Tk} {i : Nat} (h : T.length ≤ i) : kindT T i = 0 := by unfold kindT; rw [List.getElem?_eq_none h]
theorem gr_drewN {a w : World} {row : Option Nat} (h : a.grownBy w row) (n : Nat) : a.grownBy (w.drewN n) row := ⟨h.os, h.tape, h.output, h.size, h.block⟩
theorem failR_0 {s : Rs} (h : s.code = 0) (c : Int) : failR s c = ⟨s.i, c⟩ := if_pos h
theorem failR_1 {s : Rs} (h : s.code ≠ 0) (c : Int) : failR s c = s := if_neg h
theorem takeR_yes {T : List Tk} {s : Rs} {k c : Int} (h0 : s.code = 0) (h1 : kindT T s.i = k) : takeR T s k c = (⟨s.i + 1, 0⟩, textT T s.i) := if_pos ⟨h0, h1⟩
theorem takeR_no {T : List Tk} {s : Rs} {k c : Int} (h : ¬ (s.code = 0 ∧ kindT T s.i = k)) : takeR T s k c = (failR s c, ⟨#[]⟩) := if_neg h
set_option maxRecDepth 100000 in
theorem l18Fail_any (R n c : Nat) (A : Option Addr) (T : List Tk) (s : Rs) (code : Int) (w : World) (h : RdS R A n c T s w) : Calls Tryz.prog 130 #[.pointer (some ⟨R, 0, none⟩), .int .i64 code] w (RtS R A n c T (.tuple #[]) (failR s code) w) := by
  obtain ⟨⟨k0, k1, k2⟩, f1, f2, lR⟩ := h.cells
  have H := Lib.hid h
  by_cases h0 : s.code = 0
  · have HE := Lib.hid (failR_0 h0 code)
    rw [h0] at k2
    clear h h0
    go_enter Tryz.func130, Tryz.ntmps130
    go_wp2_with fail
    go_end0
    exact ⟨rfl, by rw [HE.out]; exact H.out.code code, gr_set _⟩
  · have HE := Lib.hid (failR_1 h0 code)
    have d0 : (s.code == 0) = false := beq_eq_false_iff_ne.2 h0
    have d1 : decide (s.code = 0) = false := decide_eq_false h0
    clear h h0
    go_enter Tryz.func130, Tryz.ntmps130
    go_wp2_with fail
    go_end0
    exact ⟨rfl, by rw [HE.out]; exact H.out, World.grownBy.refl _ _⟩
set_option maxRecDepth 100000 in
theorem l18Kind_any (R n c : Nat) (A : Option Addr) (T : List Tk) (s : Rs) (w : World) (h : RdS R A n c T s w) (hn : n ≤ 1048576) : Calls Tryz.prog 85 #[.pointer (some ⟨R, 0, none⟩)] w fun e w' => e = .returned (.int .i64 (kindT T s.i)) ∧ ∃ m, w' = w.drewN m := by
  obtain ⟨⟨k0, k1, k2⟩, f1, f2, lR⟩ := h.cells
  by_cases hlt : s.i < n
  · obtain ⟨b, off, rfl, hbR, hbl, q0, q1⟩ := h.tok hlt
    have hd : decide ((n : Int) ≤ (s.i : Int)) = false := decide_eq_false (by omega)
    clear h
    go_enter Tryz.func85, Tryz.ntmps85
    go_wp2_with fail
    go_quiet (fail)
    go_wp2_with fail
    go_quiet (fail)
    go_wp2_with fail
    go_ret
    exact ⟨rfl, drewN2 _ _ _⟩
  · have HK : Hid (kindT T s.i = 0) := kindT_end (by have := h.l; omega)
    have hd : decide ((n : Int) ≤ (s.i : Int)) = true := decide_eq_true (by omega)
    clear h
    go_enter Tryz.func85, Tryz.ntmps85
    go_wp2_with fail
    go_quiet (fail)
    go_wp2_with fail
    go_ret
    exact ⟨by rw [HK.out]; rfl, _, rfl⟩
set_option maxRecDepth 100000 in
set_option maxHeartbeats 1000000 in
theorem l18Take_any (R n c : Nat) (A : Option Addr) (T : List Tk) (s : Rs) (k code : Int) (w : World) (h : RdS R A n c T s w) (hn : n ≤ 1048576) (hk : k ≠ 0) : Calls Tryz.prog 131 #[.pointer (some ⟨R, 0, none⟩), .int .i64 k, .int .i64 code] w (RtS R A n c T (.string (takeR T s k code).2) (takeR T s k code).1 w) := by
  obtain ⟨⟨k0, k1, k2⟩, f1, f2, lR⟩ := h.cells
  have H := Lib.hid h
  by_cases h0 : s.code = 0
  · rw [h0] at k2
    by_cases h1 : kindT T s.i = k
    · have hlt : s.i < T.length := kindT_lt (by rw [h1]; exact hk)
      obtain ⟨b, off, rfl, hbR, hbl, q0, q1⟩ := h.tok (i := s.i) (by rw [← h.l]; exact hlt)
      have HE := Lib.hid (takeR_yes (c := code) h0 h1)
      have hz : s.i + 1 ≤ 1048577 := by have := h.l; omega
      have hsn : s.i < n := by have := h.l; omega
      have d1 : (kindT T s.i != k) = false := by simp [h1]
      have HN := Lib.hid (fun m => (h.drewN m).atv (i := s.i + 1) (v := (s.i : Int) + 1) hlt (by simp))
      rw [h0] at HN
      have hnb : b ≠ R := by omega
      obtain ⟨word, hw⟩ : ∃ word, word = textT T s.i := ⟨_, rfl⟩
      rw [← hw] at q1 HE
      clear h h0 hw
      go_enter Tryz.func131, Tryz.ntmps131
      go_wp2_with (go_at_call 85; refine (l18Kind_any R n c _ T s w H.out hn).mono ?_; rintro e w' ⟨rfl, m, rfl⟩)
      go_quiet (fail)
      go_wp2_with fail
      go_ret
      exact ⟨by rw [HE.out]; rfl, by rw [HE.out]; exact (HN.out m).drewN nq, gr_drewN ((gr_drewN (World.grownBy.refl _ _) m).andThen (gr_set _) (fun j hj => .inr hj)) nq⟩
    · have HE := Lib.hid (takeR_no (c := code) (fun (h : s.code = 0 ∧ kindT T s.i = k) => h1 h.2))
      have d1 : (kindT T s.i != k) = true := by simp [h1]
      clear h
      go_enter Tryz.func131, Tryz.ntmps131
      go_wp2_with (first | (go_at_call 85; refine (l18Kind_any R n c _ T s w H.out hn).mono ?_; rintro e w' ⟨rfl, m, rfl⟩) | (go_at_call 130; refine (l18Fail_any R n c _ T s code _ (H.out.drewN _)).mono ?_; rintro e w' ⟨rfl, hr, hg⟩))
      go_ret
      exact ⟨by rw [HE.out]; rfl, by rw [HE.out]; exact hr, (gr_drewN (World.grownBy.refl _ _) _).andThen hg (fun j hj => .inr hj)⟩
  · have HE := Lib.hid (takeR_no (c := code) (fun (h : s.code = 0 ∧ kindT T s.i = k) => h0 h.1))
    have d0 : (s.code != 0) = true := by simp [h0]
    clear h
    go_enter Tryz.func131, Tryz.ntmps131
    go_wp2_with (go_at_call 130; refine (l18Fail_any R n c _ T s code w H.out).mono ?_; rintro e w' ⟨rfl, hr, hg⟩)
    go_ret
    exact ⟨by rw [HE.out]; rfl, by rw [HE.out]; exact hr, hg⟩
end Go.Proofs.YthkbckkghnbonaaGreatDoor
namespace Go.Proofs.YthkbckkghnbonaaGreatDoor
open Go.RowKit
set_option linter.unusedVariables false
set_option maxRecDepth 100000 in
theorem fail_any (R n c : Nat) (A : Option Addr) (T : List Tk) (o : Int) (s : Rs) (code : Int) (w : World) (h : RdI R A n c T o s w) : Calls Tryz.prog 109 #[.pointer (some ⟨R, 0, none⟩), .int .i64 code] w (RtI R A n c T o (.tuple #[]) (failR s code) w) := by
  obtain ⟨⟨k0, k1, ko, k2⟩, ⟨f1, f3, f2⟩, lR⟩ := h.cells
  have H := Lib.hid h
  by_cases h0 : s.code = 0
  · have HE := Lib.hid (failR_0 h0 code)
    rw [h0] at k2
    clear h h0
    go_enter Tryz.func109, Tryz.ntmps109
    go_wp2_with fail
    go_end0
    exact ⟨rfl, by rw [HE.out]; exact H.out.code code, gr_set _⟩
  · have HE := Lib.hid (failR_1 h0 code)
    have d0 : (s.code == 0) = false := beq_eq_false_iff_ne.2 h0
    have d1 : decide (s.code = 0) = false := decide_eq_false h0
    clear h h0
    go_enter Tryz.func109, Tryz.ntmps109
    go_wp2_with fail
    go_end0
    exact ⟨rfl, by rw [HE.out]; exact H.out, World.grownBy.refl _ _⟩
set_option maxRecDepth 100000 in
theorem kind_any (R n c : Nat) (A : Option Addr) (T : List Tk) (o : Int) (s : Rs) (w : World) (h : RdI R A n c T o s w) (hn : n ≤ 1048576) : Calls Tryz.prog 108 #[.pointer (some ⟨R, 0, none⟩)] w fun e w' => e = .returned (.int .i64 (kindT T s.i)) ∧ ∃ m, w' = w.drewN m := by
  obtain ⟨⟨k0, k1, ko, k2⟩, ⟨f1, f3, f2⟩, lR⟩ := h.cells
  by_cases hlt : s.i < n
  · obtain ⟨b, off, rfl, hbR, hbl, q0, q1⟩ := h.tok hlt
    have hd : decide ((s.i : Int) < (n : Int)) = true := decide_eq_true (by omega)
    clear h
    go_enter Tryz.func108, Tryz.ntmps108
    go_wp2_with fail
    go_quiet (fail)
    go_wp2_with fail
    go_quiet (fail)
    go_wp2_with fail
    go_ret
    exact ⟨rfl, drewN2 _ _ _⟩
  · have HK : Hid (kindT T s.i = 0) := kindT_end (by have := h.l; omega)
    have hd : decide ((s.i : Int) < (n : Int)) = false := decide_eq_false (by omega)
    clear h
    go_enter Tryz.func108, Tryz.ntmps108
    go_wp2_with fail
    go_quiet (fail)
    go_wp2_with fail
    go_ret
    exact ⟨by rw [HK.out]; rfl, _, rfl⟩
set_option maxRecDepth 100000 in
set_option maxHeartbeats 1000000 in
theorem take_any (R n c : Nat) (A : Option Addr) (T : List Tk) (o : Int) (s : Rs) (k code : Int) (w : World) (h : RdI R A n c T o s w) (hn : n ≤ 1048576) (hk : k ≠ 0) : Calls Tryz.prog 111 #[.pointer (some ⟨R, 0, none⟩), .int .i64 k, .int .i64 code] w (RtI R A n c T o (.string (takeR T s k code).2) (takeR T s k code).1 w) := by
  obtain ⟨⟨k0, k1, ko, k2⟩, ⟨f1, f3, f2⟩, lR⟩ := h.cells
  have H := Lib.hid h
  by_cases h0 : s.code = 0
  · rw [h0] at k2
    by_cases h1 : kindT T s.i = k
    · have hlt : s.i < T.length := kindT_lt (by rw [h1]; exact hk)
      obtain ⟨b, off, rfl, hbR, hbl, q0, q1⟩ := h.tok (i := s.i) (by rw [← h.l]; exact hlt)
      have HE := Lib.hid (takeR_yes (c := code) h0 h1)
      have hz : s.i + 1 ≤ 1048577 := by have := h.l; omega
      have hsn : s.i < n := by have := h.l; omega
      have d1 : (kindT T s.i != k) = false := by simp [h1]
      have HN := Lib.hid (fun m => (h.drewN m).atv (i := s.i + 1) (v := (s.i : Int) + 1) hlt (by simp))
      rw [h0] at HN
      have hnb : b ≠ R := by omega
      obtain ⟨word, hw⟩ : ∃ word, word = textT T s.i := ⟨_, rfl⟩
      rw [← hw] at q1 HE
      clear h h0 hw
      go_enter Tryz.func111, Tryz.ntmps111
      go_wp2_with (go_at_call 108; refine (kind_any R n c _ T o s w H.out hn).mono ?_; rintro e w' ⟨rfl, m, rfl⟩)
      go_quiet (fail)
      go_wp2_with fail
      go_ret
      exact ⟨by rw [HE.out]; rfl, by rw [HE.out]; exact (HN.out m).drewN nq, gr_drewN ((gr_drewN (World.grownBy.refl _ _) m).andThen (gr_set _) (fun j hj => .inr hj)) nq⟩
    · have HE := Lib.hid (takeR_no (c := code) (fun (h : s.code = 0 ∧ kindT T s.i = k) => h1 h.2))
      have d1 : (kindT T s.i != k) = true := by simp [h1]
      clear h
      go_enter Tryz.func111, Tryz.ntmps111
      go_wp2_with (first | (go_at_call 108; refine (kind_any R n c _ T o s w H.out hn).mono ?_; rintro e w' ⟨rfl, m, rfl⟩) | (go_at_call 109; refine (fail_any R n c _ T o s code _ (H.out.drewN _)).mono ?_; rintro e w' ⟨rfl, hr, hg⟩))
      go_ret
      exact ⟨by rw [HE.out]; rfl, by rw [HE.out]; exact hr, (gr_drewN (World.grownBy.refl _ _) _).andThen hg (fun j hj => .inr hj)⟩
  · have HE := Lib.hid ((takeR_no (c := code) (fun (h : s.code = 0 ∧ kindT T s.i = k) => h0 h.1)).trans (by rw [failR_1 h0]))
    have d0 : (s.code != 0) = true := by simp [h0]
    clear h
    go_enter Tryz.func111, Tryz.ntmps111
    go_wp2_with fail
    go_ret
    exact ⟨by rw [HE.out]; rfl, by rw [HE.out]; exact H.out, World.grownBy.refl _ _⟩
end Go.Proofs.YthkbckkghnbonaaGreatDoor
namespace Go.Proofs.YthkbckkghnbonaaGreatDoor
open Go.RowKit
set_option linter.unusedVariables false
/-- What a number read from a word is: it is of 1 .. 9 only where the word is its digit. -/
def NumOf (s : ByteArray) (n : Int) (ok : Bool) : Prop := (ok = true → 1 ≤ n → n ≤ 9 → s = dig n) ∧ (∀ x : Int, 1 ≤ x → x ≤ 9 → s = dig x → ok = true ∧ n = x)
theorem small9 {x : Int} (h0 : 1 ≤ x) (h1 : x ≤ 9) : x = 1 ∨ x = 2 ∨ x = 3 ∨ x = 4 ∨ x = 5 ∨ x = 6 ∨ x = 7 ∨ x = 8 ∨ x = 9 := by omega
theorem numOf_no {s : ByteArray} (h : ∀ x : Int, 1 ≤ x → x ≤ 9 → s ≠ dig x) (n : Int) : NumOf s n false := ⟨fun h => by simp at h, fun x h1 h2 e => absurd e (h x h1 h2)⟩
theorem numW_dig9 {n : Int} (h : 1 ≤ n ∧ n ≤ 9) : numW (dig n) = some n := by
  rcases small9 h.1 h.2 with rfl | rfl | rfl | rfl | rfl | rfl | rfl | rfl | rfl <;> rfl
theorem numW_some {s : ByteArray} {x : Int} (h : numW s = some x) : 1 ≤ x ∧ x ≤ 9 ∧ s = dig x := by
  unfold numW at h
  have h1 := List.find?_some h
  have h2 := List.mem_of_find?_eq_some h
  simp only [List.mem_cons, List.not_mem_nil, or_false] at h2
  refine ⟨by omega, by omega, ?_⟩
  have e : s.data.toList = (dig x).data.toList := by simpa using h1
  have e2 : s.data = (dig x).data := by cases hs : s.data; cases hd : (dig x).data; rw [hs, hd] at e; simp at e; rw [e]
  cases s
  cases hd : dig x
  rw [hd] at e2
  simp only at e2
  rw [e2]
theorem numOf_yes {s : ByteArray} {n : Int} (h : NumOf s n true) (h1 : 1 ≤ n) (h9 : n ≤ 9) : numW s = some n := by rw [h.1 rfl h1 h9]; exact numW_dig9 ⟨h1, h9⟩
theorem numOf_none {s : ByteArray} {n : Int} {ok : Bool} (h : NumOf s n ok) (hn : ¬ (ok = true ∧ 1 ≤ n ∧ n ≤ 9)) : numW s = none := by
  cases e : numW s with
  | none => rfl
  | some x =>
    obtain ⟨h1, h2, h3⟩ := numW_some e
    obtain ⟨h4, h5⟩ := h.2 x h1 h2 h3
    exact absurd ⟨h4, by omega, by omega⟩ hn
theorem atoi_dig {x : Int} (h1 : 1 ≤ x) (h2 : x ≤ 9) : Lib.atoi (dig x).data.toList = some x := by
  rcases small9 h1 h2 with rfl | rfl | rfl | rfl | rfl | rfl | rfl | rfl | rfl <;> decide
theorem itoa_dig {x : Int} (h1 : 1 ≤ x) (h2 : x ≤ 9) : (⟨(Lib.itoa x).toArray⟩ : ByteArray) = dig x := by
  rcases small9 h1 h2 with rfl | rfl | rfl | rfl | rfl | rfl | rfl | rfl | rfl <;> kernel_rfl
theorem numOf_bad {s : ByteArray} (h : Lib.atoi s.data.toList = none) (n : Int) : NumOf s n false := numOf_no (fun x h1 h2 e => by rw [e, atoi_dig h1 h2] at h; cases h) n
theorem numOf_out {s : ByteArray} {m : Int} (h : Lib.atoi s.data.toList = some m) (hm : m < 0 ∨ 999999 < m ∨ (⟨(Lib.itoa m).toArray⟩ : ByteArray) ≠ s) (n : Int) : NumOf s n false := numOf_no (fun x h1 h2 e => by
  rw [e, atoi_dig h1 h2] at h
  injection h with h
  subst h
  rcases hm with hm | hm | hm
  · omega
  · omega
  · exact hm ((itoa_dig h1 h2).trans e.symm)) n
theorem numOf_in {s : ByteArray} {m : Int} (h : Lib.atoi s.data.toList = some m) (hm : (⟨(Lib.itoa m).toArray⟩ : ByteArray) = s) : NumOf s m true :=
  ⟨fun _ h1 h2 => hm.symm.trans (itoa_dig h1 h2), fun x h1 h2 e => ⟨rfl, by rw [e, atoi_dig h1 h2] at h; injection h with h; exact h.symm⟩⟩
theorem ba_inj {a b : ByteArray} (h : a.toList = b.toList) : a = b := by
  rw [Lib.toList_data, Lib.toList_data] at h
  obtain ⟨⟨l⟩⟩ := a
  obtain ⟨⟨m⟩⟩ := b
  simp at h
  rw [h]
theorem below_growN (w : World) (k : Nat) (os : Array Obj) : Below w.heap.size w (Sort.grow (w.drewN k) os) := by
  refine ⟨rfl, rfl, rfl, ?_, fun i hi => ?_⟩
  · show w.heap.size ≤ (w.heap ++ os).size
    simp
  · show (w.heap ++ os)[i]? = w.heap[i]?
    rw [Array.getElem?_append_left hi]
def RetNum (s : ByteArray) (w : World) (e : Ending) (w' : World) : Prop := ∃ (n : Int) (ok : Bool), e = .returned (.tuple #[.int .i64 n, .bool ok]) ∧ NumOf s n ok ∧ Below w.heap.size w w' ∧ w.heap.size ≤ w'.heap.size
theorem Atoi_ok (s : ByteArray) (n : Int) (hl : s.size ≤ 18) (h : Lib.atoi s.data.toList = some n) (w : World) : Calls Tryz.prog 191 #[.string s] w fun e w' => e = .returned (.tuple #[.int .i64 n, .nilIface]) ∧ Below w.heap.size w w' := by
  refine (Tryz.strconv_Atoi s n hl h w).mono ?_
  rintro e w' ⟨rfl, t, rfl⟩
  exact ⟨rfl, Joins.below_bytesWorld _ _ _ _ (Nat.le_refl _)⟩
theorem Itoa_ok (n : Int) (h0 : 0 ≤ n) (h1 : n ≤ 999999) (w : World) (h : Lib.TabIs Tryz.prog w "internal/strconv.uint64pow10" .u64 Lib.pow10Tab) : Calls Tryz.prog 166 #[.int .i64 n] w fun e w' => e = .returned (.string ⟨(Lib.itoa n).toArray⟩) ∧ Below w.heap.size w w' := by
  refine (Tryz.strconv_Itoa n (by omega) (by omega) w h).mono ?_
  rintro e w' ⟨rfl, k, os, rfl⟩
  exact ⟨rfl, below_growN w k os⟩
set_option maxRecDepth 100000 in
set_option maxHeartbeats 4000000 in
theorem parse_any (s : ByteArray) (B : Nat) (w : World) (h : LVb B w) (hs : s.size ≤ 8) : Calls Tryz.prog 182 #[.string s, .int .i64 0, .int .i64 999999] w (RetNum s w) := by
  have h18 : s.size ≤ 18 := by omega
  cases ha : Lib.atoi s.data.toList with
  | none =>
    obtain ⟨tp, p, hv⟩ := h.es
    have HF := Lib.hid (numOf_bad ha 0)
    clear h
    go_enter Tryz.func182, Tryz.ntmps182
    go_wp2_with (go_at_call 191; refine (Tryz.strconv_Atoi_err_var s h18 ha tp p _ hv).mono ?_; rintro e w1 ⟨N, rfl, hN, _, hb⟩)
    go_ret2
    exact ⟨0, false, rfl, HF.out, hb, hb.size⟩
  | some m =>
    by_cases hneg : m < 0
    · have HF := Lib.hid (numOf_out ha (.inl hneg) 0)
      clear h
      go_enter Tryz.func182, Tryz.ntmps182
      go_wp2_with (go_at_call 191; refine (Atoi_ok s m h18 ha _).mono ?_; rintro e w1 ⟨rfl, b1⟩)
      go_ret2
      exact ⟨0, false, rfl, HF.out, b1, b1.size⟩
    by_cases hbig : 999999 < m
    · have HF := Lib.hid (numOf_out ha (.inr (.inl hbig)) 0)
      clear h
      go_enter Tryz.func182, Tryz.ntmps182
      go_wp2_with (go_at_call 191; refine (Atoi_ok s m h18 ha _).mono ?_; rintro e w1 ⟨rfl, b1⟩)
      go_ret2
      exact ⟨0, false, rfl, HF.out, b1, b1.size⟩
    obtain ⟨q, hq⟩ : ∃ q : ByteArray, q = ⟨(Lib.itoa m).toArray⟩ := ⟨_, rfl⟩
    have HQ := Lib.hid hq
    by_cases he : q = s
    · have HF := Lib.hid (numOf_in ha (hq.symm.trans he))
      have he2 : (q.toList == s.toList) = true := by simp [he]
      have he3 : (q.toList != s.toList) = false := by simp [he]
      clear he hq
      go_enter Tryz.func182, Tryz.ntmps182
      go_wp2_with (first | (go_at_call 191; refine (Atoi_ok s m h18 ha _).mono ?_; rintro e w1 ⟨rfl, b1⟩) | (go_at_call 166; refine (Itoa_ok m (by omega) (by omega) _ (h.below (b1.mono h.le)).tb).mono ?_; rintro e w2 ⟨rfl, b2⟩; rw [← HQ.out]))
      go_ret2
      exact ⟨m, true, rfl, HF.out, b1.trans (b2.mono b1.size), Nat.le_trans b1.size b2.size⟩
    · have HF := Lib.hid (numOf_out ha (.inr (.inr (fun e => he (hq.trans e)))) 0)
      have he1 : q.toList ≠ s.toList := fun e => he (ba_inj e)
      have he2 : (q.toList == s.toList) = false := by simp [he1]
      have he3 : (q.toList != s.toList) = true := by simp [he1]
      clear he hq
      go_enter Tryz.func182, Tryz.ntmps182
      go_wp2_with (first | (go_at_call 191; refine (Atoi_ok s m h18 ha _).mono ?_; rintro e w1 ⟨rfl, b1⟩) | (go_at_call 166; refine (Itoa_ok m (by omega) (by omega) _ (h.below (b1.mono h.le)).tb).mono ?_; rintro e w2 ⟨rfl, b2⟩; rw [← HQ.out]))
      go_ret2
      exact ⟨0, false, rfl, HF.out, b1.trans (b2.mono b1.size), Nat.le_trans b1.size b2.size⟩
set_option maxRecDepth 100000 in
set_option maxHeartbeats 1000000 in
theorem ParseNumber_impl (s : ByteArray) (B : Nat) (w : World) (h : LVb B w) (hs : s.size ≤ 8) : Calls Tryz.prog 167 #[.string s] w (RetNum s w) := by
  have H := Lib.hid h
  clear h
  go_enter Tryz.func167, Tryz.ntmps167
  go_wp2_with (go_at_call 182; refine (parse_any s B _ H.out hs).mono ?_; rintro e w1 ⟨n, ok, rfl, hn, hb, hz⟩)
  go_ret2
  exact ⟨n, ok, rfl, hn, hb, hz⟩
end Go.Proofs.YthkbckkghnbonaaGreatDoor
namespace Go.Proofs.YthkbckkghnbonaaGreatDoor
open Go.RowKit
set_option linter.unusedVariables false
theorem numR_yes {T : List Tk} {s : Rs} {x : Int} (h0 : s.code = 0) (h1 : kindT T s.i = 1) (h2 : numW (textT T s.i) = some x) : numR T s = (⟨s.i + 1, 0⟩, x) := by
  unfold numR
  rw [if_pos ⟨h0, h1⟩, h2]
theorem numR_bad {T : List Tk} {s : Rs} (h2 : numW (textT T s.i) = none) : numR T s = (failR s 6, 0) := by
  unfold numR
  split
  · rw [h2]
  · rfl
theorem numR_no {T : List Tk} {s : Rs} (h : ¬ (s.code = 0 ∧ kindT T s.i = 1)) : numR T s = (failR s 6, 0) := if_neg h
theorem inB_no {m : Int} (h : ¬ (1 ≤ m ∧ m ≤ 9)) : inB m 1 9 = false := by
  cases e : inB m 1 9
  · rfl
  · exact absurd (inB_iff.1 e) h
theorem word_le8 {T : List Tk} (hw : ∀ t ∈ T, wellTk t) (i : Nat) : (textT T i).size ≤ 8 := by
  unfold textT
  cases e : T[i]? with
  | none => exact Nat.zero_le _
  | some t =>
    rcases hw t (List.mem_of_getElem? e) with ⟨_, h⟩ | ⟨_, h⟩
    · exact (wordOk_size h).2
    · show t.s.size ≤ 8
      rw [h]
      exact Nat.zero_le _
theorem below_drewS1 {B : Nat} {a w : World} (h : Below B a w) : Below B a w.drew := ⟨h.os, h.tape, h.output, h.size, h.block⟩
set_option maxRecDepth 100000 in
set_option maxHeartbeats 4000000 in
theorem number_any (B R n c : Nat) (A : Option Addr) (T : List Tk) (o : Int) (s : Rs) (w : World) (h : RdI R A n c T o s w) (hv : LVb B w) (hBR : B ≤ R) (hn : n ≤ 1048576) (hT : ∀ t ∈ T, wellTk t) :
    Calls Tryz.prog 137 #[.pointer (some ⟨R, 0, none⟩)] w (RtI R A n c T o (.int .i64 (numR T s).2) (numR T s).1 w) := by
  obtain ⟨⟨k0, k1, ko, k2⟩, ⟨f1, f3, f2⟩, lR⟩ := h.cells
  have H := Lib.hid h
  have HV := Lib.hid hv
  clear hv
  by_cases h0 : s.code = 0
  · by_cases h1 : kindT T s.i = 1
    · have hlt : s.i < T.length := kindT_lt (by rw [h1]; decide)
      have hsn : s.i < n := by have := h.l; omega
      obtain ⟨b, off, rfl, hbR, hbl, q0, q1⟩ := h.tok hsn
      have hz8 := word_le8 hT s.i
      have HY := Lib.hid (fun x => numR_yes (T := T) (s := s) (x := x) h0 h1)
      have HB := Lib.hid (numR_bad (T := T) (s := s))
      have HK := Lib.hid h1
      have HFE := Lib.hid (failR_0 h0 6)
      have H0 := Lib.hid h0
      rw [h0] at k2
      obtain ⟨word, hw⟩ : ∃ word, word = textT T s.i := ⟨_, rfl⟩
      rw [← hw] at q1 hz8 HY HB
      have hnb : b ≠ R := by omega
      rw [h1] at q0
      clear h h0 hw
      go_enter Tryz.func137, Tryz.ntmps137
      go_wp2_with (go_at_call 108; refine (kind_any R n c _ T o s w H.out hn).mono ?_; rintro e w' ⟨rfl, m, rfl⟩; rw [HK.out])
      obtain ⟨wm, hwm⟩ : ∃ wm, wm = w.drewN m := ⟨_, rfl⟩
      have c0 : wm.cell? ⟨R, 0, none⟩ = some (.slice (some ⟨b, off, none⟩) n c) := by rw [hwm]; exact k0
      have c1 : wm.cell? ⟨R, 1, none⟩ = some (.int .i64 s.i) := by rw [hwm]; exact k1
      have c2 : wm.cell? ⟨b, off + s.i * 2 + 1, none⟩ = some (.string word) := by rw [hwm]; exact q1
      have b0 : Below w.heap.size w wm := by rw [hwm]; exact below_drewN (Below.refl _ _) m
      have B0 := Lib.hid b0
      have b0s := b0.size
      rw [← hwm]
      clear hwm b0
      go_region_held3 (fun W => W.cell? ⟨R, 0, none⟩ = some (.slice (some ⟨b, off, none⟩) n c) ∧ W.cell? ⟨R, 1, none⟩ = some (.int .i64 s.i) ∧ W.cell? ⟨b, off + s.i * 2 + 1, none⟩ = some (.string word)) (go_keep)
        ((go_at_call 167; (with_reducible refine (ParseNumber_impl word B _ ?_ hz8).mono ?_); exact HV.out.below (below_drewS1 (B0.out.mono HV.out.le)); rintro e w1 ⟨x, ok, rfl, hnum, hb9, hs0⟩; have hb0 : Below wm.heap.size wm w1 := ⟨hb9.os, hb9.tape, hb9.output, hb9.size, hb9.block⟩; have z0 : w1.cell? ⟨R, 0, none⟩ = some (.slice (some ⟨b, off, none⟩) n c) := (hb0.cell (p := ⟨R, 0, none⟩) (by show R < _; omega)).trans c0; have z1 : w1.cell? ⟨R, 1, none⟩ = some (.int .i64 s.i) := (hb0.cell (p := ⟨R, 1, none⟩) (by show R < _; omega)).trans c1; have z2 : w1.cell? ⟨b, off + s.i * 2 + 1, none⟩ = some (.string word) := (hb0.cell (p := ⟨b, off + s.i * 2 + 1, none⟩) (by show b < _; omega)).trans c2))
      have hb1 : Below w.heap.size w w1 := B0.out.trans (hb0.mono b0s)
      have hs1 := hb1.size
      have H1 := Lib.hid (H.out.below hb1)
      have HG := Lib.hid (only_of_below hb1 (some R))
      have NUM := Lib.hid hnum
      clear k0 k1 ko k2 f1 f2 f3 lR hb1 hs1 hnum q0 q1 c0 c1 c2 hb0 hs0 b0s hb9 z0 z1 z2
      obtain ⟨⟨k0, k1, ko, k2⟩, ⟨f1, f3, f2⟩, lR⟩ := H1.out.cells
      rw [H0.out] at k2
      by_cases hg : ok = true ∧ 1 ≤ x ∧ x ≤ 9
      · obtain ⟨rfl, hx1, hx9⟩ := hg
        have HE := Lib.hid (HY.out x (numOf_yes NUM.out hx1 hx9))
        have hin : inB x 1 9 = true := inB_t hx1 hx9
        have HN := Lib.hid (H1.out.atv (i := s.i + 1) (v := (s.i : Int) + 1) hlt (by simp))
        rw [H0.out] at HN
        have hz : s.i + 1 ≤ 1048577 := by omega
        go_wp2_with (go_at_call 44; refine (in_any _ _ _ _).mono ?_; rintro e w' ⟨rfl, rfl⟩; rw [hin])
        go_ret
        exact ⟨by rw [HE.out]; rfl, by rw [HE.out]; exact HN.out, HG.out.andThen (gr_set _) (fun j hj => .inr hj)⟩
      · have HE := Lib.hid (HB.out (numOf_none NUM.out hg))
        cases ok
        · go_wp2_with (go_at_call 109; refine (fail_any R n c _ T o s 6 _ H1.out).mono ?_; rintro e w' ⟨rfl, hr, hg⟩)
          go_ret
          exact ⟨by rw [HE.out]; rfl, by rw [HE.out]; exact hr, HG.out.andThen (by assumption) (fun j hj => .inr hj)⟩
        · have hin : inB x 1 9 = false := inB_no (fun h => hg ⟨rfl, h⟩)
          clear hg
          go_wp2_with (first | (go_at_call 44; refine (in_any _ _ _ _).mono ?_; rintro e w' ⟨rfl, rfl⟩; rw [hin]) | (go_at_call 109; refine (fail_any R n c _ T o s 6 _ H1.out).mono ?_; rintro e w' ⟨rfl, hr, hg⟩))
          go_ret
          exact ⟨by rw [HE.out]; rfl, by rw [HE.out]; exact hr, HG.out.andThen hg (fun j hj => .inr hj)⟩
    · have HE := Lib.hid (numR_no (T := T) (s := s) (fun h => h1 h.2))
      have d1 : (kindT T s.i == 1) = false := by simp [h1]
      have d2 : decide (kindT T s.i = 1) = false := decide_eq_false h1
      rw [h0] at k2
      clear h h0 h1
      go_enter Tryz.func137, Tryz.ntmps137
      go_wp2_with (first | (go_at_call 108; refine (kind_any R n c _ T o s w H.out hn).mono ?_; rintro e w' ⟨rfl, m, rfl⟩) | (go_at_call 109; refine (fail_any R n c _ T o s 6 _ (H.out.drewN _)).mono ?_; rintro e w' ⟨rfl, hr, hg⟩))
      go_ret
      exact ⟨by rw [HE.out]; rfl, by rw [HE.out]; exact hr, (gr_drewN (World.grownBy.refl _ _) _).andThen hg (fun j hj => .inr hj)⟩
  · have HE := Lib.hid ((numR_no (T := T) (s := s) (fun h => h0 h.1)).trans (by rw [failR_1 h0]))
    have d0 : (s.code != 0) = true := by simp [h0]
    clear h h0
    go_enter Tryz.func137, Tryz.ntmps137
    go_wp2_with fail
    go_ret
    exact ⟨by rw [HE.out]; rfl, by rw [HE.out]; exact H.out, World.grownBy.refl _ _⟩
end Go.Proofs.YthkbckkghnbonaaGreatDoor
namespace Go.Proofs.YthkbckkghnbonaaGreatDoor
open Go.RowKit
set_option linter.unusedVariables false
set_option maxRecDepth 100000 in
set_option maxHeartbeats 2000000 in
theorem FormatInt_some (k : Nat) (w : World) (h0 : 1 ≤ k) (h1 : k ≤ 999999) : Calls Tryz.prog 124 #[.int .i64 k] w fun e w' => ∃ t, e = .returned (.string t) ∧ Below w.heap.size w w' ∧ w.heap.size ≤ w'.heap.size := by
  have hd : decide (k = 0) = false := by simp; omega
  have hd2 : ((k : Int) == 0) = false := by simp; omega
  have hd3 : decide ((k : Int) = 0) = false := by simp; omega
  have hd4 : decide ((k : Int) < 0) = false := by simp
  go_enter Tryz.func124, Tryz.ntmps124
  go_wp2_with fail
  go_loopw [0, 4] (fun kk o wr => ∃ (j : Nat) (acc : ByteArray), kk = .int .i64 j ∧ j + acc.size ≤ 999999 ∧ o = .string acc ∧ Below w.heap.size w wr) (fun kk _ _ => (intOf kk).toNat)
  case atStart => exact ⟨k, ⟨#[]⟩, rfl, by show k + 0 ≤ _; omega, rfl, Below.refl _ _⟩
  case round =>
    obtain ⟨j, acc, rfl, hp, rfl, hb⟩ := hrel
    have hbs := hb.size
    by_cases hlt : 0 < j
    · obtain ⟨b, hbb⟩ : ∃ b, b = (48 + j % 10).toUInt8 := ⟨_, rfl⟩
      have hb8 := u8_of j
      rw [← hbb] at hb8
      have kc : ∀ W : World, (convert 22 9 (.slice (some ⟨W.heap.size, 0, none⟩) 1 1)).run Tryz.prog (W.alloc (.cells #[.int .u8 (48 + (j : Int) % 10)] 5)) = .ok (.string ⟨#[b]⟩) (W.alloc (.cells #[.int .u8 (48 + (j : Int) % 10)] 5)) := fun W => by
        rw [← hb8]
        exact conv1 W b
      have e1 : ∀ w : World, (Op.stringOp .add ⟨#[b]⟩ acc).run Tryz.prog w = .ok (.string (⟨#[b]⟩ ++ acc)) w := fun w => run_string_add_sum w _ _ (by show 1 + acc.size ≤ _; omega)
      clear hbb hb8
      have g0 : decide (j = 0) = false := by simp; omega
      have g1 : ((j : Int) != 0) = true := by simp; omega
      have g2 : decide ((j : Int) % 10 < 0) = false := by simp; omega
      go_wp2_with fail
      go_roundw
      case rel => exact ⟨j / 10, ⟨#[b]⟩ ++ acc, by simp, by rw [ByteArray.size_append]; show j / 10 + (1 + acc.size) ≤ _; omega, rfl, (by repeat (first | exact Below.refl _ _ | assumption | (refine Below.trans ?_ (Below.mono (by assumption) (by first | omega | (simp; done) | (simp; omega)))) | (with_reducible refine Below.drew ?_) | (with_reducible refine Below.alloc ?_ (by first | omega | (simp; done) | (simp; omega)) _) | (with_reducible refine Below.setCell ?_ (by first | omega | (simp; done) | (simp; omega)) _)))⟩
      case measure => simp [intOf]; omega
    · obtain rfl : j = 0 := by omega
      go_wp2_with fail
      go_ret
      exact ⟨acc, rfl, (by repeat (first | exact Below.refl _ _ | assumption | (refine Below.trans ?_ (Below.mono (by assumption) (by first | omega | (simp; done) | (simp; omega)))) | (with_reducible refine Below.drew ?_) | (with_reducible refine Below.alloc ?_ (by first | omega | (simp; done) | (simp; omega)) _) | (with_reducible refine Below.setCell ?_ (by first | omega | (simp; done) | (simp; omega)) _))), by omega⟩
theorem dig_ne {s : ByteArray} (h : ∀ x : Int, 1 ≤ x → x ≤ 9 → s ≠ dig x) {n : Int} (h1 : 1 ≤ n) (h9 : n ≤ 9) : ((dig n).toList == s.toList) = false := by
  have := h n h1 h9
  rw [beq_eq_false_iff_ne]
  exact fun e => this (ba_inj e).symm
def RetNo (w : World) (e : Ending) (w' : World) : Prop := ∃ (n : Int) (ok : Bool), e = .returned (.tuple #[.int .i64 n, .bool ok]) ∧ 0 ≤ n ∧ ¬ (ok = true ∧ 1 ≤ n ∧ n ≤ 9) ∧ Below w.heap.size w w' ∧ w.heap.size ≤ w'.heap.size
theorem ltr_in {s : ByteArray} (h : wordOk s = true) (h0 : 0 < s.size) : ltrB (s[0].toNat : Int) = true := by
  have hl : letsUpto s s.size = true := by
    unfold wordOk at h
    rw [Bool.and_eq_true] at h
    exact h.1
  cases e : ltrB (s[0].toNat : Int)
  · have h1 : letsUpto s 1 = false := by rw [lets_step h0, e]; simp
    have := lets_le (k := 1) (by omega) h1
    rw [this] at hl
    cases hl
  · rfl
theorem no_45 {s : ByteArray} (h : wordOk s = true) (h0 : 0 < s.size) : ((s[0].toNat : Int) == 45) = false := by
  have h1 := ltr_in h h0
  simp [ltrB] at h1
  simp
  omega
theorem pow_step {N k d : Nat} (h : N + 1 ≤ 10 ^ k) (hd : d ≤ 9) : 10 * N + d + 1 ≤ 10 ^ (k + 1) := by rw [Nat.pow_succ]; omega
theorem pow_6 {N k : Nat} (h : N + 1 ≤ 10 ^ k) (hk : k ≤ 6) : N ≤ 999999 := by
  have := Nat.pow_le_pow_right (n := 10) (by decide) hk
  omega
set_option maxRecDepth 100000 in
set_option maxHeartbeats 4000000 in
theorem l1Read_no (s : ByteArray) (w : World) (hw : wordOk s = true) (hno : ∀ x : Int, 1 ≤ x → x ≤ 9 → s ≠ dig x) : Calls Tryz.prog 189 #[.string s, .int .i64 6] w (RetNo w) := by
  obtain ⟨z1, z8⟩ := wordOk_size hw
  have h45 := no_45 hw (by omega)
  have HNO := Lib.hid hno
  clear hno
  by_cases hbig : 6 < s.size
  · go_enter Tryz.func189, Tryz.ntmps189
    go_wp2_with fail
    go_ret2
    exact ⟨0, false, rfl, by omega, by simp, Below.refl _ _, Nat.le_refl _⟩
  go_enter Tryz.func189, Tryz.ntmps189
  go_wp2_with fail
  go_loop [8, 9] (fun n i => ∃ (k N : Nat), k ≤ s.size ∧ i = .int .i64 k ∧ n = .int .i64 N ∧ Hid (N + 1 ≤ 10 ^ k)) (fun _ i => s.size - (intOf i).toNat)
  case atStart => exact ⟨0, 0, Nat.zero_le _, rfl, rfl, Lib.hid (by decide)⟩
  case round =>
    obtain ⟨k, N, hk, rfl, rfl, hN⟩ := hrel
    have hN6 := pow_6 hN.out (by omega)
    by_cases hlt : k < s.size
    · by_cases hd : 48 ≤ s[k].toNat ∧ s[k].toNat ≤ 57
      · have HN := Lib.hid (pow_step (d := s[k].toNat - 48) hN.out (by omega))
        have e1 : decide ((s[k].toNat : Int) < 48) = false := decide_eq_false (by omega)
        have e2 : decide (57 < (s[k].toNat : Int)) = false := decide_eq_false (by omega)
        go_wp2_with fail
        go_round
        case rel => exact ⟨k + 1, 10 * N + (s[k].toNat - 48), by omega, by go_num, by congr 1; omega, HN⟩
        case measure => simp [intOf]; omega
      · by_cases h1 : s[k].toNat < 48
        · have e1 : decide ((s[k].toNat : Int) < 48) = true := decide_eq_true (by omega)
          go_wp2_with fail
          go_ret2
          exact ⟨0, false, rfl, by omega, by simp, Below.refl _ _, Nat.le_refl _⟩
        · have e1 : decide ((s[k].toNat : Int) < 48) = false := decide_eq_false (by omega)
          have e2 : decide (57 < (s[k].toNat : Int)) = true := decide_eq_true (by omega)
          go_wp2_with fail
          go_ret2
          exact ⟨0, false, rfl, by omega, by simp, Below.refl _ _, Nat.le_refl _⟩
    · obtain rfl : k = s.size := by omega
      clear hN
      by_cases h0 : N = 0
      · subst h0
        by_cases hs : dig 0 = s
        · have e1 : ((dig 0).toList == s.toList) = true := by simp [hs]
          clear hs
          go_wp2_with (go_at_call 124; refine (FormatInt_spec9 0 (by omega) (by omega) w).mono ?_; rintro e w1 ⟨rfl, b1, s1⟩)
          go_ret2
          exact ⟨0, true, rfl, by omega, by simp, b1, s1⟩
        · have e1 : ((dig 0).toList == s.toList) = false := by rw [beq_eq_false_iff_ne]; exact fun e => hs (ba_inj e)
          clear hs
          go_wp2_with (go_at_call 124; refine (FormatInt_spec9 0 (by omega) (by omega) w).mono ?_; rintro e w1 ⟨rfl, b1, s1⟩)
          go_ret2
          exact ⟨0, false, rfl, by omega, by simp, b1, s1⟩
      · by_cases h9 : N ≤ 9
        · have e1 := dig_ne HNO.out (n := (N : Int)) (by omega) (by omega)
          go_wp2_with (go_at_call 124; refine (FormatInt_spec9 (N : Int) (by omega) (by omega) w).mono ?_; rintro e w1 ⟨rfl, b1, s1⟩)
          go_ret2
          exact ⟨0, false, rfl, by omega, by simp, b1, s1⟩
        · go_wp2_with fail
          refine (FormatInt_some N w (by omega) hN6).mono ?_
          rintro e w1 ⟨t, rfl, b1, s1⟩
          by_cases hs : t = s
          · have e1 : (t.toList == s.toList) = true := by simp [hs]
            clear hs
            go_wp2_with fail
            go_ret2
            exact ⟨N, true, rfl, by omega, by simp; omega, b1, s1⟩
          · have e1 : (t.toList == s.toList) = false := by rw [beq_eq_false_iff_ne]; exact fun e => hs (ba_inj e)
            clear hs
            go_wp2_with fail
            go_ret2
            exact ⟨0, false, rfl, by omega, by simp, b1, s1⟩
theorem small9s {s : ByteArray} (h : ¬ ∀ x : Int, 1 ≤ x → x ≤ 9 → s ≠ dig x) : ∃ x : Int, 1 ≤ x ∧ x ≤ 9 ∧ s = dig x := by
  apply Classical.byContradiction
  intro hc
  exact h (fun x h1 h2 e => hc ⟨x, h1, h2, e⟩)
set_option maxRecDepth 100000 in
set_option maxHeartbeats 4000000 in
theorem l1Read_yes (s : ByteArray) (x : Nat) (w : World) (h1 : 1 ≤ x) (h9 : x ≤ 9) (z1 : s.size = 1) (hb : s[0].toNat = 48 + x) (hs : dig x = s) : Calls Tryz.prog 189 #[.string s, .int .i64 6] w fun e w' => e = .returned (.tuple #[.int .i64 x, .bool true]) ∧ Below w.heap.size w w' ∧ w.heap.size ≤ w'.heap.size := by
  have h45 : ((s[0].toNat : Int) == 45) = false := by simp; omega
  have e1 : ((dig (x : Int)).toList == s.toList) = true := by simp [hs]
  have e2 : decide ((s[0].toNat : Int) < 48) = false := decide_eq_false (by omega)
  have e3 : decide (57 < (s[0].toNat : Int)) = false := decide_eq_false (by omega)
  clear hs
  go_enter Tryz.func189, Tryz.ntmps189
  go_wp2_with fail
  go_loop [8, 9] (fun n i => ∃ (k N : Nat), k ≤ 1 ∧ i = .int .i64 k ∧ n = .int .i64 N ∧ Hid (N = k * x)) (fun _ i => 2 - (intOf i).toNat)
  case atStart => exact ⟨0, 0, by omega, rfl, rfl, Lib.hid (by simp)⟩
  case round =>
    obtain ⟨k, N, hk, rfl, rfl, hN⟩ := hrel
    by_cases hlt : k < s.size
    · have hbk : s[k].toNat = 48 + x := by
        have h0 : k = 0 := by omega
        subst h0
        exact hb
      have HN2 := Lib.hid (show 10 * N + (s[k].toNat - 48) = (k + 1) * x by
        have h0 : k = 0 := by omega
        have hn0 : N = 0 := by have := hN.out; rw [h0] at this; simpa using this
        rw [hbk, h0, hn0]
        omega)
      have hN9 : N ≤ 9 := by
        have h0 : k = 0 := by omega
        have hn0 : N = 0 := by have := hN.out; rw [h0] at this; simpa using this
        omega
      have e4 : decide ((s[k].toNat : Int) < 48) = false := decide_eq_false (by omega)
      have e5 : decide (57 < (s[k].toNat : Int)) = false := decide_eq_false (by omega)
      have b1 : 48 ≤ s[k].toNat := by omega
      have b2 : s[k].toNat ≤ 57 := by omega
      clear hb e1 e2 e3 h45 hbk hN
      go_wp2_with fail
      go_round
      case rel => exact ⟨k + 1, 10 * N + (s[k].toNat - 48), by omega, by go_num, by congr 1; omega, HN2⟩
      case measure => simp [intOf]; omega
    · obtain rfl : k = 1 := by omega
      obtain rfl : N = x := by have := hN.out; simpa using this
      go_wp2_with (go_at_call 124; refine (FormatInt_spec9 (N : Int) (by omega) (by omega) w).mono ?_; rintro e w1 ⟨rfl, b1, s1⟩)
      go_ret2
      exact ⟨rfl, b1, s1⟩
theorem dig_byte {x : Int} (h1 : 1 ≤ x) (h9 : x ≤ 9) : ∃ (h : (dig x).size = 1), ((dig x)[0].toNat : Int) = 48 + x := by
  rcases small9 h1 h9 with rfl | rfl | rfl | rfl | rfl | rfl | rfl | rfl | rfl <;> exact ⟨rfl, rfl⟩
set_option maxRecDepth 100000 in
set_option maxHeartbeats 1000000 in
theorem ParseNumber_spec (s : ByteArray) (w : World) (hw : wordOk s = true) : Calls Tryz.prog 180 #[.string s] w (RetNum s w) := by
  by_cases hno : ∀ x : Int, 1 ≤ x → x ≤ 9 → s ≠ dig x
  · have HNO := Lib.hid hno
    clear hno
    go_enter Tryz.func180, Tryz.ntmps180
    go_wp2_with fail
    refine (l1Read_no s w hw HNO.out).mono ?_
    rintro e w1 ⟨n, ok, rfl, hn0, hn9, b1, s1⟩
    have hd : decide (n < 0) = false := decide_eq_false (by omega)
    have HN : Hid (NumOf s n ok) := ⟨fun h1 h2 h3 => absurd ⟨h1, h2, h3⟩ hn9, fun x h1 h2 e => absurd e (HNO.out x h1 h2)⟩
    clear hn9
    cases ok
    · go_wp2_with fail
      go_ret2
      exact ⟨0, false, rfl, ⟨fun h => by simp at h, fun x h1 h2 e => absurd e (HNO.out x h1 h2)⟩, b1, s1⟩
    · go_wp2_with fail
      go_ret2
      exact ⟨n, true, rfl, HN.out, b1, s1⟩
  · obtain ⟨x, h1, h9, rfl⟩ := small9s hno
    have key : Calls Tryz.prog 189 #[.string (dig x), .int .i64 6] w fun e w' => e = .returned (.tuple #[.int .i64 x, .bool true]) ∧ Below w.heap.size w w' ∧ w.heap.size ≤ w'.heap.size := by
      obtain ⟨hz, hbt⟩ := dig_byte h1 h9
      obtain ⟨y, rfl⟩ : ∃ y : Nat, x = y := ⟨x.toNat, by omega⟩
      exact l1Read_yes _ y w (by omega) (by omega) hz (by omega) rfl
    have hd : decide (x < 0) = false := decide_eq_false (by omega)
    have KEY := Lib.hid key
    clear key hno
    go_enter Tryz.func180, Tryz.ntmps180
    go_wp2_with fail
    refine KEY.out.mono ?_
    rintro e w1 ⟨rfl, b1, s1⟩
    go_wp2_with fail
    go_ret2
    exact ⟨x, true, rfl, ⟨fun _ _ _ => rfl, fun y h2 h3 e => ⟨rfl, by
      have a := numW_dig9 ⟨h1, h9⟩
      have b := numW_dig9 ⟨h2, h3⟩
      rw [e, b] at a
      injection a with a
      exact a.symm⟩⟩, b1, s1⟩
end Go.Proofs.YthkbckkghnbonaaGreatDoor
namespace Go.Proofs.YthkbckkghnbonaaGreatDoor
open Go.RowKit
set_option linter.unusedVariables false
theorem word_okT {T : List Tk} (hw : ∀ t ∈ T, wellTk t) {i : Nat} (h1 : kindT T i = 1) : wordOk (textT T i) = true := by
  unfold kindT at h1
  unfold textT
  cases e : T[i]? with
  | none => rw [e] at h1; exact absurd h1 (by decide)
  | some t =>
    rw [e] at h1
    rcases hw t (List.mem_of_getElem? e) with ⟨_, h⟩ | ⟨h, _⟩
    · exact h
    · have h1 : t.k = 1 := h1
      omega
set_option maxRecDepth 100000 in
set_option maxHeartbeats 4000000 in
theorem l18Number_any (R n c : Nat) (A : Option Addr) (T : List Tk) (s : Rs) (w : World) (h : RdS R A n c T s w) (hn : n ≤ 1048576) (hT : ∀ t ∈ T, wellTk t) :
    Calls Tryz.prog 164 #[.pointer (some ⟨R, 0, none⟩)] w (RtS R A n c T (.int .i64 (numR T s).2) (numR T s).1 w) := by
  obtain ⟨⟨k0, k1, k2⟩, f1, f2, lR⟩ := h.cells
  have H := Lib.hid h
  by_cases h0 : s.code = 0
  · by_cases h1 : kindT T s.i = 1
    · have hlt : s.i < T.length := kindT_lt (by rw [h1]; decide)
      have hsn : s.i < n := by have := h.l; omega
      obtain ⟨b, off, rfl, hbR, hbl, q0, q1⟩ := h.tok hsn
      have hwk := word_okT hT h1
      have HY := Lib.hid (fun x => numR_yes (T := T) (s := s) (x := x) h0 h1)
      have HB := Lib.hid (numR_bad (T := T) (s := s))
      have HK := Lib.hid h1
      have HFE := Lib.hid (failR_0 h0 6)
      have H0 := Lib.hid h0
      rw [h0] at k2
      obtain ⟨word, hw⟩ : ∃ word, word = textT T s.i := ⟨_, rfl⟩
      rw [← hw] at q1 hwk HY HB
      have hnb : b ≠ R := by omega
      rw [h1] at q0
      clear h h0 hw
      go_enter Tryz.func164, Tryz.ntmps164
      go_wp2_with (go_at_call 85; refine (l18Kind_any R n c _ T s w H.out hn).mono ?_; rintro e w' ⟨rfl, m, rfl⟩; rw [HK.out])
      obtain ⟨wm, hwm⟩ : ∃ wm, wm = w.drewN m := ⟨_, rfl⟩
      have c0 : wm.cell? ⟨R, 0, none⟩ = some (.slice (some ⟨b, off, none⟩) n c) := by rw [hwm]; exact k0
      have c1 : wm.cell? ⟨R, 1, none⟩ = some (.int .i64 s.i) := by rw [hwm]; exact k1
      have c2 : wm.cell? ⟨b, off + s.i * 2 + 1, none⟩ = some (.string word) := by rw [hwm]; exact q1
      have b0 : Below w.heap.size w wm := by rw [hwm]; exact below_drewN (Below.refl _ _) m
      have B0 := Lib.hid b0
      have b0s := b0.size
      rw [← hwm]
      clear hwm b0
      go_region_held3 (fun W => W.cell? ⟨R, 0, none⟩ = some (.slice (some ⟨b, off, none⟩) n c) ∧ W.cell? ⟨R, 1, none⟩ = some (.int .i64 s.i) ∧ W.cell? ⟨b, off + s.i * 2 + 1, none⟩ = some (.string word)) (go_keep)
        ((go_at_call 180; (with_reducible refine (ParseNumber_spec word _ hwk).mono ?_); rintro e w1 ⟨x, ok, rfl, hnum, hb9, hs0⟩; have hb0 : Below wm.heap.size wm w1 := ⟨hb9.os, hb9.tape, hb9.output, hb9.size, hb9.block⟩; have z0 : w1.cell? ⟨R, 0, none⟩ = some (.slice (some ⟨b, off, none⟩) n c) := (hb0.cell (p := ⟨R, 0, none⟩) (by show R < _; omega)).trans c0; have z1 : w1.cell? ⟨R, 1, none⟩ = some (.int .i64 s.i) := (hb0.cell (p := ⟨R, 1, none⟩) (by show R < _; omega)).trans c1; have z2 : w1.cell? ⟨b, off + s.i * 2 + 1, none⟩ = some (.string word) := (hb0.cell (p := ⟨b, off + s.i * 2 + 1, none⟩) (by show b < _; omega)).trans c2))
      have hb1 : Below w.heap.size w w1 := B0.out.trans (hb0.mono b0s)
      have hs1 := hb1.size
      have H1 := Lib.hid (H.out.below hb1)
      have HG := Lib.hid (only_of_below hb1 (some R))
      have NUM := Lib.hid hnum
      clear k0 k1 k2 f1 f2 lR hb1 hs1 hnum q0 q1 c0 c1 c2 hb0 hs0 b0s hb9 z0 z1 z2
      obtain ⟨⟨k0, k1, k2⟩, f1, f2, lR⟩ := H1.out.cells
      rw [H0.out] at k2
      by_cases hg : ok = true ∧ 1 ≤ x ∧ x ≤ 9
      · obtain ⟨rfl, hx1, hx9⟩ := hg
        have HE := Lib.hid (HY.out x (numOf_yes NUM.out hx1 hx9))
        have hin : inB x 1 9 = true := inB_t hx1 hx9
        have HN := Lib.hid (H1.out.atv (i := s.i + 1) (v := (s.i : Int) + 1) hlt (by simp))
        rw [H0.out] at HN
        have hz : s.i + 1 ≤ 1048577 := by omega
        go_wp2_with (go_at_call 47; refine (l1In_any _ _ _ _).mono ?_; rintro e w' ⟨rfl, rfl⟩; rw [hin])
        go_ret
        exact ⟨by rw [HE.out]; rfl, by rw [HE.out]; exact HN.out, HG.out.andThen (gr_set _) (fun j hj => .inr hj)⟩
      · have HE := Lib.hid (HB.out (numOf_none NUM.out hg))
        cases ok
        · go_wp2_with (go_at_call 130; refine (l18Fail_any R n c _ T s 6 _ H1.out).mono ?_; rintro e w' ⟨rfl, hr, hg⟩)
          go_ret
          exact ⟨by rw [HE.out]; rfl, by rw [HE.out]; exact hr, HG.out.andThen (by assumption) (fun j hj => .inr hj)⟩
        · have hin : inB x 1 9 = false := inB_no (fun h => hg ⟨rfl, h⟩)
          clear hg
          go_wp2_with (first | (go_at_call 47; refine (l1In_any _ _ _ _).mono ?_; rintro e w' ⟨rfl, rfl⟩; rw [hin]) | (go_at_call 130; refine (l18Fail_any R n c _ T s 6 _ H1.out).mono ?_; rintro e w' ⟨rfl, hr, hg⟩))
          go_ret
          exact ⟨by rw [HE.out]; rfl, by rw [HE.out]; exact hr, HG.out.andThen hg (fun j hj => .inr hj)⟩
    · have HE := Lib.hid (numR_no (T := T) (s := s) (fun h => h1 h.2))
      have d1 : (kindT T s.i == 1) = false := by simp [h1]
      have d3 : (kindT T s.i != 1) = true := by simp [h1]
      rw [h0] at k2
      clear h h0 h1
      go_enter Tryz.func164, Tryz.ntmps164
      go_wp2_with (first | (go_at_call 85; refine (l18Kind_any R n c _ T s w H.out hn).mono ?_; rintro e w' ⟨rfl, m, rfl⟩) | (go_at_call 130; refine (l18Fail_any R n c _ T s 6 _ (H.out.drewN _)).mono ?_; rintro e w' ⟨rfl, hr, hg⟩))
      go_ret
      exact ⟨by rw [HE.out]; rfl, by rw [HE.out]; exact hr, (gr_drewN (World.grownBy.refl _ _) _).andThen hg (fun j hj => .inr hj)⟩
  · have HE := Lib.hid (numR_no (T := T) (s := s) (fun h => h0 h.1))
    have d0 : (s.code != 0) = true := by simp [h0]
    clear h h0
    go_enter Tryz.func164, Tryz.ntmps164
    go_wp2_with (go_at_call 130; refine (l18Fail_any R n c _ T s 6 _ H.out).mono ?_; rintro e w' ⟨rfl, hr, hg⟩)
    go_ret
    exact ⟨by rw [HE.out]; rfl, by rw [HE.out]; exact hr, hg⟩
end Go.Proofs.YthkbckkghnbonaaGreatDoor
namespace Go.Proofs.YthkbckkghnbonaaGreatDoor
open Go.RowKit
set_option linter.unusedVariables false
/-- A slice in a block from lo on and below hi, whose cells may be written. -/
def SlI (w : World) (lo hi size : Nat) (A : Option Addr) (n : Nat) (xs : List Value) : Prop :=
  xs.length = n * size ∧ (0 < n → ∃ b off, A = some ⟨b, off, none⟩ ∧ (lo ≤ b ∧ b < hi ∧ b < w.heap.size) ∧ (∀ j u, xs[j]? = some u → w.cell? ⟨b, off + j, none⟩ = some u) ∧ ∀ j, w.frozen? ⟨b, off + j, none⟩ = false)
/-- Elements and their cells, each in an interval of its own that leaves out the block o. -/
def ElG {α : Type} (S : Nat → Nat → List Value → α → Prop) (o : Option Nat) (hi : Nat) : Nat → List (List Value) → List α → Prop
  | _, [], [] => True
  | lo, c :: cs, s :: l => ∃ m1 m2, (lo ≤ m1 ∧ m1 ≤ m2 ∧ m2 ≤ hi) ∧ (∀ k, o = some k → k < m1 ∨ m2 ≤ k) ∧ S m1 m2 c s ∧ ElG S o hi m2 cs l
  | _, _, _ => False
/-- The slice (A, n) reads as the statements l: all blocks from lo on and below hi, no two of them one. -/
def TrI (w : World) : (d : Nat) → Nat → Nat → Option Addr → Nat → List (Tr d) → Prop
  | 0, _, _, _, n, l => l.length = n ∧ n = 0
  | d + 1, lo, hi, A, n, l => l.length = n ∧ (0 < n → ∃ b off css, A = some ⟨b, off, none⟩ ∧ (lo ≤ b ∧ b < hi ∧ b < w.heap.size) ∧ (∀ j u, css.flatten[j]? = some u → w.cell? ⟨b, off + j, none⟩ = some u) ∧ (∀ j, w.frozen? ⟨b, off + j, none⟩ = false) ∧
      ElG (fun m1 m2 cs (s : Tr (d + 1)) => ∃ Aa ca Ab nb cb c, cs = scl (hdT s) Aa ca Ab nb cb ∧ (m1 ≤ c ∧ c ≤ m2) ∧ SlI w m1 c 1 Aa (hdT s).args.length (strs (hdT s).args) ∧ TrI w d c m2 Ab nb (bdT s) ∧ (hdT s).args.length ≤ ca) (some b) hi lo css l)
/-- Five cells that are a statement, its names from m1 on, its body behind them and below m2. -/
def StI (w : World) (d m1 m2 : Nat) (cs : List Value) (s : Tr (d + 1)) : Prop :=
  ∃ Aa ca Ab nb cb c, cs = scl (hdT s) Aa ca Ab nb cb ∧ (m1 ≤ c ∧ c ≤ m2) ∧ SlI w m1 c 1 Aa (hdT s).args.length (strs (hdT s).args) ∧ TrI w d c m2 Ab nb (bdT s) ∧ (hdT s).args.length ≤ ca
section
variable {w w' : World}
theorem TrI.len : ∀ {d lo hi n : Nat} {A : Option Addr} {l : List (Tr d)}, TrI w d lo hi A n l → l.length = n
  | 0, _, _, _, _, _, h => h.1
  | _ + 1, _, _, _, _, _, h => h.1
theorem trI_nil {lo hi : Nat} {A : Option Addr} : ∀ {d : Nat}, TrI w d lo hi A 0 []
  | 0 => ⟨rfl, rfl⟩
  | _ + 1 => ⟨rfl, fun h => absurd h (by omega)⟩
theorem SlI.keep {lo hi size n : Nat} {A : Option Addr} {xs : List Value} (h : SlI w lo hi size A n xs) (hk : ∀ b, lo ≤ b → b < hi → b < w.heap.size → w'.heap[b]? = w.heap[b]?) (hs : w.heap.size ≤ w'.heap.size) : SlI w' lo hi size A n xs :=
  ⟨h.1, fun h0 => by
    obtain ⟨b, off, e, ⟨h1, h2, h3⟩, hc, hf⟩ := h.2 h0
    have hb := hk b h1 h2 h3
    refine ⟨b, off, e, ⟨h1, h2, Nat.lt_of_lt_of_le h3 hs⟩, fun j u hu => ?_, fun j => ?_⟩
    · rw [← hc j u hu]; simp [World.cell?, hb]
    · rw [← hf j]; simp [World.frozen?, hb]⟩
theorem SlI.wide {lo lo' hi hi' size n : Nat} {A : Option Addr} {xs : List Value} (h : SlI w lo hi size A n xs) (hl : lo' ≤ lo) (hh : hi ≤ hi') : SlI w lo' hi' size A n xs :=
  ⟨h.1, fun h0 => by
    obtain ⟨b, off, e, ⟨h1, h2, h3⟩, hc, hf⟩ := h.2 h0
    exact ⟨b, off, e, ⟨Nat.le_trans hl h1, Nat.lt_of_lt_of_le h2 hh, h3⟩, hc, hf⟩⟩
theorem slI_none {lo hi size : Nat} {A : Option Addr} : SlI w lo hi size A 0 [] := ⟨by simp, fun h => absurd h (by omega)⟩
theorem slI_of_own {base E size n c : Nat} {A : Option Addr} {xs : List Value} (h : w.ownsRow base E size (.slice A n c) n xs) : SlI w base w.heap.size size A n xs := by
  have r := rd_own h
  refine ⟨r.1, fun h0 => ?_⟩
  obtain ⟨b, off, e, hb, hc⟩ := r.2 h0
  subst e
  rcases h.2 with ⟨e, e2⟩ | ⟨g, cap, cur, e, hg, hh, _⟩
  · omega
  · injection e with e e2 e3
    injection e with e
    injection e with e1 e4
    subst e1 e4
    exact ⟨b, 0, rfl, ⟨hg, hb, hb⟩, hc, fun j => free_at hh⟩
theorem SlI.rdq {lo hi size n : Nat} {A : Option Addr} {xs : List Value} (h : SlI w lo hi size A n xs) : RdL w lo size A n xs :=
  ⟨h.1, fun h0 => by
    obtain ⟨b, off, e, ⟨h1, h2, h3⟩, hc, hf⟩ := h.2 h0
    exact ⟨b, off, e, h1, h3, hc⟩⟩
theorem ElG.mono {α : Type} {S S' : Nat → Nat → List Value → α → Prop} {o o' : Option Nat} {hi hi' : Nat} (hh : hi ≤ hi') :
    ∀ {css : List (List Value)} {l : List α} {lo lo' : Nat}, lo' ≤ lo → ElG S o hi lo css l →
    (∀ m1 m2 c s, lo ≤ m1 → m1 ≤ m2 → m2 ≤ hi → (∀ k, o = some k → k < m1 ∨ m2 ≤ k) → S m1 m2 c s → S' m1 m2 c s ∧ ∀ k, o' = some k → k < m1 ∨ m2 ≤ k) → ElG S' o' hi' lo' css l
  | [], [], _, _, _, _, _ => trivial
  | _ :: _, _ :: _, lo, lo', hl, ⟨m1, m2, ⟨h1, h2, h3⟩, h4, h5, h6⟩, f => by
    obtain ⟨a, b⟩ := f m1 m2 _ _ h1 h2 h3 h4 h5
    exact ⟨m1, m2, ⟨Nat.le_trans hl h1, h2, Nat.le_trans h3 hh⟩, b, a, ElG.mono hh (Nat.le_refl _) h6 (fun n1 n2 c s g1 g2 g3 g4 g5 => f n1 n2 c s (by omega) g2 g3 g4 g5)⟩
  | [], _ :: _, _, _, _, h, _ => h.elim
  | _ :: _, [], _, _, _, h, _ => h.elim
theorem ElG.snoc {α : Type} {S : Nat → Nat → List Value → α → Prop} {o : Option Nat} {hi m1 m2 : Nat} {c : List Value} {s : α} (h1 : hi ≤ m1) (h2 : m1 ≤ m2) (h3 : ∀ k, o = some k → k < m1 ∨ m2 ≤ k) (h4 : S m1 m2 c s) :
    ∀ {css : List (List Value)} {l : List α} {lo : Nat}, lo ≤ hi → ElG S o hi lo css l → ElG S o m2 lo (css ++ [c]) (l ++ [s])
  | [], [], _, hl, _ => ⟨m1, m2, ⟨by omega, h2, Nat.le_refl _⟩, h3, h4, trivial⟩
  | _ :: _, _ :: _, _, _, ⟨n1, n2, ⟨g1, g2, g3⟩, g4, g5, g6⟩ => ⟨n1, n2, ⟨g1, g2, by omega⟩, g4, g5, ElG.snoc h1 h2 h3 h4 g3 g6⟩
  | [], _ :: _, _, _, h => h.elim
  | _ :: _, [], _, _, h => h.elim
theorem ElG.len {α : Type} {S : Nat → Nat → List Value → α → Prop} {o : Option Nat} {hi : Nat} (hS : ∀ m1 m2 c s, S m1 m2 c s → c.length = 5) :
    ∀ {css : List (List Value)} {l : List α} {lo : Nat}, ElG S o hi lo css l → css.length = l.length ∧ ∀ c ∈ css, c.length = 5
  | [], [], _, _ => ⟨rfl, by simp⟩
  | _ :: _, _ :: _, _, ⟨m1, m2, _, _, h5, h6⟩ => by
    obtain ⟨a, b⟩ := ElG.len hS h6
    refine ⟨by simp [a], fun c hc => ?_⟩
    rcases List.mem_cons.1 hc with rfl | hc
    · exact hS _ _ _ _ h5
    · exact b c hc
  | [], _ :: _, _, h => h.elim
  | _ :: _, [], _, h => h.elim
theorem ElG.get {α : Type} {S : Nat → Nat → List Value → α → Prop} {o : Option Nat} {hi : Nat} :
    ∀ {css : List (List Value)} {l : List α} {lo : Nat}, ElG S o hi lo css l → ∀ {i : Nat} {s : α}, l[i]? = some s → ∃ m1 m2 c, css[i]? = some c ∧ (lo ≤ m1 ∧ m1 ≤ m2 ∧ m2 ≤ hi) ∧ (∀ k, o = some k → k < m1 ∨ m2 ≤ k) ∧ S m1 m2 c s
  | [], [], _, _, i, s, h => by simp at h
  | c :: _, _ :: _, lo, ⟨m1, m2, h1, h4, h5, h6⟩, 0, s, h => by
    simp only [List.getElem?_cons_zero, Option.some.injEq] at h
    subst h
    exact ⟨m1, m2, c, rfl, h1, h4, h5⟩
  | _ :: _, _ :: _, lo, ⟨m1, m2, h1, h4, h5, h6⟩, i + 1, s, h => by
    simp only [List.getElem?_cons_succ] at h
    obtain ⟨n1, n2, c, g1, g2, g3, g4⟩ := ElG.get h6 h
    exact ⟨n1, n2, c, by simpa using g1, by omega, g3, g4⟩
  | [], _ :: _, _, h, _, _, _ => h.elim
  | _ :: _, [], _, h, _, _, _ => h.elim
theorem StI.len {d m1 m2 : Nat} {cs : List Value} {s : Tr (d + 1)} (h : StI w d m1 m2 cs s) : cs.length = 5 := by
  obtain ⟨Aa, ca, Ab, nb, cb, c, rfl, _⟩ := h
  rfl
theorem StI.ones {d m1 m2 : Nat} {cs : List Value} {s : Tr (d + 1)} (h : StI w d m1 m2 cs s) : ∀ u ∈ cs, u.oneCell' = true := by
  obtain ⟨Aa, ca, Ab, nb, cb, c, rfl, _⟩ := h
  intro u hu
  simp only [scl, List.mem_cons, List.not_mem_nil, or_false] at hu
  rcases hu with rfl | rfl | rfl | rfl | rfl <;> rfl
theorem TrI.wide {hi' lo' : Nat} : ∀ {d lo hi n : Nat} {A : Option Addr} {l : List (Tr d)}, TrI w d lo hi A n l → lo' ≤ lo → hi ≤ hi' → TrI w d lo' hi' A n l := by
  intro d lo hi n A l h hl hh
  cases d with
  | zero => exact h
  | succ d =>
    refine ⟨h.1, fun h0 => ?_⟩
    obtain ⟨b, off, css, e, ⟨h1, h2, h3⟩, hc, hf, he⟩ := h.2 h0
    exact ⟨b, off, css, e, ⟨Nat.le_trans hl h1, Nat.lt_of_lt_of_le h2 hh, h3⟩, hc, hf, ElG.mono hh hl he (fun _ _ _ _ _ _ _ g1 g2 => ⟨g2, g1⟩)⟩
theorem TrI.keep (hs : w.heap.size ≤ w'.heap.size) : ∀ {d lo hi n : Nat} {A : Option Addr} {l : List (Tr d)}, TrI w d lo hi A n l → (∀ b, lo ≤ b → b < hi → b < w.heap.size → w'.heap[b]? = w.heap[b]?) → TrI w' d lo hi A n l := by
  intro d
  induction d with
  | zero => intro lo hi n A l h _; exact h
  | succ d ih =>
    intro lo hi n A l h hk
    refine ⟨h.1, fun h0 => ?_⟩
    obtain ⟨b, off, css, e, ⟨h1, h2, h3⟩, hc, hf, he⟩ := h.2 h0
    have hb := hk b h1 h2 h3
    refine ⟨b, off, css, e, ⟨h1, h2, Nat.lt_of_lt_of_le h3 hs⟩, fun j u hu => ?_, fun j => ?_, ElG.mono (Nat.le_refl _) (Nat.le_refl _) he (fun m1 m2 cs s a1 a2 a3 g1 g2 => ⟨?_, g1⟩)⟩
    · rw [← hc j u hu]; simp [World.cell?, hb]
    · rw [← hf j]; simp [World.frozen?, hb]
    · obtain ⟨Aa, ca, Ab, nb, cb, c, k1, ⟨k2, k3⟩, k4, k5, k6⟩ := g2
      exact ⟨Aa, ca, Ab, nb, cb, c, k1, ⟨k2, k3⟩, k4.keep (fun b p1 p2 p3 => hk b (by omega) (by omega) p3) hs, ih k5 (fun b p1 p2 p3 => hk b (by omega) (by omega) p3), k6⟩
theorem StI.keep {d m1 m2 : Nat} {cs : List Value} {s : Tr (d + 1)} (h : StI w d m1 m2 cs s) (hs : w.heap.size ≤ w'.heap.size) (hk : ∀ b, m1 ≤ b → b < m2 → b < w.heap.size → w'.heap[b]? = w.heap[b]?) : StI w' d m1 m2 cs s := by
  obtain ⟨Aa, ca, Ab, nb, cb, c, k1, ⟨k2, k3⟩, k4, k5, k6⟩ := h
  exact ⟨Aa, ca, Ab, nb, cb, c, k1, ⟨k2, k3⟩, k4.keep (fun b p1 p2 p3 => hk b (by omega) (by omega) p3) hs, k5.keep hs (fun b p1 p2 p3 => hk b (by omega) (by omega) p3), k6⟩
theorem stI_mk {d m1 c m2 ca nb cb n : Nat} {h : SH} {Aa Ab : Option Addr} {bd : List (Tr d)} (hn : h.args.length = n) (h1 : m1 ≤ c) (h2 : c ≤ m2) (ha : SlI w m1 c 1 Aa n (strs h.args)) (hb : TrI w d c m2 Ab nb bd) (hc : n ≤ ca) :
    StI w d m1 m2 [.int .i64 h.k, .string h.word, .slice Aa n ca, .int .i64 h.count, .slice Ab nb cb] (mkT h bd) := by
  subst hn
  exact ⟨Aa, ca, Ab, nb, cb, c, rfl, ⟨h1, h2⟩, ha, hb, hc⟩
theorem TrI.rdt : ∀ {d lo hi n : Nat} {A : Option Addr} {l : List (Tr d)}, TrI w d lo hi A n l → RdT w lo d A n l := by
  intro d
  induction d with
  | zero => intro lo hi n A l h; exact h
  | succ d ih =>
    intro lo hi n A l h
    refine ⟨h.1, fun h0 => ?_⟩
    obtain ⟨b, off, css, e, ⟨h1, h2, h3⟩, hc, hf, he⟩ := h.2 h0
    refine ⟨b, off, e, h1, h3, fun i s hi => ?_⟩
    have h5 := (ElG.len (fun _ _ _ _ h => StI.len (w := w) h) he).2
    obtain ⟨m1, m2, c, hci, ⟨g1, g2, g3⟩, _, Aa, ca, Ab, nb, cb, cc, rfl, ⟨k2, k3⟩, k4, k5, k6⟩ := ElG.get he hi
    have f : ∀ j, j < 5 → ∀ u, (scl (hdT s) Aa ca Ab nb cb)[j]? = some u → w.cell? ⟨b, off + (i * 5 + j), none⟩ = some u := fun j hj u hu => hc _ _ ((flat5 (R := fun c => c.length = 5) (fun _ h => h) css h5 i j _ hci hj).trans hu)
    refine ⟨Aa, ca, Ab, nb, cb, ⟨f 0 (by decide) _ rfl, ?_, ?_, ?_, ?_⟩, k4.rdq.lower (by omega), (ih k5).lower (by omega), k6⟩
    · have := f 1 (by decide) _ rfl; rwa [← Nat.add_assoc] at this
    · have := f 2 (by decide) _ rfl; rwa [← Nat.add_assoc] at this
    · have := f 3 (by decide) _ rfl; rwa [← Nat.add_assoc] at this
    · have := f 4 (by decide) _ rfl; rwa [← Nat.add_assoc] at this
end
/-- A row of statements of the call's own, what they point to in intervals from base on and below hi, the row itself in none of them. -/
def OwnI (w : World) (base hi d : Nat) (v : Value) (l : List (Tr (d + 1))) : Prop :=
  ∃ css, w.ownsRow base 66 5 v l.length css.flatten ∧ (base ≤ hi ∧ hi ≤ w.heap.size) ∧ ElG (StI w d) v.ownBlock hi base css l
section
variable {w w' : World} {base hi d : Nat} {v : Value} {l : List (Tr (d + 1))}
theorem OwnI.grown {row : Option Nat} (h : OwnI w base hi d v l) (hg : w.grownBy w' row) (hr : ∀ k, row = some k → k < base) : OwnI w' base hi d v l := by
  obtain ⟨css, ho, ⟨h1, h2⟩, he⟩ := h
  refine ⟨css, ho.kept hg ?_, ⟨h1, Nat.le_trans h2 hg.size⟩, ElG.mono (Nat.le_refl _) (Nat.le_refl _) he (fun m1 m2 c s a1 a2 a3 g1 g2 => ⟨g2.keep hg.size (fun b p1 p2 p3 => hg.block b p3 (fun e => ?_)), g1⟩)⟩
  · cases hk : v.ownBlock with
    | none => exact .inl rfl
    | some k =>
      refine .inr fun e => ?_
      have h1 := hr k e.symm
      have h2 := (ho.lt k hk).1
      omega
  · have := hr b e.symm
    omega
theorem OwnI.below (h : OwnI w base hi d v l) (hb : Below w.heap.size w w') : OwnI w' base hi d v l :=
  h.grown (row := none) ⟨hb.os, hb.tape, hb.output, hb.size, fun k hk _ => hb.block k hk⟩ (fun k e => by cases e)
theorem ownI_empty (w : World) (d : Nat) : OwnI (w.alloc (.cells #[] 66)) w.heap.size w.heap.size d (.slice (some ⟨w.heap.size, 0, none⟩) 0 0) [] := ⟨[], own_empty w _ 5, ⟨Nat.le_refl _, by simp⟩, trivial⟩
theorem OwnI.slice (h : OwnI w base hi d v l) : ∃ A c, v = .slice A l.length c ∧ l.length ≤ c ∧ c ≤ maxLen := by
  obtain ⟨css, ho, _⟩ := h
  obtain ⟨A, c, e, h1, h2, _⟩ := rd_of_own ho
  exact ⟨A, c, e, h1, h2⟩
theorem OwnI.lt (h : OwnI w base hi d v l) : ∀ k, v.ownBlock = some k → k < w.heap.size := fun k hk => by
  obtain ⟨xs, ho, _⟩ := h
  exact (ho.lt k hk).2
/-- The row, open for one more statement, which lies behind it. -/
theorem OwnI.add {m1 m2 : Nat} {cs : List Value} {s : Tr (d + 1)} (h : OwnI w base hi d v l) (hv : ∀ k, v.ownBlock = some k → k < m1) (h1 : hi ≤ m1) (h2 : m1 ≤ m2) (h3 : m2 ≤ w.heap.size) (hs : StI w d m1 m2 cs s) :
    ∃ xs, w.ownsRow base 66 5 v l.length xs ∧ ∀ (wa w6 : World) (v6 : Value), w6.ownsRow base 66 5 v6 (l.length + 1) (xs ++ cs) → Below w.heap.size w wa → wa.grownBy w6 v.ownBlock → (v6.ownBlock = v.ownBlock ∨ v6.ownBlock = some wa.heap.size) → OwnI w6 base m2 d v6 (l ++ [s]) := by
  obtain ⟨css, ho, ⟨a1, a2⟩, he⟩ := h
  refine ⟨css.flatten, ho, fun wa w6 v6 h6 hba hg hat => ?_⟩
  have hsz : w.heap.size ≤ w6.heap.size := Nat.le_trans hba.size hg.size
  refine ⟨css ++ [cs], ?_, ⟨by omega, by omega⟩, ElG.mono (Nat.le_refl _) (Nat.le_refl _) (ElG.snoc h1 h2 (fun k hk => .inl (hv k hk)) hs a1 he) (fun n1 n2 c s b1 b2 b3 g1 g2 => ⟨g2.keep hsz (fun b p1 p2 p3 => ?_), fun k hk => ?_⟩)⟩
  · rw [List.flatten_append, List.length_append]
    simpa using h6
  · refine (hg.block b (Nat.lt_of_lt_of_le p3 hba.size) (fun e => ?_)).trans (hba.block b p3)
    have := g1 b e.symm
    omega
  · rcases hat with e | e
    · exact g1 k (e ▸ hk)
    · rw [hk] at e
      injection e with e
      have := hba.size
      omega
theorem OwnI.tr {A : Option Addr} {n c : Nat} (h : OwnI w base hi d (.slice A n c) l) (hn : l.length = n) : TrI w (d + 1) base w.heap.size A n l := by
  obtain ⟨css, ho, ⟨a1, a2⟩, he⟩ := h
  rw [hn] at ho
  have r := rd_own ho
  refine ⟨hn, fun h0 => ?_⟩
  obtain ⟨b, off, e, hb, hc⟩ := r.2 h0
  subst e
  rcases ho.2 with ⟨e, e2⟩ | ⟨g, cap, cur, e, hg, hh, _⟩
  · omega
  · injection e with e e2 e3
    injection e with e
    injection e with e1 e4
    subst e1 e4
    exact ⟨b, 0, css, rfl, ⟨hg, hb, hb⟩, hc, fun j => free_at hh, ElG.mono a2 (Nat.le_refl _) he (fun _ _ _ _ _ _ _ g1 g2 => ⟨g2, g1⟩)⟩
end
end Go.Proofs.YthkbckkghnbonaaGreatDoor
