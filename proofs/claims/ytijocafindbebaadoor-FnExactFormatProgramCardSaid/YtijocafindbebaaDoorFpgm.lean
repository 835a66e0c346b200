/- FormatProgram on both sides: the text of a program's tokens. -/
import Derived.Test.YtijocafindbebaaDoorFtks
import Derived.Test.YtijocafindbebaaDoorPtoksD
namespace Go.Proofs.YtijocafindbebaaDoor
open Go.RowKit
set_option linter.unusedVariables false
theorem heads_size (n : Nat) : (heads.getD n ⟨#[]⟩).size ≤ 8 := by
  rcases Nat.lt_or_ge n 8 with h | h
  · have : n = 0 ∨ n = 1 ∨ n = 2 ∨ n = 3 ∨ n = 4 ∨ n = 5 ∨ n = 6 ∨ n = 7 := by omega
    rcases this with rfl | rfl | rfl | rfl | rfl | rfl | rfl | rfl <;> decide
  · rw [List.getD_eq_getElem?_getD, List.getElem?_eq_none (by exact h)]
    exact Nat.zero_le _
theorem szS_le {l : List ByteArray} {s : ByteArray} (h : s ∈ l) : s.size ≤ szS l := by
  obtain ⟨t, ht⟩ := List.mem_iff_getElem?.1 h
  exact szS_mem ht
theorem toks1_small {h : SH} {b : List Tk} {z : Nat} (hw : h.word.size ≤ z) (ha : szS h.args ≤ z) (hb : ∀ t ∈ b, t.s.size ≤ z + 8) : ∀ t ∈ toks1 h b, t.s.size ≤ z + 8 := by
  intro t ht
  unfold toks1 at ht
  simp only [List.mem_append] at ht
  rcases ht with ((ht | ht) | ht) | ht
  · simp only [List.mem_singleton] at ht
    subst ht
    show (headW h.k h.word).size ≤ z + 8
    unfold headW
    split
    · omega
    · have := heads_size h.k.toNat; omega
  · split at ht
    · simp only [List.mem_singleton] at ht
      subst ht
      show 1 ≤ z + 8
      omega
    · cases ht
  · obtain ⟨a, ha', rfl⟩ := List.mem_map.1 ht
    have := szS_le ha'
    show a.size ≤ z + 8
    omega
  · split at ht
    · simp only [List.mem_singleton] at ht
      subst ht
      exact Nat.zero_le _
    · simp only [List.mem_append, List.mem_singleton] at ht
      rcases ht with (rfl | ht) | rfl
      · exact Nat.zero_le _
      · exact hb t ht
      · exact Nat.zero_le _
theorem toksT_small : ∀ (d : Nat) (l : List (Tr d)) (z : Nat), szT d l ≤ z → ∀ t ∈ toksT d l, t.s.size ≤ z + 8 := by
  intro d
  induction d with
  | zero => intro l z _ t ht; cases ht
  | succ d ih =>
    intro l z hz t ht
    have ht' : t ∈ l.flatMap fun s => toks1 (hdT s) (toksT d (bdT s)) := ht
    obtain ⟨s, hs, ht2⟩ := List.mem_flatMap.1 ht'
    obtain ⟨i, hi⟩ := List.mem_iff_getElem?.1 hs
    have hme := szT_mem hi
    rw [szT_succ] at hz
    unfold szE at hme
    exact toks1_small (by omega) (by omega) (ih (bdT s) z (by omega)) t ht2
theorem pTks_small {d : Nat} {qs : List ByteArray} {l : List (Tr d)} (h1 : szS qs ≤ 1048576) (h2 : szT d l ≤ 1048576) : ∀ t ∈ pTks d qs l, t.s.size ≤ 1099511627776 := by
  intro t ht
  unfold pTks stToks at ht
  split at ht
  · unfold pg1 at ht
    simp only [List.mem_append, List.mem_singleton] at ht
    rcases ht with ((rfl | ht) | rfl) | ht
    · show 6 ≤ _; omega
    · obtain ⟨a, ha, rfl⟩ := List.mem_map.1 ht
      have := szS_le ha
      show a.size ≤ _
      omega
    · exact Nat.zero_le _
    · have := toksT_small d l 1048576 h2 t ht
      omega
  · cases ht
set_option maxRecDepth 100000 in
set_option maxHeartbeats 1000000 in
theorem FormatProgram_impl (d lo lo' : Nat) (Aq : Option Addr) (cq : Nat) (qs : List ByteArray) (l : List (Tr d)) (Ab : Option Addr) (nb cb : Nat) (w : World) (hra : RdL w lo 1 Aq qs.length (strs qs)) (hrb : RdT w lo' d Ab nb l) (hG : GN w) (hm : qs.length ≤ 1048576) (hz : szS qs ≤ 1048576) (hsz : szT d l ≤ 1048576) :
    Calls Tryd.prog 32 #[.agg #[.slice Aq qs.length cq, .slice Ab nb cb]] w fun e w' => e = .returned (.string (ftx (pTks d qs l))) ∧ Below w.heap.size w w' ∧ w.heap.size ≤ w'.heap.size := by
  have b0 : Below w.heap.size w (w.alloc (.cells #[.slice Aq qs.length cq, .slice Ab nb cb] 39)) := (by repeat (first | exact Below.refl _ _ | assumption | (refine Below.trans ?_ (Below.mono (by assumption) (by first | omega | (simp; done) | (simp; omega)))) | (with_reducible refine Below.drew ?_) | (with_reducible refine Below.alloc ?_ (by first | omega | (simp; done) | (simp; omega)) _) | (with_reducible refine Below.setCell ?_ (by first | omega | (simp; done) | (simp; omega)) _)))
  have HP := Lib.hid (ProgramTokens_impl d lo lo' Aq cq qs l Ab nb cb _ (hra.below b0) (hrb.below b0) (hG.below b0) hm hz hsz)
  have hl := pTks_len d qs l
  have hs := pTks_small (d := d) (qs := qs) (l := l) hz hsz
  obtain ⟨T, hT⟩ : ∃ T, T = pTks d qs l := ⟨_, rfl⟩
  rw [← hT] at HP hl hs ⊢
  have HS := Lib.hid hs
  clear hT hra hrb hG hs b0
  go_enter Tryd.func32, Tryd.ntmps32
  go_wp2_with fail
  refine HP.out.mono ?_
  rintro e w1 ⟨v1, rfl, o1, b1, s1⟩
  obtain ⟨A1, c1, rfl, _, _, r1⟩ := rd_of_own o1
  have hb1 : Below w.heap.size w w1 := ((Below.refl _ _).alloc (Nat.le_refl _) _).trans (b1.mono (by simp))
  have hs1 := hb1.size
  have R1 := Lib.hid r1
  clear o1 b1 s1 r1
  go_wp2_with fail
  refine (FormatTokens_impl _ _ _ T _ R1.out rfl (by omega) HS.out).mono ?_
  rintro e w2 ⟨rfl, b2, s2⟩
  go_wp2_with fail
  go_ret
  exact ⟨rfl, hb1.trans (b2.mono hs1), by omega⟩
set_option maxRecDepth 100000 in
set_option maxHeartbeats 1000000 in
theorem FormatProgram_spec (d lo lo' : Nat) (Aq : Option Addr) (cq : Nat) (qs : List ByteArray) (l : List (Tr d)) (Ab : Option Addr) (nb cb : Nat) (w : World) (hra : RdL w lo 1 Aq qs.length (strs qs)) (hrb : RdT w lo' d Ab nb l) (hm : qs.length ≤ 1048576) (hz : szS qs ≤ 1048576) (hsz : szT d l ≤ 1048576) :
    Calls Tryd.prog 31 #[.agg #[.slice Aq qs.length cq, .slice Ab nb cb]] w fun e w' => e = .returned (.string (ftx (pTks d qs l))) ∧ Below w.heap.size w w' ∧ w.heap.size ≤ w'.heap.size := by
  have b0 : Below w.heap.size w (w.alloc (.cells #[.slice Aq qs.length cq, .slice Ab nb cb] 39)) := (by repeat (first | exact Below.refl _ _ | assumption | (refine Below.trans ?_ (Below.mono (by assumption) (by first | omega | (simp; done) | (simp; omega)))) | (with_reducible refine Below.drew ?_) | (with_reducible refine Below.alloc ?_ (by first | omega | (simp; done) | (simp; omega)) _) | (with_reducible refine Below.setCell ?_ (by first | omega | (simp; done) | (simp; omega)) _)))
  have HP := Lib.hid (ProgramTokens_spec d lo lo' Aq cq qs l Ab nb cb _ (hra.below b0) (hrb.below b0) hm hz hsz)
  have hl := pTks_len d qs l
  have hs := pTks_small (d := d) (qs := qs) (l := l) hz hsz
  obtain ⟨T, hT⟩ : ∃ T, T = pTks d qs l := ⟨_, rfl⟩
  rw [← hT] at HP hl hs ⊢
  have HS := Lib.hid hs
  clear hT hra hrb hs b0
  go_enter Tryd.func31, Tryd.ntmps31
  go_wp2_with fail
  refine HP.out.mono ?_
  rintro e w1 ⟨v1, rfl, o1, b1, s1⟩
  obtain ⟨A1, c1, rfl, _, _, r1⟩ := rd_of_own o1
  have hb1 : Below w.heap.size w w1 := ((Below.refl _ _).alloc (Nat.le_refl _) _).trans (b1.mono (by simp))
  have hs1 := hb1.size
  have R1 := Lib.hid r1
  clear o1 b1 s1 r1
  go_wp2_with fail
  refine (FormatTokens_spec _ _ _ T _ R1.out rfl (by omega) HS.out).mono ?_
  rintro e w2 ⟨rfl, b2, s2⟩
  go_wp2_with fail
  go_ret
  exact ⟨rfl, hb1.trans (b2.mono hs1), by omega⟩
end Go.Proofs.YtijocafindbebaaDoor
