/- What the calls that this law reaches answer, part 12 of 12. -/
import Derived.Test.YthkbckkghnbonaaDoorJParseProgram6
import Derived.Test.YthkbckkghnbonaaDoorJParseProgram11
import Derived.Test.YthkbckkghnbonaaDoorJParseProgram4
import Derived.Test.YthkbckkghnbonaaDoorJParseProgram3
import Derived.Test.YthkbckkghnbonaaDoorJParseProgram1
import Derived.Test.YthkbckkghnbonaaDoorJParseProgram2
namespace Go.Proofs.YthkbckkghnbonaaDoor
open Go.RowKit
set_option linter.unusedVariables false
theorem heads_size (n : Nat) : (heads.getD n ⟨#[]⟩).size ≤ 8 := by
  rcases Nat.lt_or_ge n 8 with h | h
  · have : n = 0 ∨ n = 1 ∨ n = 2 ∨ n = 3 ∨ n = 4 ∨ n = 5 ∨ n = 6 ∨ n = 7 := by omega
    rcases this with rfl | rfl | rfl | rfl | rfl | rfl | rfl | rfl <;> decide
  · rw [List.getD_eq_getElem?_getD, List.getElem?_eq_none (by exact h)]
    exact Nat.zero_le _
theorem szS_leF {l : List ByteArray} {s : ByteArray} (h : s ∈ l) : s.size ≤ szS l := by
  obtain ⟨t, ht⟩ := List.mem_iff_getElem?.1 h
  exact szS_mem ht
theorem toks1_small {h : SH} {b : List Tk} {z : Nat} (hw : h.word.size ≤ z) (ha : szS h.args ≤ z) (hb : ∀ t ∈ b, t.s.size ≤ z + 8) : ∀ t ∈ toks1 h b, t.s.size ≤ z + 8 := by
  intro t ht
  unfold toks1 at ht
  simp only [List.mem_append] at ht
  rcases ht with ((ht | ht) | ht) | ht
  · simp only [List.mem_singleton] at ht
    subst ht
    show (headW h.k h.word).size ≤ z + 8
    unfold headW
    split
    · omega
    · have := heads_size h.k.toNat; omega
  · split at ht
    · simp only [List.mem_singleton] at ht
      subst ht
      show 1 ≤ z + 8
      omega
    · cases ht
  · obtain ⟨a, ha', rfl⟩ := List.mem_map.1 ht
    have := szS_leF ha'
    show a.size ≤ z + 8
    omega
  · split at ht
    · simp only [List.mem_singleton] at ht
      subst ht
      exact Nat.zero_le _
    · simp only [List.mem_append, List.mem_singleton] at ht
      rcases ht with (rfl | ht) | rfl
      · exact Nat.zero_le _
      · exact hb t ht
      · exact Nat.zero_le _
theorem toksT_small : ∀ (d : Nat) (l : List (Tr d)) (z : Nat), szT d l ≤ z → ∀ t ∈ toksT d l, t.s.size ≤ z + 8 := by
  intro d
  induction d with
  | zero => intro l z _ t ht; cases ht
  | succ d ih =>
    intro l z hz t ht
    have ht' : t ∈ l.flatMap fun s => toks1 (hdT s) (toksT d (bdT s)) := ht
    obtain ⟨s, hs, ht2⟩ := List.mem_flatMap.1 ht'
    obtain ⟨i, hi⟩ := List.mem_iff_getElem?.1 hs
    have hme := szT_mem hi
    rw [szT_succ] at hz
    unfold szE at hme
    exact toks1_small (by omega) (by omega) (ih (bdT s) z (by omega)) t ht2
theorem pTks_small {d : Nat} {qs : List ByteArray} {l : List (Tr d)} (h1 : szS qs ≤ 1048576) (h2 : szT d l ≤ 1048576) : ∀ t ∈ pTks d qs l, t.s.size ≤ 1099511627776 := by
  intro t ht
  unfold pTks stToks at ht
  split at ht
  · unfold pg1 at ht
    simp only [List.mem_append, List.mem_singleton] at ht
    rcases ht with ((rfl | ht) | rfl) | ht
    · show 6 ≤ _; omega
    · obtain ⟨a, ha, rfl⟩ := List.mem_map.1 ht
      have := szS_leF ha
      show a.size ≤ _
      omega
    · exact Nat.zero_le _
    · have := toksT_small d l 1048576 h2 t ht
      omega
  · cases ht
set_option maxRecDepth 100000 in
set_option maxHeartbeats 1000000 in
theorem FormatProgram_impl (d lo lo' : Nat) (Aq : Option Addr) (cq : Nat) (qs : List ByteArray) (l : List (Tr d)) (Ab : Option Addr) (nb cb : Nat) (w : World) (hra : RdL w lo 1 Aq qs.length (strs qs)) (hrb : RdT w lo' d Ab nb l) (hG : GN w) (hm : qs.length ≤ 1048576) (hz : szS qs ≤ 1048576) (hsz : szT d l ≤ 1048576) :
    Calls Tryd.prog 28 #[.agg #[.slice Aq qs.length cq, .slice Ab nb cb]] w fun e w' => e = .returned (.string (ftx (pTks d qs l))) ∧ Below w.heap.size w w' ∧ w.heap.size ≤ w'.heap.size := by
  have b0 : Below w.heap.size w (w.alloc (.cells #[.slice Aq qs.length cq, .slice Ab nb cb] 25)) := (by repeat (first | exact Below.refl _ _ | assumption | (refine Below.trans ?_ (Below.mono (by assumption) (by first | omega | (simp; done) | (simp; omega)))) | (with_reducible refine Below.drew ?_) | (with_reducible refine Below.alloc ?_ (by first | omega | (simp; done) | (simp; omega)) _) | (with_reducible refine Below.setCell ?_ (by first | omega | (simp; done) | (simp; omega)) _)))
  have HP := Lib.hid (ProgramTokens_impl d lo lo' Aq cq qs l Ab nb cb _ (hra.below b0) (hrb.below b0) (hG.below b0) hm hz hsz)
  have hl := pTks_len d qs l
  have hs := pTks_small (d := d) (qs := qs) (l := l) hz hsz
  obtain ⟨T, hT⟩ : ∃ T, T = pTks d qs l := ⟨_, rfl⟩
  rw [← hT] at HP hl hs ⊢
  have HS := Lib.hid hs
  clear hT hra hrb hG hs b0
  go_enter Tryd.func28, Tryd.ntmps28
  go_wp2_with fail
  refine HP.out.mono ?_
  rintro e w1 ⟨v1, rfl, o1, b1, s1⟩
  obtain ⟨A1, c1, rfl, _, _, r1⟩ := rd_of_own o1
  have hb1 : Below w.heap.size w w1 := ((Below.refl _ _).alloc (Nat.le_refl _) _).trans (b1.mono (by simp))
  have hs1 := hb1.size
  have R1 := Lib.hid r1
  clear o1 b1 s1 r1
  go_wp2_with fail
  refine (FormatTokens_impl _ _ _ T _ R1.out rfl (by omega) HS.out).mono ?_
  rintro e w2 ⟨rfl, b2, s2⟩
  go_wp2_with fail
  go_ret
  exact ⟨rfl, hb1.trans (b2.mono hs1), by omega⟩
set_option maxRecDepth 100000 in
set_option maxHeartbeats 1000000 in
theorem FormatProgram_spec (d lo lo' : Nat) (Aq : Option Addr) (cq : Nat) (qs : List ByteArray) (l : List (Tr d)) (Ab : Option Addr) (nb cb : Nat) (w : World) (hra : RdL w lo 1 Aq qs.length (strs qs)) (hrb : RdT w lo' d Ab nb l) (hm : qs.length ≤ 1048576) (hz : szS qs ≤ 1048576) (hsz : szT d l ≤ 1048576) :
    Calls Tryd.prog 26 #[.agg #[.slice Aq qs.length cq, .slice Ab nb cb]] w fun e w' => e = .returned (.string (ftx (pTks d qs l))) ∧ Below w.heap.size w w' ∧ w.heap.size ≤ w'.heap.size := by
  have b0 : Below w.heap.size w (w.alloc (.cells #[.slice Aq qs.length cq, .slice Ab nb cb] 25)) := (by repeat (first | exact Below.refl _ _ | assumption | (refine Below.trans ?_ (Below.mono (by assumption) (by first | omega | (simp; done) | (simp; omega)))) | (with_reducible refine Below.drew ?_) | (with_reducible refine Below.alloc ?_ (by first | omega | (simp; done) | (simp; omega)) _) | (with_reducible refine Below.setCell ?_ (by first | omega | (simp; done) | (simp; omega)) _)))
  have HP := Lib.hid (ProgramTokens_spec d lo lo' Aq cq qs l Ab nb cb _ (hra.below b0) (hrb.below b0) hm hz hsz)
  have hl := pTks_len d qs l
  have hs := pTks_small (d := d) (qs := qs) (l := l) hz hsz
  obtain ⟨T, hT⟩ : ∃ T, T = pTks d qs l := ⟨_, rfl⟩
  rw [← hT] at HP hl hs ⊢
  have HS := Lib.hid hs
  clear hT hra hrb hs b0
  go_enter Tryd.func26, Tryd.ntmps26
  go_wp2_with fail
  refine HP.out.mono ?_
  rintro e w1 ⟨v1, rfl, o1, b1, s1⟩
  obtain ⟨A1, c1, rfl, _, _, r1⟩ := rd_of_own o1
  have hb1 : Below w.heap.size w w1 := ((Below.refl _ _).alloc (Nat.le_refl _) _).trans (b1.mono (by simp))
  have hs1 := hb1.size
  have R1 := Lib.hid r1
  clear o1 b1 s1 r1
  go_wp2_with fail
  refine (FormatTokens_spec _ _ _ T _ R1.out rfl (by omega) HS.out).mono ?_
  rintro e w2 ⟨rfl, b2, s2⟩
  go_wp2_with fail
  go_ret
  exact ⟨rfl, hb1.trans (b2.mono hs1), by omega⟩
end Go.Proofs.YthkbckkghnbonaaDoor
namespace Go.Proofs.YthkbckkghnbonaaDoor
open Go.RowKit
set_option linter.unusedVariables false
theorem small8_of {T : List Tk} (h : ∀ t ∈ T, wellTk t) : Small8 T := fun t ht => by
  rcases h t ht with ⟨_, h⟩ | ⟨_, h⟩
  · exact (wordOk_size h).2
  · rw [h]; exact Nat.zero_le _
theorem szS_8 : ∀ l : List ByteArray, (∀ x ∈ l, x.size ≤ 8) → szS l ≤ 8 * l.length := by
  intro l
  induction l with
  | nil => intro _; exact Nat.zero_le _
  | cons x l ih =>
    intro h
    have h1 := h x (by simp)
    have h2 := ih (fun y hy => h y (by simp [hy]))
    rw [szS, List.length_cons]
    omega
/-- What is read of a text is small. -/
theorem parse_small (s : ByteArray) : (parseR (tkS s)).2.2.1.length ≤ 1048576 ∧ szS (parseR (tkS s)).2.2.1 ≤ 1048576 ∧ szT 5 (parseR (tkS s)).2.2.2 ≤ 1048576 := by
  cases ht : tkS s with
  | none => exact ⟨Nat.zero_le _, Nat.zero_le _, by show szT 5 [] ≤ _; rw [szT_nil]; omega⟩
  | some T =>
    obtain ⟨hw, hl⟩ := tkz_well _ _ _ _ (Nat.le_refl _) ht (by omega)
    have h8 := small8_of hw
    have hd := headR_ok h8 (by cases T; exact .inr rfl; exact .inl (by simp))
    have hb := bodyT_light h8 (headR T).1 hd.1
    unfold parseR
    simp only []
    split
    · have h2 := szS_8 _ hd.2.2
      have h3 := hd.2.1
      exact ⟨by show (headR T).2.length ≤ _; omega, by show szS (headR T).2 ≤ _; omega, by show szT 5 (bodyT T (headR T).1).2 ≤ _; omega⟩
    · exact ⟨Nat.zero_le _, Nat.zero_le _, by show szT 5 [] ≤ _; rw [szT_nil]; omega⟩
def nmzF (c : Int) (qs : List ByteArray) (l : List (Tr 5)) : ByteArray × Bool := if c = 0 ∧ progV 5 qs l = true then (ftx (pTks 5 qs l), true) else (⟨#[]⟩, false)
/-- A text, normalized. -/
def nmz (s : ByteArray) : ByteArray × Bool := nmzF (parseR (tkS s)).1 (parseR (tkS s)).2.2.1 (parseR (tkS s)).2.2.2
set_option maxRecDepth 100000 in
set_option maxHeartbeats 2000000 in
theorem NormalizeSource_spec (s : ByteArray) (w : World) (hs : s.size ≤ 1048576) : Calls Tryd.prog 10 #[.string s] w fun e w' => e = .returned (.tuple #[.string (nmz s).1, .bool (nmz s).2]) ∧ Below w.heap.size w w' := by
  obtain ⟨hz1, hz2, hz3⟩ := parse_small s
  have HP := ParseProgram_spec s w (by omega)
  have HM := Lib.hid (show nmz s = nmzF (parseR (tkS s)).1 (parseR (tkS s)).2.2.1 (parseR (tkS s)).2.2.2 from rfl)
  unfold RetPz at HP
  obtain ⟨c, hc⟩ : ∃ c, c = (parseR (tkS s)).1 := ⟨_, rfl⟩
  obtain ⟨i, hi⟩ : ∃ i, i = (parseR (tkS s)).2.1 := ⟨_, rfl⟩
  obtain ⟨qs, hq⟩ : ∃ qs, qs = (parseR (tkS s)).2.2.1 := ⟨_, rfl⟩
  obtain ⟨l, hl⟩ : ∃ l, l = (parseR (tkS s)).2.2.2 := ⟨_, rfl⟩
  rw [← hc, ← hq, ← hl] at HP HM
  rw [← hi] at HP
  rw [← hq] at hz1 hz2
  rw [← hl] at hz3
  have HP := Lib.hid HP
  clear hc hi hq hl
  go_enter Tryd.func10, Tryd.ntmps10
  go_wp2_with fail
  refine HP.out.mono ?_
  rintro e w1 ⟨Aq, nq, cq, Ab, nb, cb, m, rfl, hsl, htr, _, hm, b1⟩
  obtain rfl : nq = qs.length := by have := hsl.1; rw [strs_length] at this; omega
  have RA := Lib.hid hsl.rdq
  have RB := Lib.hid htr.rdt
  have B1 := Lib.hid b1
  
  clear hsl htr hm b1
  go_upto_region 2 with (fail)
  refine wp_name (fun w2 hw2 => ?_)
  have b2 : Below w1.heap.size w1 w2 := by rw [hw2]; exact below_alloc1
  have RA2 := Lib.hid (RA.out.below b2)
  have RB2 := Lib.hid (RB.out.below b2)
  
  have B2 := Lib.hid (B1.out.trans (b2.mono B1.out.size))
  have P2 : w2.heap[w1.heap.size]? = some (.cells #[.slice Aq qs.length cq, .slice Ab nb cb] 25 (0, 0)) := by rw [hw2]; exact heap_topG rfl
  obtain ⟨p0, p1⟩ := cells2 (lay := Below.refl _ _) P2
  have lP := lt_of_block P2
  have P2 := Lib.hid P2
  have hzz := B2.out.size
  clear hw2 b2
  by_cases hc0 : c = 0
  · subst hc0
    cases hv : progV 5 qs l
    · have HF : Hid (nmz s = (⟨#[]⟩, false)) := by show nmz s = _; rw [HM.out]; unfold nmzF; rw [hv]; rfl
      go_wp2_with (go_at_call 25; refine (IsValidProgram_spec 5 w.heap.size m Aq cq qs l Ab nb cb w2 RA2.out RB2.out (by omega) (by omega) (by omega)).mono ?_; rw [hv]; rintro e w3 ⟨rfl, b3, s3⟩)
      go_ret2
      exact ⟨by rw [HF.out]; rfl, B2.out.trans (b3.mono hzz)⟩
    · have HF : Hid (nmz s = (ftx (pTks 5 qs l), true)) := by show nmz s = _; rw [HM.out]; unfold nmzF; rw [hv]; rfl
      go_upto_region 4 with (go_at_call 25; refine (IsValidProgram_spec 5 w.heap.size m Aq cq qs l Ab nb cb w2 RA2.out RB2.out (by omega) (by omega) (by omega)).mono ?_; rw [hv]; rintro e w3 ⟨rfl, b3, s3⟩)
      obtain ⟨p0, p1⟩ := cells2 (lay := b3) P2.out
      go_wp2_with fail
      refine (FormatProgram_spec 5 w.heap.size m Aq cq qs l Ab nb cb w3 (RA2.out.below b3) (RB2.out.below b3) (by omega) (by omega) (by omega)).mono ?_
      rintro e w4 ⟨rfl, b4, s4⟩
      go_wp2_with fail
      go_ret2
      exact ⟨by rw [HF.out]; rfl, (B2.out.trans (b3.mono hzz)).trans (b4.mono (by omega))⟩
  · have d0 : (c == 0) = false := by simp [hc0]
    have HF : Hid (nmz s = (⟨#[]⟩, false)) := by show nmz s = _; rw [HM.out]; unfold nmzF; rw [if_neg (fun h => hc0 h.1)]
    go_wp2_with fail
    go_ret2
    exact ⟨by rw [HF.out]; rfl, B2.out⟩
set_option maxRecDepth 100000 in
set_option maxHeartbeats 2000000 in
theorem NormalizeSource_impl (s : ByteArray) (w : World) (hv : LVb w.heap.size w) (hs : s.size ≤ 1048576) : Calls Tryd.prog 11 #[.string s] w fun e w' => e = .returned (.tuple #[.string (nmz s).1, .bool (nmz s).2]) ∧ Below w.heap.size w w' := by
  obtain ⟨hz1, hz2, hz3⟩ := parse_small s
  have HP := ParseProgram_impl s w hv (by omega)
  have HM := Lib.hid (show nmz s = nmzF (parseR (tkS s)).1 (parseR (tkS s)).2.2.1 (parseR (tkS s)).2.2.2 from rfl)
  unfold RetPz at HP
  obtain ⟨c, hc⟩ : ∃ c, c = (parseR (tkS s)).1 := ⟨_, rfl⟩
  obtain ⟨i, hi⟩ : ∃ i, i = (parseR (tkS s)).2.1 := ⟨_, rfl⟩
  obtain ⟨qs, hq⟩ : ∃ qs, qs = (parseR (tkS s)).2.2.1 := ⟨_, rfl⟩
  obtain ⟨l, hl⟩ : ∃ l, l = (parseR (tkS s)).2.2.2 := ⟨_, rfl⟩
  rw [← hc, ← hq, ← hl] at HP HM
  rw [← hi] at HP
  rw [← hq] at hz1 hz2
  rw [← hl] at hz3
  have HP := Lib.hid HP
  have HV := Lib.hid hv
  clear hc hi hq hl hv
  go_enter Tryd.func11, Tryd.ntmps11
  go_wp2_with fail
  refine HP.out.mono ?_
  rintro e w1 ⟨Aq, nq, cq, Ab, nb, cb, m, rfl, hsl, htr, _, hm, b1⟩
  obtain rfl : nq = qs.length := by have := hsl.1; rw [strs_length] at this; omega
  have RA := Lib.hid hsl.rdq
  have RB := Lib.hid htr.rdt
  have B1 := Lib.hid b1
  have HV1 := Lib.hid (HV.out.below b1)
  clear hsl htr hm b1
  go_upto_region 2 with (fail)
  refine wp_name (fun w2 hw2 => ?_)
  have b2 : Below w1.heap.size w1 w2 := by rw [hw2]; exact below_alloc1
  have RA2 := Lib.hid (RA.out.below b2)
  have RB2 := Lib.hid (RB.out.below b2)
  have HV2 := Lib.hid (HV1.out.below (b2.mono HV1.out.le))
  have B2 := Lib.hid (B1.out.trans (b2.mono B1.out.size))
  have P2 : w2.heap[w1.heap.size]? = some (.cells #[.slice Aq qs.length cq, .slice Ab nb cb] 25 (0, 0)) := by rw [hw2]; exact heap_topG rfl
  obtain ⟨p0, p1⟩ := cells2 (lay := Below.refl _ _) P2
  have lP := lt_of_block P2
  have P2 := Lib.hid P2
  have hzz := B2.out.size
  clear hw2 b2
  by_cases hc0 : c = 0
  · subst hc0
    cases hv : progV 5 qs l
    · have HF : Hid (nmz s = (⟨#[]⟩, false)) := by show nmz s = _; rw [HM.out]; unfold nmzF; rw [hv]; rfl
      go_wp2_with (go_at_call 27; refine (IsValidProgram_impl 5 w.heap.size m Aq cq qs l Ab nb cb w2 RA2.out RB2.out (HV2.out.gn') (by omega) (by omega) (by omega)).mono ?_; rw [hv]; rintro e w3 ⟨rfl, b3, s3⟩)
      go_ret2
      exact ⟨by rw [HF.out]; rfl, B2.out.trans (b3.mono hzz)⟩
    · have HF : Hid (nmz s = (ftx (pTks 5 qs l), true)) := by show nmz s = _; rw [HM.out]; unfold nmzF; rw [hv]; rfl
      go_upto_region 4 with (go_at_call 27; refine (IsValidProgram_impl 5 w.heap.size m Aq cq qs l Ab nb cb w2 RA2.out RB2.out (HV2.out.gn') (by omega) (by omega) (by omega)).mono ?_; rw [hv]; rintro e w3 ⟨rfl, b3, s3⟩)
      obtain ⟨p0, p1⟩ := cells2 (lay := b3) P2.out
      go_wp2_with fail
      refine (FormatProgram_impl 5 w.heap.size m Aq cq qs l Ab nb cb w3 (RA2.out.below b3) (RB2.out.below b3) (HV2.out.gn'.below b3) (by omega) (by omega) (by omega)).mono ?_
      rintro e w4 ⟨rfl, b4, s4⟩
      go_wp2_with fail
      go_ret2
      exact ⟨by rw [HF.out]; rfl, (B2.out.trans (b3.mono hzz)).trans (b4.mono (by omega))⟩
  · have d0 : (c == 0) = false := by simp [hc0]
    have HF : Hid (nmz s = (⟨#[]⟩, false)) := by show nmz s = _; rw [HM.out]; unfold nmzF; rw [if_neg (fun h => hc0 h.1)]
    go_wp2_with fail
    go_ret2
    exact ⟨by rw [HF.out]; rfl, B2.out⟩
end Go.Proofs.YthkbckkghnbonaaDoor
namespace Go.Proofs.YthkbckkghnbonaaDoor
open Go.RowKit
set_option linter.unusedVariables false
theorem ElG.setAt {α : Type} {S : Nat → Nat → List Value → α → Prop} {o : Option Nat} {hi : Nat} :
    ∀ {css : List (List Value)} {l : List α} {lo : Nat}, ElG S o hi lo css l → ∀ {t : Nat} {s : α}, l[t]? = some s →
    ∃ m1 m2 c, css[t]? = some c ∧ (lo ≤ m1 ∧ m1 ≤ m2 ∧ m2 ≤ hi) ∧ (∀ k, o = some k → k < m1 ∨ m2 ≤ k) ∧ S m1 m2 c s ∧
      ∀ (S' : Nat → Nat → List Value → α → Prop) (c' : List Value) (s' : α), (∀ n1 n2 c s, lo ≤ n1 → n1 ≤ n2 → n2 ≤ hi → (n2 ≤ m1 ∨ m2 ≤ n1) → (∀ k, o = some k → k < n1 ∨ n2 ≤ k) → S n1 n2 c s → S' n1 n2 c s) → S' m1 m2 c' s' → ElG S' o hi lo (css.set t c') (l.set t s')
  | [], [], _, _, t, s, h => by simp at h
  | c :: cs, s :: l, lo, ⟨m1, m2, h1, h4, h5, h6⟩, 0, s0, h => by
    simp only [List.getElem?_cons_zero, Option.some.injEq] at h
    subst h
    refine ⟨m1, m2, c, rfl, h1, h4, h5, fun S' c' s' f g => ?_⟩
    exact ⟨m1, m2, h1, h4, g, ElG.mono (Nat.le_refl _) (Nat.le_refl _) h6 (fun n1 n2 c s a1 a2 a3 a4 a5 => ⟨f n1 n2 c s (by omega) a2 a3 (.inr a1) a4 a5, a4⟩)⟩
  | c :: cs, s :: l, lo, ⟨m1, m2, h1, h4, h5, h6⟩, t + 1, s0, h => by
    simp only [List.getElem?_cons_succ] at h
    obtain ⟨p1, p2, c0, e1, e2, e3, e4, e5⟩ := ElG.setAt h6 h
    refine ⟨p1, p2, c0, by simpa using e1, by omega, e3, e4, fun S' c' s' f g => ?_⟩
    exact ⟨m1, m2, h1, h4, f m1 m2 c s h1.1 h1.2.1 h1.2.2 (.inl e2.1) h4 h5, e5 S' c' s' (fun n1 n2 c s a1 a2 a3 a4 a5 a6 => f n1 n2 c s (by omega) a2 a3 a4 a5 a6) g⟩
  | [], _ :: _, _, h, _, _, _ => h.elim
  | _ :: _, [], _, h, _, _, _ => h.elim
theorem flat_len5 : ∀ (css : List (List Value)), (∀ c ∈ css, c.length = 5) → css.flatten.length = css.length * 5 := by
  intro css
  induction css with
  | nil => intro _; rfl
  | cons x css ih =>
    intro h
    rw [List.flatten_cons, List.length_append, h x (by simp), ih (fun c hc => h c (by simp [hc])), List.length_cons]
    omega
/-- One statement, open: what it is in memory; and what it may become. -/
theorem TrI.focus {w : World} {d lo hi n t : Nat} {A : Option Addr} {l : List (Tr (d + 1))} {s : Tr (d + 1)} (h : TrI w (d + 1) lo hi A n l) (ht : l[t]? = some s) :
    ∃ b off Aa ca Ab nb cb m1 c m2, A = some ⟨b, off, none⟩ ∧ (lo ≤ b ∧ b < hi ∧ b < w.heap.size) ∧ (lo ≤ m1 ∧ m1 ≤ c ∧ c ≤ m2 ∧ m2 ≤ hi ∧ (b < m1 ∨ m2 ≤ b)) ∧ SCells w b (off + t * 5) (hdT s) Aa ca Ab nb cb ∧ (∀ j, w.frozen? ⟨b, off + j, none⟩ = false) ∧
      SlI w m1 c 1 Aa (hdT s).args.length (strs (hdT s).args) ∧ TrI w d c m2 Ab nb (bdT s) ∧ (hdT s).args.length ≤ ca ∧
      ∀ (W : World) (s' : Tr (d + 1)), w.heap.size ≤ W.heap.size → (hdT s').args.length = (hdT s).args.length → (∀ x, x < w.heap.size → lo ≤ x → x < hi → x ≠ b → (x < m1 ∨ m2 ≤ x) → W.heap[x]? = w.heap[x]?) →
        (∀ j, (j < off + t * 5 ∨ off + t * 5 + 5 ≤ j) → W.cell? ⟨b, j, none⟩ = w.cell? ⟨b, j, none⟩) → (∀ j, W.frozen? ⟨b, off + j, none⟩ = false) → SCells W b (off + t * 5) (hdT s') Aa ca Ab nb cb →
        SlI W m1 c 1 Aa (hdT s').args.length (strs (hdT s').args) → TrI W d c m2 Ab nb (bdT s') → TrI W (d + 1) lo hi A n (l.set t s') := by
  have hlt : t < l.length := (List.getElem?_eq_some_iff.1 ht).1
  have hl : l.length = n := h.1
  obtain ⟨b, off, css, e, ⟨h1, h2, h3⟩, hc, hf, he⟩ := h.2 (by omega)
  have h5 := (ElG.len (fun _ _ _ _ h => StI.len (w := w) h) he).2
  obtain ⟨m1, m2, cs, hcs, ⟨g1, g2, g3⟩, gx, hS, hset⟩ := ElG.setAt (S := StI w d) he ht
  obtain ⟨Aa, ca, Ab, nb, cb, c, rfl, ⟨k2, k3⟩, k4, k5, k6⟩ := hS
  have f : ∀ j, j < 5 → ∀ u, (scl (hdT s) Aa ca Ab nb cb)[j]? = some u → w.cell? ⟨b, off + (t * 5 + j), none⟩ = some u := fun j hj u hu => hc _ _ ((flat5 (R := fun c => c.length = 5) (fun _ h => h) css h5 t j _ hcs hj).trans hu)
  refine ⟨b, off, Aa, ca, Ab, nb, cb, m1, c, m2, e, ⟨h1, h2, h3⟩, ⟨g1, k2, k3, g3, gx b rfl⟩, ⟨f 0 (by decide) _ rfl, ?_, ?_, ?_, ?_⟩, hf, k4, k5, k6, ?_⟩
  · have := f 1 (by decide) _ rfl; rwa [← Nat.add_assoc] at this
  · have := f 2 (by decide) _ rfl; rwa [← Nat.add_assoc] at this
  · have := f 3 (by decide) _ rfl; rwa [← Nat.add_assoc] at this
  · have := f 4 (by decide) _ rfl; rwa [← Nat.add_assoc] at this
  · intro W s' hs hn hb hcell hfr hsc hsl htr
    refine ⟨by rw [List.length_set]; exact hl, fun _ => ?_⟩
    have h5' : ∀ x ∈ css.set t (scl (hdT s') Aa ca Ab nb cb), x.length = 5 := fun x hx => by
      rcases List.mem_or_eq_of_mem_set hx with hx | rfl
      · exact h5 x hx
      · rfl
    have hlc : css.length = l.length := (ElG.len (fun _ _ _ _ h => StI.len (w := w) h) he).1
    refine ⟨b, off, css.set t (scl (hdT s') Aa ca Ab nb cb), e, ⟨h1, h2, Nat.lt_of_lt_of_le h3 hs⟩, fun j u hu => ?_, hfr, ?_⟩
    · have hlen : (css.set t (scl (hdT s') Aa ca Ab nb cb)).flatten.length = l.length * 5 := by
        rw [flat_len5 _ h5', List.length_set, hlc]
      have hj : j < l.length * 5 := by rw [← hlen]; exact (List.getElem?_eq_some_iff.1 hu).1
      have hj5 : j = (j / 5) * 5 + j % 5 := by omega
      have hq : j / 5 < l.length := by omega
      by_cases hjt : j / 5 = t
      · have e1 : (css.set t (scl (hdT s') Aa ca Ab nb cb))[t]? = some (scl (hdT s') Aa ca Ab nb cb) := by rw [List.getElem?_set_self (by omega)]
        have e2 := flat5 (R := fun c => c.length = 5) (fun _ h => h) _ h5' t (j % 5) _ e1 (Nat.mod_lt _ (by decide))
        rw [hj5, hjt] at hu
        rw [e2] at hu
        rw [hj5, hjt]
        obtain ⟨z0, z1, z2, z3, z4⟩ := hsc
        have hm : j % 5 = 0 ∨ j % 5 = 1 ∨ j % 5 = 2 ∨ j % 5 = 3 ∨ j % 5 = 4 := by omega
        rcases hm with hm | hm | hm | hm | hm <;> rw [hm] at hu ⊢
        · rw [Nat.add_zero, z0]; exact hu
        · rw [← Nat.add_assoc, z1]; exact hu
        · rw [← Nat.add_assoc, z2]; rw [show (hdT s).args.length = (hdT s').args.length from hn.symm] at *; exact hu
        · rw [← Nat.add_assoc, z3]; exact hu
        · rw [← Nat.add_assoc, z4]; exact hu
      · have hcq : j / 5 < css.length := by omega
        have e1 : (css.set t (scl (hdT s') Aa ca Ab nb cb))[j / 5]? = some css[j / 5] := by rw [List.getElem?_set_ne (fun e => hjt e.symm), List.getElem?_eq_getElem hcq]
        have e2 := flat5 (R := fun c => c.length = 5) (fun _ h => h) _ h5' (j / 5) (j % 5) _ e1 (Nat.mod_lt _ (by decide))
        have e3 := flat5 (R := fun c => c.length = 5) (fun _ h => h) css h5 (j / 5) (j % 5) _ (List.getElem?_eq_getElem hcq) (Nat.mod_lt _ (by decide))
        rw [hj5, e2, ← e3] at hu
        rw [hcell _ (by omega)]
        exact (by have := hc _ _ hu; rw [← hj5] at this; exact this)
    · refine hset (StI W d) _ s' (fun n1 n2 c s a1 a2 a3 a4 a5 a6 => a6.keep hs (fun x p1 p2 p3 => hb x p3 (by omega) (by omega) (fun e => ?_) (by omega))) ⟨Aa, ca, Ab, nb, cb, c, rfl, ⟨k2, k3⟩, hsl, htr, by omega⟩
      have := a5 b rfl
      omega
end Go.Proofs.YthkbckkghnbonaaDoor
namespace Go.Proofs.YthkbckkghnbonaaDoor
open Go.RowKit
set_option linter.unusedVariables false
def marksS (k : Int) (m : Nat) : List Value := (List.range m).map fun i : Nat => .string (mtx (k + i))
theorem marksS_succ (k : Int) (m : Nat) : marksS k (m + 1) = marksS k m ++ [.string (mtx (k + m))] := by simp [marksS, List.range_succ]
theorem marksS_len (k : Int) (m : Nat) : (marksS k m).length = m := by simp [marksS]
theorem marksS_at (k : Int) {m t : Nat} (h : t < m) : (marksS k m)[t]? = some (.string (mtx (k + t))) := by simp [marksS, h]
theorem below_undrew5 {w w' : World} (h : Below w.drew.heap.size w.drew w') : Below w.heap.size w w' := ⟨h.os, h.tape, h.output, h.size, h.block⟩
set_option maxRecDepth 100000 in
set_option maxHeartbeats 2000000 in
theorem heldStringS_any (A : Option Addr) (n c : Nat) (k : Int) (w : World) (h : Rd w 1 A n (marksS k n)) (hn : n ≤ 1099511627776) (hk0 : 1 ≤ k) (hk1 : k ≤ 1099511627776) :
    Calls Tryd.prog 23 #[.slice A n c, .int .i64 k] w fun e w' => e = .returned (.int .i64 (k + n)) ∧ Below w.heap.size w w' ∧ w.heap.size ≤ w'.heap.size := by
  have H := Lib.hid h
  clear h
  go_enter Tryd.func23, Tryd.ntmps23
  go_wp2
  go_loopw [1, 5] (fun kk i wr => ∃ t : Nat, t ≤ n ∧ i = .int .i64 t ∧ kk = .int .i64 (k + t) ∧ Below w.heap.size w wr) (fun _ i _ => n - (intOf i).toNat)
  case atStart => exact ⟨0, Nat.zero_le _, rfl, by simp, Below.refl _ _⟩
  case round =>
    obtain ⟨t, ht, rfl, rfl, hb⟩ := hrel
    have hbs := hb.size
    by_cases hlt : t < n
    · obtain ⟨b, off, rfl, hbl, hc⟩ := (H.out.below hb).2 (by omega)
      have q1 := hc _ _ (marksS_at k hlt)
      clear hc
      go_wp2_with fail
      go_region_held3 (fun W => W.cell? ⟨b, off + t, none⟩ = some (.string (mtx (k + t)))) (first | exact q1 | exact q1') (first | (go_at_call 44; (with_reducible refine (markText_any _ _ (by omega) (by omega)).mono ?_); rintro e w1 ⟨rfl, b1d, s1d⟩; have b1 := below_undrew5 b1d; have s1 := b1.size; have q1' := (b1.cell (p := ⟨b, off + t, none⟩) hbl).trans q1))
      go_wp2_with fail
      go_roundw
      case rel => exact ⟨t + 1, by omega, by go_num, by congr 1; omega, hb.trans (b1.mono hbs)⟩
      case measure => simp [intOf]; omega
    · obtain rfl : t = n := by omega
      go_wp2_with fail
      go_ret
      exact ⟨rfl, hb, hb.size⟩
end Go.Proofs.YthkbckkghnbonaaDoor
namespace Go.Proofs.YthkbckkghnbonaaDoor
open Go.RowKit
set_option linter.unusedVariables false
/-- What a marking leaves: all blocks but those of [lo, hi). -/
structure Kp (lo hi : Nat) (w w' : World) : Prop where
  os : w'.os = w.os
  tape : w'.tape = w.tape
  output : w'.output = w.output
  size : w.heap.size ≤ w'.heap.size
  far : ∀ k, k < w.heap.size → (k < lo ∨ hi ≤ k) → w'.heap[k]? = w.heap[k]?
theorem Kp.refl (lo hi : Nat) (w : World) : Kp lo hi w w := ⟨rfl, rfl, rfl, Nat.le_refl _, fun _ _ _ => rfl⟩
theorem Kp.trans {lo hi : Nat} {w w' w'' : World} (h : Kp lo hi w w') (k : Kp lo hi w' w'') : Kp lo hi w w'' :=
  ⟨k.os.trans h.os, k.tape.trans h.tape, k.output.trans h.output, Nat.le_trans h.size k.size, fun i hi' hf => (k.far i (Nat.lt_of_lt_of_le hi' h.size) hf).trans (h.far i hi' hf)⟩
theorem Kp.wide {lo hi lo' hi' : Nat} {w w' : World} (h : Kp lo hi w w') (hl : lo' ≤ lo) (hh : hi ≤ hi') : Kp lo' hi' w w' := ⟨h.os, h.tape, h.output, h.size, fun k hk hf => h.far k hk (by omega)⟩
theorem Kp.below {lo hi : Nat} {w w' : World} (h : Kp lo hi w w') (hl : lo ≤ w.heap.size) : Below lo w w' := ⟨h.os, h.tape, h.output, h.size, fun k hk => h.far k (by omega) (.inl hk)⟩
theorem Kp.of_below {lo hi : Nat} {w w' : World} (h : Below w.heap.size w w') : Kp lo hi w w' := ⟨h.os, h.tape, h.output, h.size, fun k hk _ => h.block k hk⟩
theorem Kp.of_gr {lo hi : Nat} {w w' : World} {row : Option Nat} (h : w.grownBy w' row) (hr : ∀ k, row = some k → lo ≤ k ∧ k < hi) : Kp lo hi w w' :=
  ⟨h.os, h.tape, h.output, h.size, fun k hk hf => h.block k hk (fun e => by have := hr k e.symm; omega)⟩
theorem Kp.set {lo hi b j : Nat} {w w' : World} (h : Kp lo hi w w') (hb : lo ≤ b ∧ b < hi) (u : Value) : Kp lo hi w (w'.setCell ⟨b, j, none⟩ u) := h.trans (Kp.of_gr (gr_set (W := w') (R := b) (j := j) u) (fun k hk => by injection hk with hk; omega))
/-- Behind some stores into the five cells at o of block b, and marks within [m1, m2). -/
structure Fc (b o m1 m2 : Nat) (wr W : World) : Prop where
  sz : wr.heap.size ≤ W.heap.size
  bl : ∀ x, x < wr.heap.size → x ≠ b → (x < m1 ∨ m2 ≤ x) → W.heap[x]? = wr.heap[x]?
  ce : ∀ j, (j < o ∨ o + 5 ≤ j) → W.cell? ⟨b, j, none⟩ = wr.cell? ⟨b, j, none⟩
  fr : ∀ j, W.frozen? ⟨b, j, none⟩ = wr.frozen? ⟨b, j, none⟩
theorem Fc.refl (b o m1 m2 : Nat) (w : World) : Fc b o m1 m2 w w := ⟨Nat.le_refl _, fun _ _ _ _ => rfl, fun _ _ => rfl, fun _ => rfl⟩
theorem Fc.set {b o m1 m2 i : Nat} {wr W : World} (h : Fc b o m1 m2 wr W) (hi : o ≤ i ∧ i < o + 5) (u : Value) : Fc b o m1 m2 wr (W.setCell ⟨b, i, none⟩ u) :=
  ⟨by rw [size_setCell]; exact h.sz, fun x hx hne hm => (Below.heap_setCell W ⟨b, i, none⟩ u x hne).trans (h.bl x hx hne hm), fun j hj => (World.cell?_setCell_other W _ _ u (fun e => by injection e with e1 e2; omega)).trans (h.ce j hj), fun j => (World.frozen?_setCell _ _ _ _).trans (h.fr j)⟩
theorem Fc.kp {b o m1 m2 p q : Nat} {wr W W' : World} (h : Fc b o m1 m2 wr W) (hk : Kp p q W W') (hp : m1 ≤ p) (hq : q ≤ m2) (hb : b < wr.heap.size) (hbo : b < p ∨ q ≤ b) : Fc b o m1 m2 wr W' := by
  have e := hk.far b (Nat.lt_of_lt_of_le hb h.sz) hbo
  exact ⟨Nat.le_trans h.sz hk.size, fun x hx hne hm => (hk.far x (Nat.lt_of_lt_of_le hx h.sz) (by omega)).trans (h.bl x hx hne hm), fun j hj => (cell_same e j).trans (h.ce j hj), fun j => by rw [← h.fr j]; simp [World.frozen?, e]⟩
theorem SlI.setStr {w : World} {lo hi n t b off : Nat} {A : Option Addr} {xs : List Value} {u v : Value} (h : SlI w lo hi 1 A n xs) (hA : A = some ⟨b, off, none⟩) (ht : t < n) (hv : w.cell? ⟨b, off + t, none⟩ = some v) : SlI (w.setCell ⟨b, off + t, none⟩ u) lo hi 1 A n (xs.set t u) := by
  refine ⟨by rw [List.length_set]; exact h.1, fun h0 => ?_⟩
  obtain ⟨b', off', e, ⟨h1, h2, h3⟩, hc, hf⟩ := h.2 h0
  subst hA
  injection e with e
  injection e with e1 e2
  subst e1 e2
  refine ⟨b, off, rfl, ⟨h1, h2, by rw [size_setCell]; exact h3⟩, fun j x hx => ?_, fun j => (World.frozen?_setCell _ _ _ _).trans (hf j)⟩
  by_cases hj : j = t
  · subst hj
    have hl : j < xs.length := by rw [h.1]; omega
    rw [List.getElem?_set_self hl] at hx
    injection hx with hx
    subst hx
    exact World.cell?_setCell_same w _ u hv
  · rw [List.getElem?_set_ne (fun e => hj e.symm)] at hx
    exact (World.cell?_setCell_other w _ _ u (fun e => hj (by injection e with e1 e2; omega))).trans (hc j x hx)
set_option maxRecDepth 100000 in
set_option maxHeartbeats 2000000 in
theorem markStringS_sl (lo hi : Nat) (A : Option Addr) (n c : Nat) (xs : List Value) (k : Int) (w : World) (h : SlI w lo hi 1 A n xs) (hh : hi ≤ w.heap.size) (hn : n ≤ 1099511627776) (hk0 : 1 ≤ k) (hk1 : k ≤ 1099511627776) :
    Calls Tryd.prog 21 #[.slice A n c, .int .i64 k] w fun e w' => e = .returned (.int .i64 (k + n)) ∧ SlI w' lo hi 1 A n (marksS k n) ∧ Kp lo hi w w' := by
  have hxl := h.1
  rw [Nat.mul_one] at hxl
  have H := Lib.hid h
  have HX := Lib.hid hxl
  clear h hxl
  go_enter Tryd.func21, Tryd.ntmps21
  go_wp2
  go_loopw [1, 5] (fun kk i wr => ∃ t : Nat, t ≤ n ∧ i = .int .i64 t ∧ kk = .int .i64 (k + t) ∧ Hid (SlI wr lo hi 1 A n (marksS k t ++ xs.drop t)) ∧ Hid (Kp lo hi w wr)) (fun _ i _ => n - (intOf i).toNat)
  case atStart => exact ⟨0, Nat.zero_le _, rfl, by simp, by simpa [marksS] using H, Kp.refl _ _ _⟩
  case round =>
    obtain ⟨t, ht, rfl, rfl, hsl, hgr⟩ := hrel
    by_cases hlt : t < n
    · obtain ⟨b, off, rfl, ⟨h1, h2, h3⟩, hc, hf⟩ := hsl.out.2 (by omega)
      go_wp2_with fail
      refine (markText_any _ _ (by omega) (by omega)).mono ?_
      rintro e w2 ⟨rfl, b2, s2⟩
      have sl2 := hsl.out.keep (w' := w2) (fun b _ _ h => b2.block b h) b2.size
      obtain ⟨u, hu⟩ : ∃ u, (marksS k t ++ xs.drop t)[t]? = some u := ⟨_, List.getElem?_eq_getElem (by rw [List.length_append, marksS_len, List.length_drop, HX.out]; omega)⟩
      have q1 : w2.cell? ⟨b, off + t, none⟩ = some u := (b2.cell (p := ⟨b, off + t, none⟩) h3).trans (hc t u hu)
      have f1 : w2.frozen? ⟨b, off + t, none⟩ = false := (b2.frozen (p := ⟨b, off + t, none⟩) h3).trans (hf t)
      have hb2 : b < w2.heap.size := Nat.lt_of_lt_of_le h3 b2.size
      have sl3 := sl2.setStr (u := .string (mtx (k + t))) rfl hlt q1
      rw [fill_step (marksS_len k t) (by rw [HX.out]; omega), ← marksS_succ] at sl3
      have SL3 := Lib.hid sl3
      have G3 := Lib.hid ((hgr.out.trans (Kp.of_below b2)).set (j := off + t) ⟨h1, h2⟩ (.string (mtx (k + t))))
      clear sl2 sl3 hc hf hu b2 s2
      go_wp2_with fail
      go_roundw
      case rel => exact ⟨t + 1, by omega, by go_num, by congr 1; omega, SL3.out, G3.out⟩
      case measure => simp [intOf]; omega
    · obtain rfl : t = n := by omega
      have HF : Hid (marksS k t ++ xs.drop t = marksS k t) := by show _ = _; rw [List.drop_of_length_le (by rw [HX.out]; exact Nat.le_refl _), List.append_nil]
      go_wp2
      go_ret
      exact ⟨rfl, by rw [← HF.out]; exact hsl.out, hgr.out⟩
end Go.Proofs.YthkbckkghnbonaaDoor
namespace Go.Proofs.YthkbckkghnbonaaDoor
open Go.RowKit
set_option linter.unusedVariables false
/-- No block from lo on is frozen. -/
def NF (lo : Nat) (w : World) : Prop := ∀ b o, lo ≤ b → b < w.heap.size → w.frozen? ⟨b, o, none⟩ = false
theorem NF.refl (w : World) : NF w.heap.size w := fun _ _ h h' => absurd h' (by omega)
theorem NF.trans {lo : Nat} {w w' : World} (h : NF lo w) (hb : Below w.heap.size w w') (h' : NF w.heap.size w') : NF lo w' := fun b o h1 h2 => by
  rcases Nat.lt_or_ge b w.heap.size with hl | hl
  · rw [hb.frozen (p := ⟨b, o, none⟩) hl]
    exact h b o h1 hl
  · exact h' b o hl h2
theorem NF.setCell {lo : Nat} {w : World} (h : NF lo w) (p : Addr) (u : Value) : NF lo (w.setCell p u) := fun b o h1 h2 => by
  have h3 := h b o h1 (by simpa [World.setCell] using h2)
  simpa using h3
theorem NF.alloc {lo : Nat} {w : World} (h : NF lo w) (cs : Array Value) (t : TypeId) : NF lo (w.alloc (.cells cs t)) := fun b o h1 h2 => by
  rcases Nat.lt_or_ge b w.heap.size with hl | hl
  · rw [World.frozen?_of_block (w := w) (Below.heap_alloc w _ b hl)]
    exact h b o h1 hl
  · have e : b = w.heap.size := by
      simp at h2
      omega
    subst e
    exact World.frozen?_alloc_new w cs t o
end Go.Proofs.YthkbckkghnbonaaDoor
namespace Go.Proofs.YthkbckkghnbonaaDoor
open Go.RowKit
set_option linter.unusedVariables false
/-- Of the blocks that were there only those from lo on and below hi have turned; there slices stay, strings stay strings, numbers stay numbers. -/
structure Mk (lo hi : Nat) (w w' : World) : Prop where
  os : w'.os = w.os
  tape : w'.tape = w.tape
  output : w'.output = w.output
  size : w.heap.size ≤ w'.heap.size
  far : ∀ k, k < w.heap.size → (k < lo ∨ hi ≤ k) → w'.heap[k]? = w.heap[k]?
  sl : ∀ b o A n c, b < hi → w.cell? ⟨b, o, none⟩ = some (.slice A n c) → w'.cell? ⟨b, o, none⟩ = some (.slice A n c)
  st : ∀ b o s, b < hi → w.cell? ⟨b, o, none⟩ = some (.string s) → ∃ s', w'.cell? ⟨b, o, none⟩ = some (.string s')
  it : ∀ b o x, b < hi → w.cell? ⟨b, o, none⟩ = some (.int .i64 x) → ∃ x', w'.cell? ⟨b, o, none⟩ = some (.int .i64 x')
  fr : ∀ b o, b < hi → w.frozen? ⟨b, o, none⟩ = false → w'.frozen? ⟨b, o, none⟩ = false
section
variable {lo hi : Nat} {w w' w'' : World}
theorem Mk.refl (lo hi : Nat) (w : World) : Mk lo hi w w := ⟨rfl, rfl, rfl, Nat.le_refl _, fun _ _ _ => rfl, fun _ _ _ _ _ _ h => h, fun _ _ _ _ h => ⟨_, h⟩, fun _ _ _ _ h => ⟨_, h⟩, fun _ _ _ h => h⟩
theorem Mk.trans (h : Mk lo hi w w') (k : Mk lo hi w' w'') : Mk lo hi w w'' :=
  ⟨k.os.trans h.os, k.tape.trans h.tape, k.output.trans h.output, Nat.le_trans h.size k.size, fun i hi' hf => (k.far i (Nat.lt_of_lt_of_le hi' h.size) hf).trans (h.far i hi' hf),
   fun b o A n c hb e => k.sl b o A n c hb (h.sl b o A n c hb e), fun b o s hb e => by obtain ⟨s', e'⟩ := h.st b o s hb e; exact k.st b o s' hb e',
   fun b o x hb e => by obtain ⟨x', e'⟩ := h.it b o x hb e; exact k.it b o x' hb e', fun b o hb e => k.fr b o hb (h.fr b o hb e)⟩
theorem Mk.of_below (hb : Below w.heap.size w w') (hh : hi ≤ w.heap.size) : Mk lo hi w w' :=
  ⟨hb.os, hb.tape, hb.output, hb.size, fun k hk _ => hb.block k hk, fun b o A n c h e => (hb.cell (p := ⟨b, o, none⟩) (Nat.lt_of_lt_of_le h hh)).trans e,
   fun b o s h e => ⟨s, (hb.cell (p := ⟨b, o, none⟩) (Nat.lt_of_lt_of_le h hh)).trans e⟩, fun b o x h e => ⟨x, (hb.cell (p := ⟨b, o, none⟩) (Nat.lt_of_lt_of_le h hh)).trans e⟩,
   fun b o h e => (hb.frozen (p := ⟨b, o, none⟩) (Nat.lt_of_lt_of_le h hh)).trans e⟩
theorem mk_far {b : Nat} (hb : lo ≤ b ∧ b < hi) (o : Nat) (u : Value) : ∀ k, k < w.heap.size → (k < lo ∨ hi ≤ k) → (w.setCell ⟨b, o, none⟩ u).heap[k]? = w.heap[k]? :=
  fun k _ hf => Below.heap_setCell w ⟨b, o, none⟩ u k (fun e => by have e' : k = b := e; omega)
theorem mk_size {b o : Nat} {u : Value} : w.heap.size ≤ (w.setCell ⟨b, o, none⟩ u).heap.size := by rw [size_setCell]; exact Nat.le_refl _
theorem mk_cell {b o b' o' : Nat} {u v x : Value} (hc : w.cell? ⟨b, o, none⟩ = some v) (h : w.cell? ⟨b', o', none⟩ = some x) : (w.setCell ⟨b, o, none⟩ u).cell? ⟨b', o', none⟩ = some x ∨ (x = v ∧ (w.setCell ⟨b, o, none⟩ u).cell? ⟨b', o', none⟩ = some u) := by
  by_cases e : (⟨b, o, none⟩ : Addr) = ⟨b', o', none⟩
  · rw [← e] at h ⊢
    exact .inr ⟨Option.some.inj (h.symm.trans hc), World.cell?_setCell_same w _ u hc⟩
  · exact .inl ((World.cell?_setCell_other w _ _ u e).trans h)
theorem Mk.int {b o : Nat} {s : Int} (hb : lo ≤ b ∧ b < hi) (hc : w.cell? ⟨b, o, none⟩ = some (.int .i64 s)) (u : Int) : Mk lo hi w (w.setCell ⟨b, o, none⟩ (.int .i64 u)) := by
  refine ⟨rfl, rfl, rfl, mk_size, mk_far hb o _, fun b' o' A n c _ e => ?_, fun b' o' s' _ e => ?_, fun b' o' x _ e => ?_, fun b' o' _ e => by simpa using e⟩
  · rcases mk_cell (u := .int .i64 u) hc e with h | ⟨h, _⟩
    · exact h
    · cases h
  · rcases mk_cell (u := .int .i64 u) hc e with h | ⟨h, _⟩
    · exact ⟨_, h⟩
    · cases h
  · rcases mk_cell (u := .int .i64 u) hc e with h | ⟨_, h⟩ <;> exact ⟨_, h⟩
theorem Mk.below (h : Mk lo hi w w') (hl : lo ≤ w.heap.size) : Below lo w w' := ⟨h.os, h.tape, h.output, h.size, fun k hk => h.far k (by omega) (.inl hk)⟩
end
/-- A slice of strings that may be written, its block from lo on and below hi. -/
def WS (w : World) (lo hi : Nat) (A : Option Addr) (n : Nat) : Prop :=
  0 < n → ∃ b off, A = some ⟨b, off, none⟩ ∧ (lo ≤ b ∧ b < hi) ∧ ∀ i, i < n → (∃ s, w.cell? ⟨b, off + i, none⟩ = some (.string s)) ∧ w.frozen? ⟨b, off + i, none⟩ = false
/-- Statements that may be written; of the list l the lengths alone are said. -/
def WT (w : World) (lo hi : Nat) : (d : Nat) → Option Addr → Nat → List (Tr d) → Prop
  | 0, _, n, l => l.length = n ∧ n = 0
  | d + 1, A, n, l => l.length = n ∧ (0 < n → ∃ b off, A = some ⟨b, off, none⟩ ∧ (lo ≤ b ∧ b < hi) ∧ ∀ (i : Nat) (s : Tr (d + 1)), l[i]? = some s →
      ∃ k word Aa ca ct Ab nb cb, (w.cell? ⟨b, off + i * 5, none⟩ = some (.int .i64 k) ∧ w.cell? ⟨b, off + i * 5 + 1, none⟩ = some (.string word) ∧ w.cell? ⟨b, off + i * 5 + 2, none⟩ = some (.slice Aa (hdT s).args.length ca) ∧
        w.cell? ⟨b, off + i * 5 + 3, none⟩ = some (.int .i64 ct) ∧ w.cell? ⟨b, off + i * 5 + 4, none⟩ = some (.slice Ab nb cb)) ∧
        (w.frozen? ⟨b, off + i * 5, none⟩ = false ∧ w.frozen? ⟨b, off + i * 5 + 1, none⟩ = false ∧ w.frozen? ⟨b, off + i * 5 + 3, none⟩ = false) ∧ WS w lo hi Aa (hdT s).args.length ∧ WT w lo hi d Ab nb (bdT s))
theorem WT.len {lo hi : Nat} {w : World} : ∀ {d n : Nat} {A : Option Addr} {l : List (Tr d)}, WT w lo hi d A n l → l.length = n
  | 0, _, _, _, h => h.1
  | _ + 1, _, _, _, h => h.1
/-- How many marks a list of statements takes. -/
def kT : (d : Nat) → List (Tr d) → Nat
  | 0, _ => 0
  | d + 1, l => (l.map fun (s : Tr (d + 1)) => 3 + (hdT s).args.length + kT d (bdT s)).sum
def kE {d : Nat} (s : Tr (d + 1)) : Nat := 3 + (hdT s).args.length + kT d (bdT s)
theorem kT_take {d : Nat} (l : List (Tr (d + 1))) (t : Nat) (s : Tr (d + 1)) (h : l[t]? = some s) : kT (d + 1) (l.take (t + 1)) = kT (d + 1) (l.take t) + kE s := by
  rw [List.take_add_one, h]
  simp [kT, kE]
theorem kT_take_le {d : Nat} (l : List (Tr (d + 1))) (t : Nat) : kT (d + 1) (l.take t) ≤ kT (d + 1) l := by
  have h : kT (d + 1) l = kT (d + 1) (l.take t) + kT (d + 1) (l.drop t) := by
    simp only [kT]
    rw [← List.sum_append, ← List.map_append, List.take_append_drop]
  omega
theorem kT_le : ∀ (d : Nat) (l : List (Tr d)), kT d l ≤ 3 * szT d l := by
  intro d
  induction d with
  | zero => intro l; exact Nat.zero_le _
  | succ d ih =>
    intro l
    rw [szT_succ]
    unfold sumE
    simp only [kT]
    induction l with
    | nil => simp
    | cons s l ih2 =>
      have h1 := ih (bdT s)
      simp only [List.map_cons, List.sum_cons, List.length_cons]
      have h2 : szE s = (hdT s).word.size + ((hdT s).args.length + szS (hdT s).args + szT d (bdT s)) := rfl
      omega
end Go.Proofs.YthkbckkghnbonaaDoor
namespace Go.Proofs.YthkbckkghnbonaaDoor
open Go.RowKit
set_option linter.unusedVariables false
def mkW (k : Int) (n : Nat) : List ByteArray := (List.range n).map fun i : Nat => mtx (k + i)
theorem mkW_len (k : Int) (n : Nat) : (mkW k n).length = n := by simp [mkW]
theorem strs_mkW (k : Int) (n : Nat) : strs (mkW k n) = marksS k n := by simp [strs, mkW, marksS]
/-- A marked statement. -/
def mkE {d : Nat} (g : Int → List (Tr d) → List (Tr d)) (k : Int) (s : Tr (d + 1)) : Tr (d + 1) := mkT ⟨k, mtx (k + 1), mkW (k + 2) (hdT s).args.length, k + 2 + (hdT s).args.length⟩ (g (k + 3 + (hdT s).args.length) (bdT s))
def mkL {d : Nat} (g : Int → List (Tr d) → List (Tr d)) : Int → List (Tr (d + 1)) → List (Tr (d + 1))
  | _, [] => []
  | k, s :: l => mkE g k s :: mkL g (k + kE s) l
def mkd : (d : Nat) → Int → List (Tr d) → List (Tr d)
  | 0 => fun _ l => l
  | d + 1 => mkL (mkd d)
theorem mkL_len {d : Nat} (g : Int → List (Tr d) → List (Tr d)) : ∀ (l : List (Tr (d + 1))) (k : Int), (mkL g k l).length = l.length := by
  intro l
  induction l with
  | nil => intro k; rfl
  | cons s l ih => intro k; show (mkL g _ l).length + 1 = _; rw [ih]; rfl
theorem kT_cons {d : Nat} (s : Tr (d + 1)) (l : List (Tr (d + 1))) : kT (d + 1) (s :: l) = kE s + kT (d + 1) l := by simp [kT, kE]
/-- One statement more. -/
theorem mkL_step {d : Nat} (g : Int → List (Tr d) → List (Tr d)) : ∀ (l : List (Tr (d + 1))) (k : Int) (t : Nat) (s : Tr (d + 1)), l[t]? = some s → (mkL g k (l.take t) ++ l.drop t).set t (mkE g (k + kT (d + 1) (l.take t)) s) = mkL g k (l.take (t + 1)) ++ l.drop (t + 1) := by
  intro l
  induction l with
  | nil => intro k t s h; simp at h
  | cons x l ih =>
    intro k t s h
    cases t with
    | zero =>
      simp only [List.getElem?_cons_zero, Option.some.injEq] at h
      subst h
      show mkE g (k + ((kT (d + 1) [] : Nat) : Int)) x :: l = _
      have : ((kT (d + 1) ([] : List (Tr (d + 1))) : Nat) : Int) = 0 := by simp [kT]
      rw [this, Int.add_zero]
      rfl
    | succ t =>
      simp only [List.getElem?_cons_succ] at h
      have := ih (k + kE x) t s h
      show mkE g k x :: (mkL g (k + kE x) (l.take t) ++ l.drop t).set t (mkE g (k + ((kT (d + 1) (x :: l.take t) : Nat) : Int)) s) = mkE g k x :: (mkL g (k + kE x) (l.take (t + 1)) ++ l.drop (t + 1))
      rw [kT_cons, ← this]
      congr 3
      omega
theorem mkL_at {d : Nat} (g : Int → List (Tr d) → List (Tr d)) {l : List (Tr (d + 1))} {k : Int} {t : Nat} {s : Tr (d + 1)} (h : l[t]? = some s) : (mkL g k (l.take t) ++ l.drop t)[t]? = some s := by
  have hl := (List.getElem?_eq_some_iff.1 h).1
  have h1 : (mkL g k (l.take t)).length = t := by rw [mkL_len, List.length_take]; omega
  rw [List.getElem?_append_right (by omega), h1, Nat.sub_self, List.getElem?_drop]
  simpa using h
end Go.Proofs.YthkbckkghnbonaaDoor
namespace Go.Proofs.YthkbckkghnbonaaDoor
open Go.RowKit
set_option linter.unusedVariables false
/-- The five cells at o of block b. -/
def S5 (W : World) (b o : Nat) (x0 x1 x2 x3 x4 : Value) : Prop := W.cell? ⟨b, o, none⟩ = some x0 ∧ W.cell? ⟨b, o + 1, none⟩ = some x1 ∧ W.cell? ⟨b, o + 2, none⟩ = some x2 ∧ W.cell? ⟨b, o + 3, none⟩ = some x3 ∧ W.cell? ⟨b, o + 4, none⟩ = some x4
theorem S5.kp {W W' : World} {b o : Nat} {x0 x1 x2 x3 x4 : Value} (h : S5 W b o x0 x1 x2 x3 x4) (e : W'.heap[b]? = W.heap[b]?) : S5 W' b o x0 x1 x2 x3 x4 :=
  ⟨(cell_same e _).trans h.1, (cell_same e _).trans h.2.1, (cell_same e _).trans h.2.2.1, (cell_same e _).trans h.2.2.2.1, (cell_same e _).trans h.2.2.2.2⟩
theorem cset_ne {W : World} {b i j : Nat} (u : Value) (h : i ≠ j) : (W.setCell ⟨b, i, none⟩ u).cell? ⟨b, j, none⟩ = W.cell? ⟨b, j, none⟩ := World.cell?_setCell_other W _ _ u (fun e => h (by injection e))
theorem S5.set0 {W : World} {b o : Nat} {x0 x1 x2 x3 x4 : Value} (h : S5 W b o x0 x1 x2 x3 x4) (u : Value) : S5 (W.setCell ⟨b, o, none⟩ u) b o u x1 x2 x3 x4 :=
  ⟨World.cell?_setCell_same W _ u h.1, (cset_ne u (by omega)).trans h.2.1, (cset_ne u (by omega)).trans h.2.2.1, (cset_ne u (by omega)).trans h.2.2.2.1, (cset_ne u (by omega)).trans h.2.2.2.2⟩
theorem S5.set1 {W : World} {b o : Nat} {x0 x1 x2 x3 x4 : Value} (h : S5 W b o x0 x1 x2 x3 x4) (u : Value) : S5 (W.setCell ⟨b, o + 1, none⟩ u) b o x0 u x2 x3 x4 :=
  ⟨(cset_ne u (by omega)).trans h.1, World.cell?_setCell_same W _ u h.2.1, (cset_ne u (by omega)).trans h.2.2.1, (cset_ne u (by omega)).trans h.2.2.2.1, (cset_ne u (by omega)).trans h.2.2.2.2⟩
theorem S5.set3 {W : World} {b o : Nat} {x0 x1 x2 x3 x4 : Value} (h : S5 W b o x0 x1 x2 x3 x4) (u : Value) : S5 (W.setCell ⟨b, o + 3, none⟩ u) b o x0 x1 x2 u x4 :=
  ⟨(cset_ne u (by omega)).trans h.1, (cset_ne u (by omega)).trans h.2.1, (cset_ne u (by omega)).trans h.2.2.1, World.cell?_setCell_same W _ u h.2.2.2.1, (cset_ne u (by omega)).trans h.2.2.2.2⟩
theorem Fc.sl {b o m p q n : Nat} {wr W : World} {A : Option Addr} {xs : List Value} (h : Fc b o m m wr W) (hs : SlI wr p q 1 A n xs) (hb : b < p ∨ q ≤ b) : SlI W p q 1 A n xs := hs.keep (fun x h1 h2 h3 => h.bl x h3 (by omega) (by omega)) h.sz
theorem Fc.tr {b o m p q n d : Nat} {wr W : World} {A : Option Addr} {l : List (Tr d)} (h : Fc b o m m wr W) (hs : TrI wr d p q A n l) (hb : b < p ∨ q ≤ b) : TrI W d p q A n l := TrI.keep h.sz hs (fun x h1 h2 h3 => h.bl x h3 (by omega) (by omega))
theorem Fc.wide {b o m1 m2 n1 n2 : Nat} {wr W : World} (h : Fc b o m1 m2 wr W) (h1 : n1 ≤ m1) (h2 : m2 ≤ n2) : Fc b o n1 n2 wr W := ⟨h.sz, fun x hx hne hm => h.bl x hx hne (by omega), h.ce, h.fr⟩
theorem Fc.point {b o m n1 n2 : Nat} {wr W : World} (h : Fc b o m m wr W) : Fc b o n1 n2 wr W := ⟨h.sz, fun x hx hne hm => h.bl x hx hne (by omega), h.ce, h.fr⟩
def MtSaid (d : Nat) : Prop := ∀ (lo hi : Nat) (A : Option Addr) (n c : Nat) (l : List (Tr d)) (k : Int) (w : World), TrI w d lo hi A n l → hi ≤ w.heap.size → szT d l ≤ 1048576 → 1 ≤ k → k + kT d l ≤ 1099511627776 →
  Calls Tryd.prog 22 #[.slice A n c, .int .i64 k] w fun e w' => e = .returned (.int .i64 (k + kT d l)) ∧ TrI w' d lo hi A n (mkd d k l) ∧ Kp lo hi w w'
set_option maxRecDepth 100000 in
set_option maxHeartbeats 4000000 in
theorem markStmtS_tri : ∀ (d : Nat), MtSaid d := by
  intro d
  induction d with
  | zero =>
    intro lo hi A n c l k w h _ _ _ _
    obtain rfl : n = 0 := h.2
    go_enter Tryd.func22, Tryd.ntmps22
    go_wp2
    refine wp_loop_rounds 1 ?_
    rw [rounds_succ]
    go_wp2
    go_ret
    exact ⟨by simp [kT], h, Kp.refl _ _ _⟩
  | succ d ih =>
    intro lo hi A n c l k w h hh hsz hk0 hk1
    have hl := h.len
    have hn : n ≤ 1048576 := by rw [szT_succ] at hsz; omega
    have H := Lib.hid h
    have HL := Lib.hid hl
    have HSZ := Lib.hid hsz
    obtain ⟨Z, hZ⟩ : ∃ Z, Z = kT (d + 1) l := ⟨_, rfl⟩
    have HZ := Lib.hid hZ
    rw [← hZ] at hk1 ⊢
    clear h hl hsz hZ
    go_enter Tryd.func22, Tryd.ntmps22
    go_wp2
    go_loopw [1, 5] (fun kk i wr => ∃ t : Nat, t ≤ n ∧ i = .int .i64 t ∧ kk = .int .i64 (k + kT (d + 1) (l.take t)) ∧ Hid (TrI wr (d + 1) lo hi A n (mkL (mkd d) k (l.take t) ++ l.drop t)) ∧ Hid (Kp lo hi w wr)) (fun _ i _ => n - (intOf i).toNat)
    case atStart => exact ⟨0, Nat.zero_le _, rfl, by simp [kT], H.out, Kp.refl _ _ _⟩
    case round =>
      obtain ⟨t, ht, rfl, rfl, htr, hkp⟩ := hrel
      have hms := hkp.out.size
      by_cases hlt : t < n
      · obtain ⟨s, hs⟩ : ∃ s, l[t]? = some s := ⟨_, List.getElem?_eq_getElem (by have := HL.out; omega)⟩
        obtain ⟨b, off, Aa, ca, Ab, nb, cb, m1, cc, m2, rfl, ⟨hb1, hb2, hb3⟩, ⟨i1, i2, i3, i4, i5⟩, ⟨q0, q1, q2, q3, q4⟩, hf, hsl, hbd, hca, hset⟩ := htr.out.focus (mkL_at (mkd d) (k := k) hs)
        have HSET := Lib.hid hset
        have hke := kT_take l t s hs
        have hkl := kT_take_le l (t + 1)
        have hzm := szT_mem hs
        have hsz := HSZ.out
        rw [szT_succ] at hsz
        rw [← HZ.out] at hkl
        have HST := Lib.hid (mkL_step (mkd d) l k t s hs)
        obtain ⟨K0, hK0⟩ : ∃ K0, K0 = kT (d + 1) (l.take t) := ⟨_, rfl⟩
        rw [← hK0] at hke HST ⊢
        obtain ⟨na, hna⟩ : ∃ na, na = (hdT s).args.length := ⟨_, rfl⟩
        obtain ⟨kb, hkb⟩ : ∃ kb, kb = kT d (bdT s) := ⟨_, rfl⟩
        have hkE : kE s = 3 + na + kb := by rw [hna, hkb]; rfl
        have hzE : szE s = (hdT s).word.size + ((hdT s).args.length + szS (hdT s).args + szT d (bdT s)) := rfl
        have hzb : szT d (bdT s) ≤ 1048576 := by omega
        have hnb : na ≤ 1048576 := by omega
        rw [← hna] at q2 hsl
        have hkl2 : K0 + (3 + na + kb) ≤ Z := by omega
        have HKE2 : Hid (kT (d + 1) (l.take (t + 1)) = K0 + (3 + na + kb)) := by rw [hke, hkE]; exact rfl
        have HKB := Lib.hid hkb
        have HNA := Lib.hid hna
        have SL := Lib.hid hsl
        have BD := Lib.hid hbd
        clear hke hkl hzm hsz hs hkE hzE hK0 hna hkb hset hsl hbd
        have hfo : ∀ j, wr.frozen? ⟨b, off + j, none⟩ = false := hf
        have f0 : wr.frozen? ⟨b, (off + t * 5), none⟩ = false := hf _
        have f1 : wr.frozen? ⟨b, (off + t * 5) + 1, none⟩ = false := by rw [Nat.add_assoc]; exact hf _
        have f3 : wr.frozen? ⟨b, (off + t * 5) + 3, none⟩ = false := by rw [Nat.add_assoc]; exact hf _
        have S0 : S5 wr b (off + t * 5) _ _ _ _ _ := ⟨q0, q1, q2, q3, q4⟩
        obtain ⟨w1, hw1⟩ : ∃ w1, w1 = wr.setCell ⟨b, (off + t * 5), none⟩ (.int .i64 (k + K0)) := ⟨_, rfl⟩
        have S1 := S0.set0 (.int .i64 (k + K0))
        have F1 := (Fc.refl b (off + t * 5) m1 m1 wr).set (i := off + t * 5) ⟨Nat.le_refl _, by omega⟩ (.int .i64 (k + K0))
        have P1 := (Kp.refl lo hi wr).set (j := off + t * 5) ⟨hb1, hb2⟩ (.int .i64 (k + K0))
        rw [← hw1] at S1 F1 P1
        have HW1 := Lib.hid hw1
        have hz1 : w1.heap.size = wr.heap.size := by rw [hw1, size_setCell]
        have F1 := Lib.hid F1
        have P1 := Lib.hid P1
        have HFO := Lib.hid hfo
        clear hw1 hf hfo
        go_wp2_with fail
        rw [← HW1.out]
        refine (markText_any _ _ (by omega) (by omega)).mono ?_
        rintro e w2 ⟨rfl, b2, s2⟩
        have S2 := S1.kp (b2.block b (by omega))
        have F2 := F1.out.kp (p := m1) (q := m1) (Kp.of_below b2) (Nat.le_refl _) (Nat.le_refl _) hb3 (by omega)
        have P2 := P1.out.trans (Kp.of_below b2)
        clear q0 q1 q2 q3 q4 f0 S0 S1 F1 P1 b2
        have g1 : w2.frozen? ⟨b, (off + t * 5) + 1, none⟩ = false := (F2.fr _).trans f1
        have y1 := S2.2.1
        obtain ⟨w3, hw3⟩ : ∃ w3, w3 = w2.setCell ⟨b, (off + t * 5) + 1, none⟩ (.string (mtx (k + K0 + 1))) := ⟨_, rfl⟩
        have S3 := S2.set1 (.string (mtx (k + K0 + 1)))
        have y2 := S3.2.2.1
        have F3 := F2.set (i := off + t * 5 + 1) ⟨by omega, by omega⟩ (.string (mtx (k + K0 + 1)))
        have P3 := P2.set (j := off + t * 5 + 1) ⟨hb1, hb2⟩ (.string (mtx (k + K0 + 1)))
        rw [← hw3] at S3 F3 P3
        have HW3 := Lib.hid hw3
        have hz3 : w3.heap.size = w2.heap.size := by rw [hw3, size_setCell]
        have S3 := Lib.hid S3
        have F3 := Lib.hid F3
        have P3 := Lib.hid P3
        clear hw3 S2 F2 P2
        go_wp2_with fail
        rw [← HW3.out]
        clear y1 y2 g1
        have SL3 := F3.out.sl SL.out (by omega)
        refine (markStringS_sl m1 cc _ _ _ _ _ _ SL3 (by omega) (by omega) (by omega) (by omega)).mono ?_
        rintro e w4 ⟨rfl, SL4, k4⟩
        have hz4 := k4.size
        have S4 := S3.out.kp (k4.far b (by omega) (by omega))
        have F4 := (F3.out.point (n1 := m1) (n2 := cc)).kp k4 (Nat.le_refl _) (Nat.le_refl _) hb3 (by omega)
        have P4 := P3.out.trans (k4.wide (by omega) (by omega))
        have BD4 := TrI.keep k4.size (F3.out.tr BD.out (by omega)) (fun x h1 h2 h3 => k4.far x h3 (by omega))
        have g3 : w4.frozen? ⟨b, (off + t * 5) + 3, none⟩ = false := (F4.fr _).trans f3
        have y3 := S4.2.2.2.1
        obtain ⟨w5, hw5⟩ : ∃ w5, w5 = w4.setCell ⟨b, (off + t * 5) + 3, none⟩ (.int .i64 (k + K0 + 1 + 1 + na)) := ⟨_, rfl⟩
        have S5' := S4.set3 (.int .i64 (k + K0 + 1 + 1 + na))
        have y4 := S5'.2.2.2.2
        have F5 := F4.set (i := off + t * 5 + 3) ⟨by omega, by omega⟩ (.int .i64 (k + K0 + 1 + 1 + na))
        have P5 := P4.set (j := off + t * 5 + 3) ⟨hb1, hb2⟩ (.int .i64 (k + K0 + 1 + 1 + na))
        have G5 : w4.grownBy (w4.setCell ⟨b, (off + t * 5) + 3, none⟩ (.int .i64 (k + K0 + 1 + 1 + na))) (some b) := gr_set _
        rw [← hw5] at S5' F5 P5 G5
        have HW5 := Lib.hid hw5
        have hz5 := G5.size
        have SL5 := Lib.hid (SL4.keep (fun x h1 h2 h3 => G5.block x h3 (fun e => by injection e with e; omega)) G5.size)
        have BD5 := Lib.hid (TrI.keep G5.size BD4 (fun x h1 h2 h3 => G5.block x h3 (fun e => by injection e with e; omega)))
        have S5' := Lib.hid S5'
        have F5 := Lib.hid F5
        have P5 := Lib.hid P5
        clear hw5 S4 F4 P4 SL4 BD4 SL3 k4 S3 F3 P3 BD SL G5
        go_wp2_with fail
        rw [← HW5.out]
        clear y3 y4 g3 f1 f3
        refine (ih cc m2 _ _ _ (bdT s) _ _ BD5.out (by omega) hzb (by omega) (by rw [← HKB.out]; omega)).mono ?_
        rintro e w6 ⟨rfl, BD6, k6⟩
        rw [← HKB.out]
        have hz6 := k6.size
        have S6 := S5'.out.kp (k6.far b (by omega) (by omega))
        have F6 := (F5.out.wide (n1 := m1) (n2 := m2) (by omega) (by omega)).kp k6 (by omega) (by omega) hb3 (by omega)
        have P6 := Lib.hid (P5.out.trans (k6.wide (by omega) (by omega)))
        have SL6 := SL5.out.keep (fun x h1 h2 h3 => k6.far x h3 (by omega)) k6.size
        have TR6 := HSET.out w6 (mkE (mkd d) (k + K0) s) F6.sz (by show (mkW _ _).length = _; rw [mkW_len]) (fun x h1 _ _ h2 h3 => F6.bl x h1 h2 h3) F6.ce (fun j => (F6.fr _).trans (HFO.out j)) (by
          obtain ⟨z0, z1, z2, z3, z4⟩ := S6
          refine ⟨z0, z1, z2.trans ?_, z3.trans ?_, z4⟩
          · show _ = some (Value.slice Aa (mkW _ _).length ca)
            rw [mkW_len, ← HNA.out]
          · show _ = some (Value.int .i64 (k + K0 + 2 + (hdT s).args.length))
            rw [← HNA.out]
            congr 2
            omega) (by
          show SlI w6 m1 cc 1 Aa (mkW _ _).length (strs (mkW (k + K0 + 2) (hdT s).args.length))
          rw [mkW_len, strs_mkW, ← HNA.out]
          have e2 : k + (K0 : Int) + 2 = k + K0 + 1 + 1 := by omega
          rw [e2]
          exact SL6) (by
          show TrI w6 d cc m2 Ab nb (mkd d (k + K0 + 3 + (hdT s).args.length) (bdT s))
          rw [← HNA.out]
          have e2 : k + (K0 : Int) + 3 + na = k + K0 + 1 + 1 + na + 1 := by omega
          rw [e2]
          exact BD6)
        rw [HST.out] at TR6
        have TR6 := Lib.hid TR6
        clear S6 F6 SL6 BD6 k6 S5' F5 P5 SL5 BD5
        go_wp2_with fail
        go_roundw
        case rel => exact ⟨t + 1, by omega, by go_num, by rw [HKE2.out]; congr 1; omega, TR6.out, hkp.out.trans P6.out⟩
        case measure => simp [intOf]; omega
      · obtain rfl : t = n := by omega
        have e1 : l.take t = l := List.take_of_length_le (by rw [HL.out]; exact Nat.le_refl _)
        have e2 : l.drop t = [] := List.drop_of_length_le (by rw [HL.out]; exact Nat.le_refl _)
        have HF := Lib.hid htr.out
        rw [e1, e2, List.append_nil] at HF
        have HE := Lib.hid (show kT (d + 1) (l.take t) = Z by rw [e1, HZ.out])
        clear e1 e2
        go_wp2_with fail
        go_ret
        exact ⟨by rw [HE.out]; rfl, HF.out, hkp.out⟩
end Go.Proofs.YthkbckkghnbonaaDoor
namespace Go.Proofs.YthkbckkghnbonaaDoor
open Go.RowKit
set_option linter.unusedVariables false
theorem mkL_get {d : Nat} (g : Int → List (Tr d) → List (Tr d)) : ∀ (l : List (Tr (d + 1))) (k : Int) (t : Nat) (s : Tr (d + 1)), l[t]? = some s → (mkL g k l)[t]? = some (mkE g (k + kT (d + 1) (l.take t)) s) := by
  intro l
  induction l with
  | nil => intro k t s h; simp at h
  | cons x l ih =>
    intro k t s h
    cases t with
    | zero =>
      simp only [List.getElem?_cons_zero, Option.some.injEq] at h
      subst h
      show some (mkE g k x) = some (mkE g (k + ((kT (d + 1) ([] : List (Tr (d + 1))) : Nat) : Int)) x)
      have : ((kT (d + 1) ([] : List (Tr (d + 1))) : Nat) : Int) = 0 := by simp [kT]
      rw [this, Int.add_zero]
    | succ t =>
      simp only [List.getElem?_cons_succ] at h
      show (mkL g (k + kE x) l)[t]? = some (mkE g (k + ((kT (d + 1) (x :: l.take t) : Nat) : Int)) s)
      rw [ih (k + kE x) t s h, kT_cons]
      congr 2
      omega
def HdSaid (d : Nat) : Prop := ∀ (lo : Nat) (A : Option Addr) (n c : Nat) (l : List (Tr d)) (k : Int) (w : World), RdT w lo d A n (mkd d k l) → szT d l ≤ 1048576 → 1 ≤ k → k + kT d l ≤ 1099511627776 →
  Calls Tryd.prog 24 #[.slice A n c, .int .i64 k] w fun e w' => e = .returned (.int .i64 (k + kT d l)) ∧ Below w.heap.size w w' ∧ w.heap.size ≤ w'.heap.size
set_option maxRecDepth 100000 in
set_option maxHeartbeats 4000000 in
theorem heldStmtS_all : ∀ (d : Nat), HdSaid d := by
  intro d
  induction d with
  | zero =>
    intro lo A n c l k w h _ _ _
    obtain rfl : n = 0 := h.2
    go_enter Tryd.func24, Tryd.ntmps24
    go_wp2
    refine wp_loop_rounds 1 ?_
    rw [rounds_succ]
    go_wp2
    go_ret
    exact ⟨by simp [kT], Below.refl _ _, Nat.le_refl _⟩
  | succ d ih =>
    intro lo A n c l k w h hsz hk0 hk1
    have hl : l.length = n := by
      have h1 := h.len
      rwa [show mkd (d + 1) k l = mkL (mkd d) k l from rfl, mkL_len] at h1
    have hn : n ≤ 1048576 := by rw [szT_succ] at hsz; omega
    have H := Lib.hid h
    have HL := Lib.hid hl
    have HSZ := Lib.hid hsz
    obtain ⟨Z, hZ⟩ : ∃ Z, Z = kT (d + 1) l := ⟨_, rfl⟩
    have HZ := Lib.hid hZ
    rw [← hZ] at hk1 ⊢
    clear h hl hsz hZ
    go_enter Tryd.func24, Tryd.ntmps24
    go_wp2
    go_loopw [1, 5] (fun kk i wr => ∃ t : Nat, t ≤ n ∧ i = .int .i64 t ∧ kk = .int .i64 (k + kT (d + 1) (l.take t)) ∧ Below w.heap.size w wr) (fun _ i _ => n - (intOf i).toNat)
    case atStart => exact ⟨0, Nat.zero_le _, rfl, by simp [kT], Below.refl _ _⟩
    case round =>
      obtain ⟨t, ht, rfl, rfl, hbw⟩ := hrel
      have hms := hbw.size
      by_cases hlt : t < n
      · obtain ⟨s, hs⟩ : ∃ s, l[t]? = some s := ⟨_, List.getElem?_eq_getElem (by have := HL.out; omega)⟩
        obtain ⟨b, off, s', Aa, ca, Ab, nb, cb, rfl, hb3, hs', ⟨q0, q1, q2, q3, q4⟩, ra, rb⟩ := (H.out.below hbw).at_ hlt
        have hse := mkL_get (mkd d) l k t s hs
        rw [show mkd (d + 1) k l = mkL (mkd d) k l from rfl, hse] at hs'
        injection hs' with hs'
        subst hs'
        have hke := kT_take l t s hs
        have hkl := kT_take_le l (t + 1)
        have hzm := szT_mem hs
        have hsz := HSZ.out
        rw [szT_succ] at hsz
        rw [← HZ.out] at hkl
        obtain ⟨K0, hK0⟩ : ∃ K0, K0 = kT (d + 1) (l.take t) := ⟨_, rfl⟩
        rw [← hK0] at hke q0 q1 q2 q3 ra rb ⊢
        obtain ⟨na, hna⟩ : ∃ na, na = (hdT s).args.length := ⟨_, rfl⟩
        obtain ⟨kb, hkb⟩ : ∃ kb, kb = kT d (bdT s) := ⟨_, rfl⟩
        have hkE : kE s = 3 + na + kb := by rw [hna, hkb]; rfl
        have hzE : szE s = (hdT s).word.size + ((hdT s).args.length + szS (hdT s).args + szT d (bdT s)) := rfl
        have hzb : szT d (bdT s) ≤ 1048576 := by omega
        have hnb : na ≤ 1048576 := by omega
        have e2 : k + (K0 : Int) + 2 = k + K0 + 1 + 1 := by omega
        have e3 : k + (K0 : Int) + 2 + na = k + K0 + 1 + 1 + na := by omega
        have e4 : k + (K0 : Int) + 3 + na = k + K0 + 1 + 1 + na + 1 := by omega
        have p0 : wr.cell? ⟨b, off + t * 5, none⟩ = some (.int .i64 (k + K0)) := q0
        have p1 : wr.cell? ⟨b, off + t * 5 + 1, none⟩ = some (.string (mtx (k + K0 + 1))) := q1
        have p2 : wr.cell? ⟨b, off + t * 5 + 2, none⟩ = some (.slice Aa na ca) := by
          have e : (hdT (mkE (mkd d) (k + K0) s)).args.length = na := by rw [hna]; exact mkW_len _ _
          rw [← e]; exact q2
        have p3 : wr.cell? ⟨b, off + t * 5 + 3, none⟩ = some (.int .i64 (k + K0 + 1 + 1 + na)) := by
          have e : (hdT (mkE (mkd d) (k + K0) s)).count = k + K0 + 1 + 1 + na := by rw [← e3, hna]; rfl
          rw [← e]; exact q3
        have ra : Rd wr 1 Aa na (marksS (k + K0 + 1 + 1) na) := by
          have e : (hdT (mkE (mkd d) (k + K0) s)).args = mkW (k + K0 + 1 + 1) na := by rw [← e2, hna]; rfl
          rw [e, strs_mkW, mkW_len] at ra
          exact ra.rd
        have rb : RdT wr lo d Ab nb (mkd d (k + K0 + 1 + 1 + na + 1) (bdT s)) := by
          have e : bdT (mkE (mkd d) (k + K0) s) = mkd d (k + K0 + 1 + 1 + na + 1) (bdT s) := by rw [← e4, hna]; rfl
          rw [← e]; exact rb
        have hkl2 : K0 + (3 + na + kb) ≤ Z := by omega
        have HKE2 : Hid (kT (d + 1) (l.take (t + 1)) = K0 + (3 + na + kb)) := by rw [hke, hkE]; exact rfl
        have HKB := Lib.hid hkb
        have RA := Lib.hid ra
        have RB := Lib.hid rb
        clear hke hkl hzm hsz hs hkE hzE hK0 hna hkb hse e2 e3 e4 q0 q1 q2 q3 ra rb
        have p4 : wr.cell? ⟨b, off + t * 5 + 4, none⟩ = some (.slice Ab nb cb) := q4
        clear q4
        go_wp2_with fail
        go_region_held3 (fun W => W.cell? ⟨b, off + t * 5 + 1, none⟩ = some (.string (mtx (k + K0 + 1)))) (first | exact p1 | exact p1') (first | (go_at_call 44; (with_reducible refine (markText_any _ _ (by omega) (by omega)).mono ?_); rintro e w1 ⟨rfl, b1d, s1d⟩; have b1 := below_undrew5 b1d; have s1 := b1.size; have p1' := (b1.cell (p := ⟨b, off + t * 5 + 1, none⟩) hb3).trans p1))
        have p2 := (b1.cell (p := ⟨b, off + t * 5 + 2, none⟩) hb3).trans p2
        have p3 := (b1.cell (p := ⟨b, off + t * 5 + 3, none⟩) hb3).trans p3
        have p4 := (b1.cell (p := ⟨b, off + t * 5 + 4, none⟩) hb3).trans p4
        have RA1 := Lib.hid (RA.out.below b1)
        have RB1 := Lib.hid (RB.out.below b1)
        have hb1 : b < w1.heap.size := Nat.lt_of_lt_of_le hb3 b1.size
        clear RA RB p0 p1 p1'
        go_wp2_with fail
        refine (heldStringS_any _ _ _ _ _ RA1.out (by omega) (by omega) (by omega)).mono ?_
        rintro e w2 ⟨rfl, b2, s2⟩
        have p3 := (b2.cell (p := ⟨b, off + t * 5 + 3, none⟩) hb1).trans p3
        have p4 := (b2.cell (p := ⟨b, off + t * 5 + 4, none⟩) hb1).trans p4
        have RB2 := Lib.hid (RB1.out.below b2)
        have d1 : decide (k + (K0 : Int) + 1 + 1 + na < 0) = false := decide_eq_false (by omega)
        clear p2 RA1 RB1
        go_wp2_with fail
        refine (ih lo _ _ _ (bdT s) _ _ RB2.out hzb (by omega) (by rw [← HKB.out]; omega)).mono ?_
        rintro e w3 ⟨rfl, b3, s3⟩
        rw [← HKB.out]
        have d2 : decide (k + (K0 : Int) + 1 + 1 + na + 1 + kb < 0) = false := decide_eq_false (by omega)
        clear p3 p4
        go_wp2_with fail
        go_roundw
        case rel => exact ⟨t + 1, by omega, by go_num, by rw [HKE2.out]; congr 1; omega, ((hbw.trans (b1.mono hms)).trans (b2.mono (by omega))).trans (b3.mono (by omega))⟩
        case measure => simp [intOf]; omega
      · obtain rfl : t = n := by omega
        have HF : Hid (kT (d + 1) (l.take t) = Z) := by
          rw [List.take_of_length_le (by rw [HL.out]; exact Nat.le_refl _)]
          exact HZ.out.symm
        go_wp2_with fail
        go_ret
        exact ⟨by rw [← HF.out]; rfl, hbw, hbw.size⟩
set_option maxRecDepth 100000 in
set_option maxHeartbeats 1000000 in
theorem heldProgram_any (d lo m nb : Nat) (l : List (Tr d)) (Aq : Option Addr) (cq : Nat) (Ab : Option Addr) (cb : Nat) (k : Int) (w : World) (ha : Rd w 1 Aq m (marksS k m)) (hb : RdT w lo d Ab nb (mkd d (k + m) l)) (hn : m ≤ 1048576) (hsz : szT d l ≤ 1048576) (hk0 : 1 ≤ k) (hk1 : k ≤ 1000000) :
    Calls Tryd.prog 9 #[.agg #[.slice Aq m cq, .slice Ab nb cb], .int .i64 k] w fun e w' => e = .returned (.int .i64 (k + m + kT d l)) ∧ Below w.heap.size w w' ∧ w.heap.size ≤ w'.heap.size := by
  have hkl := kT_le d l
  have mb : Below w.heap.size w (w.alloc (.cells #[.slice Aq m cq, .slice Ab nb cb] 25)) := below_alloc1
  have HA := Lib.hid (ha.below mb)
  have HB := Lib.hid (hb.below mb)
  have MB := Lib.hid mb
  obtain ⟨Z, hZ⟩ : ∃ Z, Z = kT d l := ⟨_, rfl⟩
  have HZ := Lib.hid hZ
  rw [← hZ] at hkl ⊢
  clear ha hb mb hZ
  go_enter Tryd.func9, Tryd.ntmps9
  go_wp2_with fail
  obtain ⟨w0, hw0⟩ : ∃ w0, w0 = w.alloc (.cells #[.slice Aq m cq, .slice Ab nb cb] 25) := ⟨_, rfl⟩
  have X0 := Lib.hid (show w0.heap[w.heap.size]? = some (.cells #[.slice Aq m cq, .slice Ab nb cb] 25 (0, 0)) by rw [hw0]; exact boxed1_0 _ _)
  have hs0 : w.heap.size + 1 = w0.heap.size := by rw [hw0]; simp
  rw [← hw0] at HA HB MB ⊢
  clear hw0
  refine (heldStringS_any _ _ _ _ _ HA.out (by omega) (by omega) (by omega)).mono ?_
  rintro e w1 ⟨rfl, b1, s1⟩
  have hx : w1.heap[w.heap.size]? = some (.cells #[.slice Aq m cq, .slice Ab nb cb] 25 (0, 0)) := (b1.block w.heap.size (by omega)).trans X0.out
  have p4 := cell_at (j := 1) (u := .slice Ab nb cb) hx rfl
  have hlt : w.heap.size < w1.heap.size := by omega
  have HB1 := Lib.hid (HB.out.below b1)
  have M1 := Lib.hid (MB.out.trans (b1.mono (by omega)))
  have d1 : decide (k + (m : Int) < 0) = false := decide_eq_false (by omega)
  clear hx b1
  go_wp2_with fail
  refine (heldStmtS_all d lo _ _ _ l _ _ HB1.out hsz (by omega) (by rw [← HZ.out]; omega)).mono ?_
  rintro e w2 ⟨rfl, b2, s2⟩
  rw [← HZ.out]
  have M2 := Lib.hid (M1.out.trans (b2.mono (by omega)))
  have d2 : decide (k + (m : Int) + Z < 0) = false := decide_eq_false (by omega)
  clear b2
  go_wp2_with fail
  go_ret
  exact ⟨rfl, M2.out, M2.out.size⟩
set_option maxRecDepth 100000 in
set_option maxHeartbeats 1000000 in
theorem markProgram_tri (d lo c hi m nb : Nat) (xs : List Value) (l : List (Tr d)) (Aq : Option Addr) (cq : Nat) (Ab : Option Addr) (cb : Nat) (k : Int) (w : World) (ha : SlI w lo c 1 Aq m xs) (hb : TrI w d c hi Ab nb l) (h1 : lo ≤ c ∧ c ≤ hi) (hh : hi ≤ w.heap.size) (hn : m ≤ 1048576) (hsz : szT d l ≤ 1048576) (hk0 : 1 ≤ k) (hk1 : k ≤ 1000000) :
    Calls Tryd.prog 8 #[.agg #[.slice Aq m cq, .slice Ab nb cb], .int .i64 k] w fun e w' => e = .returned (.int .i64 (k + m + kT d l)) ∧ SlI w' lo c 1 Aq m (marksS k m) ∧ TrI w' d c hi Ab nb (mkd d (k + m) l) ∧ Kp lo hi w w' := by
  have hkl := kT_le d l
  have mb : Below w.heap.size w (w.alloc (.cells #[.slice Aq m cq, .slice Ab nb cb] 25)) := below_alloc1
  have HA := Lib.hid (ha.keep (fun b _ _ h => mb.block b h) mb.size)
  have HB := Lib.hid (TrI.keep mb.size hb (fun b _ _ h => mb.block b h))
  have MB := Lib.hid (Kp.of_below (lo := lo) (hi := hi) mb)
  obtain ⟨Z, hZ⟩ : ∃ Z, Z = kT d l := ⟨_, rfl⟩
  have HZ := Lib.hid hZ
  rw [← hZ] at hkl ⊢
  clear ha hb mb hZ
  go_enter Tryd.func8, Tryd.ntmps8
  go_wp2_with fail
  obtain ⟨w0, hw0⟩ : ∃ w0, w0 = w.alloc (.cells #[.slice Aq m cq, .slice Ab nb cb] 25) := ⟨_, rfl⟩
  have X0 := Lib.hid (show w0.heap[w.heap.size]? = some (.cells #[.slice Aq m cq, .slice Ab nb cb] 25 (0, 0)) by rw [hw0]; exact boxed1_0 _ _)
  have hs0 : w.heap.size + 1 = w0.heap.size := by rw [hw0]; simp
  rw [← hw0] at HA HB MB ⊢
  clear hw0
  refine (markStringS_sl lo c _ _ _ _ _ _ HA.out (by omega) (by omega) (by omega) (by omega)).mono ?_
  rintro e w1 ⟨rfl, sl1, m1⟩
  have hs1 := m1.size
  have hx : w1.heap[w.heap.size]? = some (.cells #[.slice Aq m cq, .slice Ab nb cb] 25 (0, 0)) := (m1.far w.heap.size (by omega) (.inr (by omega))).trans X0.out
  have p4 := cell_at (j := 1) (u := .slice Ab nb cb) hx rfl
  have hlt : w.heap.size < w1.heap.size := by omega
  have HB1 := Lib.hid (TrI.keep m1.size HB.out (fun b h1 _ h3 => m1.far b h3 (.inr h1)))
  have M1 := Lib.hid (MB.out.trans (m1.wide (Nat.le_refl _) h1.2))
  have SL1 := Lib.hid sl1
  clear hx m1 sl1
  go_wp2_with fail
  refine (markStmtS_tri d c hi _ _ _ l _ _ HB1.out (by omega) hsz (by omega) (by rw [← HZ.out]; omega)).mono ?_
  rintro e w2 ⟨rfl, tr2, m2⟩
  rw [← HZ.out]
  have M2 := Lib.hid (M1.out.trans (m2.wide h1.1 (Nat.le_refl _)))
  have SL2 := Lib.hid (SL1.out.keep (fun b _ h2 h3 => m2.far b h3 (.inl h2)) m2.size)
  have TR2 := Lib.hid tr2
  clear m2 tr2
  go_wp2_with fail
  go_ret
  exact ⟨rfl, SL2.out, TR2.out, M2.out⟩
end Go.Proofs.YthkbckkghnbonaaDoor
namespace Go.Proofs.YthkbckkghnbonaaDoor
open Go.ChangeShapes Go.WideShapes Go.ChangeAt Go.RowKit
set_option linter.unusedVariables false
theorem openStr {H : Type} {enc : TypeId × Value → H} {P : Program} {w : World} {base : Nat} {sp : Nat → Bool} {held : Bool} {r : Reach} {b0 : Nat} {t : TypeId} {v : Value} {d : DataW H} {ps : List MemPlace} (ht : P.underlying t = some .string) (hval : Value.okWide P w r b0 t v) (hd : DataW.Trod enc P w base sp held t v d ps) : ∃ s : ByteArray, v = .string s ∧ s.size ≤ maxLen := by
  obtain ⟨s, rfl⟩ := okWide_string ht hval
  obtain ⟨fuel, hf⟩ := hd
  obtain ⟨s', h, _, hs⟩ := DataW.trod_string ht hf
  simp [Value.cells] at h
  subst h
  exact ⟨s, rfl, hs⟩
theorem LVb.up {B : Nat} {w : World} (h : LVb B w) : LVb w.heap.size w := by
  obtain ⟨h1, ⟨A, c, g1, g2, g3⟩, he, h4, h5⟩ := h
  exact ⟨Nat.le_refl _, ⟨A, c, g1, Nat.lt_of_lt_of_le g2 h1, g3.mono (fun b _ h => Nat.lt_of_lt_of_le h h1)⟩, he, h4, ⟨Nat.lt_of_lt_of_le h5.1 h1, Nat.lt_of_lt_of_le h5.2 h1⟩⟩
end Go.Proofs.YthkbckkghnbonaaDoor
namespace Go.Proofs.YthkbckkghnbonaaDoor
open Go.RowKit
set_option linter.unusedVariables false
def RetP4 (c : Int) (i : Nat) (qs : List ByteArray) (l : List (Tr 5)) (w : World) (e : Ending) (w' : World) : Prop :=
  ∃ Aq nq cq Ab nb cb m, e = .returned (.tuple #[.agg #[.slice Aq nq cq, .slice Ab nb cb], .int .i64 c, .int .i64 (i : Int)]) ∧ SlI w' w.heap.size m 1 Aq nq (strs qs) ∧ TrI w' 5 m w'.heap.size Ab nb l ∧
    (nq ≤ cq ∧ cq ≤ maxLen) ∧ (w.heap.size ≤ m ∧ m ≤ w'.heap.size) ∧ Below w.heap.size w w'
end Go.Proofs.YthkbckkghnbonaaDoor
