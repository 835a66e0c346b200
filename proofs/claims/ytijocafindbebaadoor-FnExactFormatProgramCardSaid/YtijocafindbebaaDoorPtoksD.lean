/- ProgramTokens on both sides: the tokens of a valid program, none of another. -/
import Derived.Test.YtijocafindbebaaDoorPtoks
namespace Go.Proofs.YtijocafindbebaaDoor
open Go.RowKit
set_option linter.unusedVariables false
theorem progV_valid {d : Nat} {qs : List ByteArray} {l : List (Tr d)} (h : progV d qs l = true) : validT d l = true := by
  unfold progV pgR at h
  simp only [Bool.and_eq_true] at h
  exact h.2.2.1
theorem progV_qs {d : Nat} {qs : List ByteArray} {l : List (Tr d)} (h : progV d qs l = true) : allW qs = true := by
  unfold progV pgR at h
  simp only [Bool.and_eq_true] at h
  exact h.2.1
/-- The tokens that ProgramTokens answers. -/
def pTks (d : Nat) (qs : List ByteArray) (l : List (Tr d)) : List Tk := stToks (progV d qs l) (pg1 qs (toksT d l))
theorem pTks_len (d : Nat) (qs : List ByteArray) (l : List (Tr d)) : (pTks d qs l).length ≤ 2 + qs.length + 4 * szT d l := by
  have h1 := stToks_len (progV d qs l) (pg1 qs (toksT d l))
  have h2 := toksT_len d l
  rw [pg1_len] at h1
  unfold pTks
  omega
set_option maxRecDepth 100000 in
set_option maxHeartbeats 1000000 in
theorem ptoks_spec_no (Aq : Option Addr) (m cq : Nat) (Ab : Option Addr) (nb cb : Nat) (w : World)
    (hval : ∀ w', Below w.heap.size w w' → Calls Tryd.prog 18 #[.agg #[.slice Aq m cq, .slice Ab nb cb]] w' fun e w'' => e = .returned (.bool false) ∧ Below w'.heap.size w' w'' ∧ w'.heap.size ≤ w''.heap.size) :
    Calls Tryd.prog 28 #[.agg #[.slice Aq m cq, .slice Ab nb cb]] w (RetTk w []) := by
  have HV := Lib.hid hval
  clear hval
  go_enter Tryd.func28, Tryd.ntmps28
  go_wp2_with fail
  refine (HV.out _ (by repeat (first | exact Below.refl _ _ | assumption | (refine Below.trans ?_ (Below.mono (by assumption) (by first | omega | (simp; done) | (simp; omega)))) | (with_reducible refine Below.drew ?_) | (with_reducible refine Below.alloc ?_ (by first | omega | (simp; done) | (simp; omega)) _) | (with_reducible refine Below.setCell ?_ (by first | omega | (simp; done) | (simp; omega)) _)))).mono ?_
  rintro e w1 ⟨rfl, b1, s1⟩
  have hb1 : Below w.heap.size w w1 := ((Below.refl _ _).alloc (Nat.le_refl _) _).trans (b1.mono (by simp))
  have hs1 := hb1.size
  clear b1 s1
  go_wp2_with fail
  go_ret
  exact ⟨_, rfl, own_low (own_empty w1 _ 2) hs1, (by repeat (first | exact Below.refl _ _ | assumption | (refine Below.trans ?_ (Below.mono (by assumption) (by first | omega | (simp; done) | (simp; omega)))) | (with_reducible refine Below.drew ?_) | (with_reducible refine Below.alloc ?_ (by first | omega | (simp; done) | (simp; omega)) _) | (with_reducible refine Below.setCell ?_ (by first | omega | (simp; done) | (simp; omega)) _))), (by first | omega | (simp; done) | (simp; omega))⟩
theorem elts_spec : ∀ (d lo : Nat) (Ab : Option Addr) (nb : Nat) (l : List (Tr d)) (w : World), RdT w lo d Ab nb l → szT d l ≤ 1048576 → validT d l = true → ∃ rs, rs.length = nb ∧ nb ≤ 1048576 ∧ EltsT 22 w Ab nb rs ∧ rs.flatten = toksT d l := by
  intro d lo Ab nb l w hrb hsz hv
  cases d with
  | zero =>
    obtain rfl := szT_zero_len hrb
    exact ⟨[], rfl, Nat.zero_le _, fun t ht => absurd ht (by omega), rfl⟩
  | succ d =>
    have hlen := hrb.len
    subst hlen
    refine ⟨_, by simp, by rw [szT_succ] at hsz; omega, fun t ht => ?_, (toksT_succ l).symm⟩
    obtain ⟨b, off, s, Aa', ca', Ab', nb', cb', rfl, hbl, hs, ⟨c0, c1, c2, c3, c4⟩, g2, g3⟩ := hrb.at_ ht
    refine ⟨b, off, (hdT s).k, (hdT s).word, Aa', (hdT s).args.length, ca', (hdT s).count, Ab', nb', cb', _, rfl, hbl, ⟨c0, c1, c2, c3, c4⟩, by rw [List.getElem?_map, hs]; rfl, fun w' hw' => ?_⟩
    have hme := szT_mem hs
    have hq := hsz
    rw [szT_succ] at hq
    unfold szE at hme
    exact StmtTokens_spec_v d lo _ _ _ _ (bdT s) _ _ _ _ _ _ (g2.below hw') (g3.below hw') (by omega) (by omega) (by omega) (validT_mem hv hs)
theorem ProgramTokens_spec (d lo lo' : Nat) (Aq : Option Addr) (cq : Nat) (qs : List ByteArray) (l : List (Tr d)) (Ab : Option Addr) (nb cb : Nat) (w : World) (hra : RdL w lo 1 Aq qs.length (strs qs)) (hrb : RdT w lo' d Ab nb l) (hm : qs.length ≤ 1048576) (hz : szS qs ≤ 1048576) (hsz : szT d l ≤ 1048576) :
    Calls Tryd.prog 28 #[.agg #[.slice Aq qs.length cq, .slice Ab nb cb]] w (RetTk w (pTks d qs l)) := by
  have hv := fun w' (hw' : Below w.heap.size w w') => IsValidProgram_spec d lo lo' Aq cq qs l Ab nb cb w' (hra.below hw') (hrb.below hw') hm hz hsz
  unfold pTks
  cases hp : progV d qs l
  · rw [stToks_f]
    rw [hp] at hv
    exact ptoks_spec_no Aq _ cq Ab nb cb w hv
  · rw [stToks_t]
    rw [hp] at hv
    obtain ⟨rs, h1, h2, h3, h4⟩ := elts_spec d lo' Ab nb l w hrb hsz (progV_valid hp)
    rw [← h4]
    have := toksT_len d l
    exact ptoks_spec_v Aq _ cq qs Ab nb cb w rs rfl hra.rd hm h2 h1 h3 (by rw [h4]; omega) hv
set_option maxRecDepth 100000 in
set_option maxHeartbeats 1000000 in
theorem ptoks_impl_no (Aq : Option Addr) (m cq : Nat) (Ab : Option Addr) (nb cb : Nat) (w : World)
    (hval : ∀ w', Below w.heap.size w w' → Calls Tryd.prog 20 #[.agg #[.slice Aq m cq, .slice Ab nb cb]] w' fun e w'' => e = .returned (.bool false) ∧ Below w'.heap.size w' w'' ∧ w'.heap.size ≤ w''.heap.size) :
    Calls Tryd.prog 29 #[.agg #[.slice Aq m cq, .slice Ab nb cb]] w (RetTk w []) := by
  have HV := Lib.hid hval
  clear hval
  go_enter Tryd.func29, Tryd.ntmps29
  go_wp2_with fail
  refine (HV.out _ (by repeat (first | exact Below.refl _ _ | assumption | (refine Below.trans ?_ (Below.mono (by assumption) (by first | omega | (simp; done) | (simp; omega)))) | (with_reducible refine Below.drew ?_) | (with_reducible refine Below.alloc ?_ (by first | omega | (simp; done) | (simp; omega)) _) | (with_reducible refine Below.setCell ?_ (by first | omega | (simp; done) | (simp; omega)) _)))).mono ?_
  rintro e w1 ⟨rfl, b1, s1⟩
  have hb1 : Below w.heap.size w w1 := ((Below.refl _ _).alloc (Nat.le_refl _) _).trans (b1.mono (by simp))
  have hs1 := hb1.size
  clear b1 s1
  go_wp2_with fail
  go_ret
  exact ⟨_, rfl, World.ownsRow_nil _ _ _ _, hb1, hs1⟩
theorem elts_impl : ∀ (d lo : Nat) (Ab : Option Addr) (nb : Nat) (l : List (Tr d)) (w : World), RdT w lo d Ab nb l → szT d l ≤ 1048576 → validT d l = true → ∃ rs, rs.length = nb ∧ nb ≤ 1048576 ∧ EltsT 66 w Ab nb rs ∧ rs.flatten = toksT d l := by
  intro d lo Ab nb l w hrb hsz hv
  cases d with
  | zero =>
    obtain rfl := szT_zero_len hrb
    exact ⟨[], rfl, Nat.zero_le _, fun t ht => absurd ht (by omega), rfl⟩
  | succ d =>
    have hlen := hrb.len
    subst hlen
    refine ⟨_, by simp, by rw [szT_succ] at hsz; omega, fun t ht => ?_, (toksT_succ l).symm⟩
    obtain ⟨b, off, s, Aa', ca', Ab', nb', cb', rfl, hbl, hs, ⟨c0, c1, c2, c3, c4⟩, g2, g3⟩ := hrb.at_ ht
    refine ⟨b, off, (hdT s).k, (hdT s).word, Aa', (hdT s).args.length, ca', (hdT s).count, Ab', nb', cb', _, rfl, hbl, ⟨c0, c1, c2, c3, c4⟩, by rw [List.getElem?_map, hs]; rfl, fun w' hw' => ?_⟩
    have hme := szT_mem hs
    have hq := hsz
    rw [szT_succ] at hq
    unfold szE at hme
    exact tokensOf_impl d lo _ _ _ _ (bdT s) _ _ _ _ _ _ (g2.below hw') (g3.below hw') (by omega) (by omega) (validT_mem hv hs)
theorem ProgramTokens_impl (d lo lo' : Nat) (Aq : Option Addr) (cq : Nat) (qs : List ByteArray) (l : List (Tr d)) (Ab : Option Addr) (nb cb : Nat) (w : World) (hra : RdL w lo 1 Aq qs.length (strs qs)) (hrb : RdT w lo' d Ab nb l) (hG : GN w) (hm : qs.length ≤ 1048576) (hz : szS qs ≤ 1048576) (hsz : szT d l ≤ 1048576) :
    Calls Tryd.prog 29 #[.agg #[.slice Aq qs.length cq, .slice Ab nb cb]] w (RetTk w (pTks d qs l)) := by
  have hv := fun w' (hw' : Below w.heap.size w w') => IsValidProgram_impl d lo lo' Aq cq qs l Ab nb cb w' (hra.below hw') (hrb.below hw') (hG.below hw') hm hz hsz
  unfold pTks
  cases hp : progV d qs l
  · rw [stToks_f]
    rw [hp] at hv
    exact ptoks_impl_no Aq _ cq Ab nb cb w hv
  · rw [stToks_t]
    rw [hp] at hv
    obtain ⟨rs, h1, h2, h3, h4⟩ := elts_impl d lo' Ab nb l w hrb hsz (progV_valid hp)
    rw [← h4]
    have := toksT_len d l
    exact ptoks_impl_v Aq _ cq qs Ab nb cb w rs rfl hra.rd hm h2 h1 h3 (by rw [h4]; omega) hv
end Go.Proofs.YtijocafindbebaaDoor
